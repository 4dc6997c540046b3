/- Parts of a proof, laid together. Each part says its own conditions. -/
import Derived.Test.YtbpeemhfjgcnaaaGreatC32
import Derived.Test.YtbpeemhfjgcnaaaGreatC33
import Derived.Test.YtbpeemhfjgcnaaaGreatC34
import Derived.Test.YtbpeemhfjgcnaaaGreatC29
import Derived.Test.YtbpeemhfjgcnaaaGreatC35
import Derived.Test.YtbpeemhfjgcnaaaGreatC20
namespace Go.Proofs.YtbpeemhfjgcnaaaGreat
open Go Go.RowKit Go.Shelf
attribute [local go_sem] qUpon lUpon
attribute [local irreducible] wpO wpX wpQL
theorem slPt1 {w : World} {b : Nat} {p : Option Addr} (h : Blk w b 24 #[.pointer p]) : SlAt encPt 1 w (some ⟨b,0,none⟩) [p] := slat_blk [p] h rfl (fun _ => rfl) (by simp)
theorem slPt2 {w : World} {b : Nat} {p q : Option Addr} (h : Blk w b 24 #[.pointer p, .pointer q]) : SlAt encPt 1 w (some ⟨b,0,none⟩) [p,q] := slat_blk [p,q] h rfl (fun _ => rfl) (by simp)
theorem asked1 (b : Nat) (p : Option Addr) (e : Nat) (z : Int) (w : World) (h : Blk w b 24 #[.pointer p]) (hk : AskIs w p e) (hz : z = (e : Int)) : Calls Tryz.prog 39 #[.slice (some ⟨b,0,none⟩) 1 1] w fun e' w' => e' = .returned (.int .i64 z) ∧ Ext w w' := by
 have h1 := asked_any (some ⟨b,0,none⟩) [p] [e] 1 1 w (slPt1 h) rfl rfl (by decide) (fun i h1 h2 => by
  obtain rfl : i = 0 := by simp at h1; omega
  exact hk)
 rw [show ((askL [e] : Nat) : Int) = z by rw [hz]; unfold askL askL; split <;> omega] at h1
 exact h1
theorem asked2 (b : Nat) (p q : Option Addr) (e f : Nat) (z : Int) (w : World) (h : Blk w b 24 #[.pointer p, .pointer q]) (hk : AskIs w p e) (hq : AskIs w q f) (hz : z = ((if e = 0 then f else e : Nat) : Int)) : Calls Tryz.prog 39 #[.slice (some ⟨b,0,none⟩) 2 2] w fun e' w' => e' = .returned (.int .i64 z) ∧ Ext w w' := by
 have h1 := asked_any (some ⟨b,0,none⟩) [p,q] [e,f] 2 2 w (slPt2 h) rfl rfl (by decide) (fun i h1 h2 => by
  rcases i with _ | _ | i
  ·exact hk
  ·exact hq
  ·simp at h1; omega)
 rw [show ((askL [e,f] : Nat) : Int) = z by rw [hz]; by_cases he : e = 0 <;> by_cases hf : f = 0 <;> simp [askL,he,hf]] at h1
 exact h1
theorem AskIs.good {w : World} {g bv be : Nat} {V : List (Int × Thing)} {E : List ((Int × Int) × Thing)} (h : IsG w g bv be V E) (hl : V.length ≤ 8) : AskIs w (some ⟨g,0,none⟩) 0 := .inr ⟨g,bv,be,V,E,rfl,h,by rw [if_neg (by omega)]⟩
theorem St.perm {b : Nat} {L L' : List Cl} {Rs : List Rw} {W : World} (h : St b L Rs W) (hp : L.Perm L') : St b L' Rs W := by
 have h2 : (stT L Rs).Perm (stT L' Rs) := (hp.map _).append_right _
 exact ⟨fun e he => h.cells e (hp.mem_iff.2 he),h.rows,h2.nodup_iff.1 h.nd,fun x hx => h.ge x (h2.mem_iff.2 hx)⟩
theorem infoIz : (Tryz.prog.info? 3).map (fun i => (i.zero,i.size,i.bytes)) = some (some (.int .i64 0),1,8) := by kernel_rfl
def atF (ids fm : List Int) (j : Nat) (_ : Int) : Int := idxI (ids.getD j 0) fm
theorem idxI_of {x : Int} : ∀ {L : List Int},x ∈ L → idxI x L = (L.idxOf x : Int)
 | y :: r,h => by
  by_cases e : y = x
  ·subst e
   exact (idxI_hit (x := y) (L := y :: r) (i := 0) (by simp) rfl (fun j hj => absurd hj (Nat.not_lt_zero j))).trans (by simp)
  ·have hr : x ∈ r := by
    rcases List.mem_cons.1 h with h | h
    ·exact absurd h.symm e
    ·exact h
   rw [List.idxOf_cons,show (y == x) = false by simpa using e,cond_false]
   have hlt : r.idxOf x < r.length := List.idxOf_lt_length_of_mem hr
   refine (idxI_hit (i := r.idxOf x + 1) (by simpa using hlt) (by simp) (fun j hj => ?_)).trans (by simp)
   rcases j with _ | j
   ·exact e
   ·simp only [List.getElem_cons_succ]
    have h9 := List.not_of_lt_findIdx (p := (· == x)) (xs := r) (i := j) (show j < r.idxOf x by omega)
    simpa using h9
theorem at_full {V : List (Int × Thing)} {fm : List Int} {n : Nat} (hn : n = V.length) (hp : fm.Perm (idsV V)) : mixL (atF (idsV V) fm) (List.replicate n 0) n = atP fm (idsV V) := by
 have h1 := mixL_full (atF (idsV V) fm) (List.replicate n (0 : Int))
 rw [List.length_replicate] at h1
 rw [h1]
 unfold atP
 apply List.ext_getElem
 ·rw [List.length_mapIdx,List.length_replicate,List.length_map,idsV_len,hn]
 ·intro i h2 h3
  rw [List.getElem_mapIdx,List.getElem_map]
  have h4 : i < (idsV V).length := by simpa using h3
  unfold atF
  rw [getD_at h4,idxI_of (hp.mem_iff.2 (List.getElem_mem h4))]
def CfPost (V : List (Int × Thing)) (E : List ((Int × Int) × Thing)) (w : World) (e : Ending) (w' : World) : Prop := ∃ f bv be V2 E2 A n c,e = .returned (.tuple #[.pointer (some ⟨f,0,none⟩), .slice A n c, .int .i64 0]) ∧ n = V.length ∧ IsG w' f bv be V2 E2 ∧ IsCan V E V2 E2 ∧ w'.ownsRow w.heap.size 3 1 (.slice A n c) n ((formP V E (idsV V)).flatMap encI) ∧ Ext w w' ∧ w.heap.size ≤ f ∧ w.heap.size ≤ bv ∧ w.heap.size ≤ be
theorem slat_v {w : World} {b t : Nat} {L : List Int} (h : Blk w b t (vA encI L)) (hl : L.length ≤ 1000000) : SlAt encI 1 w (some ⟨b,0,none⟩) L := slat_blk L h (by rw [flat_len (k := 1) fun _ => rfl]) (fun _ => rfl) hl
set_option maxRecDepth 100000 in
set_option maxHeartbeats 16000000 in
theorem canon_any (g bv be : Nat) (V : List (Int × Thing)) (E : List ((Int × Int) × Thing)) (w : World) (hg : IsG w g bv be V E) (hl : V.length ≤ 8) (hlb : LabB V E) :
  Calls Tryz.prog 13 #[.pointer (some ⟨g,0,none⟩)] w (CfPost V E w) := by
 have hg' := hide hg
 have hl' := hide hl
 have hlb' := hide hlb
 have hi := hide hg.inv
 obtain ⟨z,hz0⟩ : ∃ z : Int,z = ((0 : Nat) : Int) := ⟨_,rfl⟩
 have hq : ((z : Int) != 0) = false := by rw [hz0]; rfl
 have hz' := hide hz0
 obtain ⟨nv,hnv0⟩ : ∃ nv,nv = V.length := ⟨_,rfl⟩
 have hnv := hide hnv0
 have hn8 := hide (show nv ≤ 8 by omega)
 clear hg hl hlb hz0 hnv0
 have hP := hide (Sp.new w)
 refine callsIn_wide.1 (callsIn_of_wp_marks (n := 0) Tryz.func13 rfl trivial (wpIn_wide.2 ?_))
 simp only [Tryz.ntmps13,List.size_toArray,List.length_cons,List.length_nil,Nat.reduceAdd,Nat.reduceSub,Array.replicate_succ,Array.replicate_zero,List.push_toArray,List.append_toArray,List.nil_append,List.cons_append]
 try dsimp only
 repeat ((fail_if_success (with_reducible refine wp_reg (id := 0) ?_)); (first | go_values | go_skip | go_step | go_guarded | go_upon | go_in | go_back | fail))
 with_reducible refine wp_reg (id := 0) ?_
 refine (unhide hP).allocO 24 #[.pointer (some ⟨g,0,none⟩)] rfl (run_box (v := .pointer (some ⟨g,0,none⟩)) rfl rfl) ?_
 intro b1 y1 hQ
 replace hP : Hid (Sp w [] w [] [(b1,24, #[.pointer (some ⟨g,0,none⟩)])] [] y1) := hide hQ
 clear hQ
 iterate 3
  refine wpO_want rfl ?_
  go_simp
 refine wpO_done ?_
 try go_frame
 try dsimp only
 repeat ((fail_if_success (with_reducible refine wp_reg (id := 1) ?_)); (first | go_values | go_skip | go_step | go_guarded | go_upon | go_in | go_back | fail))
 with_reducible refine wp_reg (id := 1) ?_
 refine wpO_val rfl (load_V (v := .pointer (some ⟨g,0,none⟩)) rfl rfl (by simp [go_sem]) (((unhide hP).get 0 rfl).cell 0)) ?_
 go_frame
 refine (unhide hP).buildO 1 24 #[.pointer (some ⟨g,0,none⟩)] rfl (by go_simp) ?_
 intro bp y2 hQ
 replace hP : Hid (Sp w [] w [] [(b1,24, #[.pointer (some ⟨g,0,none⟩)]),(bp,24, #[.pointer (some ⟨g,0,none⟩)])] [] y2) := hide hQ
 clear hQ
 try go_frame
 refine wpO_want rfl ?_
 go_simp
 refine (asked1 bp (some ⟨g,0,none⟩) 0 z y2 ((unhide hP).get 1 rfl) (AskIs.good ((unhide hg').ext (unhide hP).extf) (unhide hl')) (unhide hz')).mono ?_
 rintro _ y3 ⟨rfl,hxc⟩
 refine ⟨_,rfl, ?_⟩
 replace hP : Hid (Sp w [] w [] [(b1,24, #[.pointer (some ⟨g,0,none⟩)]),(bp,24, #[.pointer (some ⟨g,0,none⟩)])] [] y3) := hide ((unhide hP).ext hxc)
 clear hxc
 refine wpO_want rfl ?_
 go_simp
 refine wpO_done ?_
 try go_frame
 replace hP : Hid (Sp w [] w [] [(b1,24, #[.pointer (some ⟨g,0,none⟩)])] [] y3) := hide ((unhide hP).sub (List.sublist_append_left _ ([(bp,24, #[.pointer (some ⟨g,0,none⟩)])] : List Cl)) (List.Sublist.refl _))
 try dsimp only
 repeat ((fail_if_success (with_reducible refine wp_reg (id := 2) ?_)); (first | go_values | go_skip | go_step | go_guarded | go_upon | go_in | go_back | fail))
 with_reducible refine wp_reg (id := 2) ?_
 iterate 2
  refine wpO_want rfl ?_
  go_simp
 refine wpO_done ?_
 try go_frame
 clear hq
 try dsimp only
 repeat ((fail_if_success (with_reducible refine wp_reg (id := 4) ?_)); (first | go_values | go_skip | go_step | go_guarded | go_upon | go_in | go_back | fail))
 with_reducible refine wp_reg (id := 4) ?_
 refine (unhide hP).allocO 31 #[.slice none 0 0] rfl (by go_simp) ?_
 intro b6 y4 hQ
 replace hP : Hid (Sp w [] w [] [(b1,24, #[.pointer (some ⟨g,0,none⟩)]),(b6,31, #[.slice none 0 0])] [] y4) := hide hQ
 clear hQ
 refine (unhide hP).allocO 31 #[.slice none 0 0] rfl (by go_simp) ?_
 intro b7 y5 hQ
 replace hP : Hid (Sp w [] w [] [(b1,24, #[.pointer (some ⟨g,0,none⟩)]),(b6,31, #[.slice none 0 0]),(b7,31, #[.slice none 0 0])] [] y5) := hide hQ
 clear hQ
 refine wpO_done ?_
 try go_frame
 try dsimp only
 repeat ((fail_if_success (with_reducible refine wp_reg (id := 5) ?_)); (first | go_values | go_skip | go_step | go_guarded | go_upon | go_in | go_back | fail))
 with_reducible refine wp_reg (id := 5) ?_
 refine (unhide hP).allocO 4 #[.bool false] rfl (by go_simp) ?_
 intro b8 y6 hQ
 replace hP : Hid (Sp w [] w [] [(b1,24, #[.pointer (some ⟨g,0,none⟩)]),(b6,31, #[.slice none 0 0]),(b7,31, #[.slice none 0 0]),(b8,4, #[.bool false])] [] y6) := hide hQ
 clear hQ
 refine (unhide hP).setO 3 #[.bool false] rfl rfl (fun hb => run_store_row (v := .bool false) rfl rfl rfl (by simp [go_sem]) hb rfl (by simp [Value.cells,Value.oneCell'])) ?_
 intro y7 hQ
 replace hP : Hid (Sp w [] w [] [(b1,24, #[.pointer (some ⟨g,0,none⟩)]),(b6,31, #[.slice none 0 0]),(b7,31, #[.slice none 0 0]),(b8,4, #[.bool false])] [] y7) := hide hQ
 clear hQ
 refine wpO_done ?_
 try go_frame
 try dsimp only
 repeat ((fail_if_success (with_reducible refine wp_reg (id := 6) ?_)); (first | go_values | go_skip | go_step | go_guarded | go_upon | go_in | go_back | fail))
 with_reducible refine wp_reg (id := 6) ?_
 refine wpO_val rfl (load_V (v := .pointer (some ⟨g,0,none⟩)) rfl rfl (by simp [go_sem]) (((unhide hP).get 0 rfl).cell 0)) ?_
 go_frame
 refine wpO_want rfl ?_
 go_simp
 have hca := vertices_rel g bv be V E y7 ((unhide hg').ext (unhide hP).extf)
 rw [← unhide hnv] at hca
 refine hca.mono ?_
 clear hca
 rintro _ y8 ⟨A1,c1,rfl,ho1,hxc⟩
 refine ⟨_,rfl, ?_⟩
 replace hP : Hid (Sp w [] w [] [(b1,24, #[.pointer (some ⟨g,0,none⟩)]),(b6,31, #[.slice none 0 0]),(b7,31, #[.slice none 0 0]),(b8,4, #[.bool false])] [(81,3, .slice A1 nv c1,nv,V.flatMap encV)] y8) := hide ((unhide hP).addRow hxc ho1)
 clear hxc ho1
 refine wpO_want rfl ?_
 go_simp
 refine wpO_want rfl ?_
 go_simp
 have hst0 := (unhide hP).st
 have hst1 := hst0.sub (List.Sublist.refl _) (List.nil_sublist _)
 have hst2 := ((hst1.perm (L' := [(b1,24, #[.pointer (some ⟨g,0,none⟩)]),(b8,4, #[.bool false]),(b7,31, #[.slice none 0 0]),(b6,31, #[.slice none 0 0])]) (by
  exact List.Perm.cons _ (List.reverse_perm ([(b8,4, #[.bool false]),(b7,31, #[.slice none 0 0]),(b6,31, #[.slice none 0 0])] : List Cl)))).nil 3 1).nil 3 1
 have hj : CanJ w g b1 b8 b7 b6 E [] (List.range w.heap.size ++ stT (canL g b1 b8 b7 b6 false none 0 0 none 0 0) (canR none 0 0 none 0 0 [] [])) y8 := ⟨none,none,0,0,none,0,0,[],[],rfl,hst2,rfl,(unhide hP).extf,rfl,rfl,fun b h => by cases h⟩
 have hca := numberings_any (can_tell w g bv be b1 b8 b7 b6 nv V E (unhide hg') (unhide hlb') (unhide hn8)) A1 V E c1 y8 [] _ (own_at (by have h := (unhide hP).row 0 rfl; rw [unhide hnv] at h; exact h) (fun _ => rfl)) (unhide hi) (unhide hnv) (unhide hn8) hj
 refine Calls.mono hca ?_
 clear hca hj hst0 hst1 hst2
 rintro _ W9 ⟨rfl,ws,T9,hwp,hws,hj,_,_⟩
 refine ⟨_,rfl, ?_⟩
 rw [List.nil_append] at hj
 obtain ⟨s9,Al,nl,cl,Ab,nb,cb,ls,bs,hs,hst,_,hxw,hll,hbl,hbb⟩ := hj
 have hwn : (ws.map (·.1)).Nodup := (List.Perm.map (fun p : Int × Thing => p.1) hwp).nodup_iff.2 (unhide hi).idsN
 obtain ⟨fm,hb9⟩ := numb_some (V := V) (E := E) hwn
 rw [hb9] at hs
 have hfm := hide (numb_form (unhide hi) hwp hws hb9)
 subst hs
 obtain ⟨hbs,_,_⟩ := hbb _ rfl
 have hbs2 : fm = bs := hbs.symm
 subst hbs2
 have hform := hide (show IsForm V E (idsV V) fm from by rw [unhide hfm]; exact formP_is V E (unhide hi).idsS)
 obtain rfl : nb = nv := by rw [hbl,(unhide hform).perm.length_eq,idsV_len]; exact (unhide hnv).symm
 have hfl := hide hbl
 have hP := hide (Sp.ofSt hst hxw)
 unfold canL canR at hP
 simp only [Option.isSome_some] at hP
 clear hb9 hwn hwp hws hst hxw hll hbl hbb
 obtain ⟨T9b,hT9b⟩ : ∃ T,T = stT [(b1,24, #[.pointer (some ⟨g,0,none⟩)]),(b8,4, #[.bool true]),(b7,31, #[.slice Al nl cl]),(b6,31, #[.slice Ab nb cb])] [(3,1, .slice Al nl cl,nl,ls.flatMap encI),(3,1, .slice Ab nb cb,nb,fm.flatMap encI)] := ⟨_,rfl⟩
 rw [← hT9b] at hP
 clear hT9b
 refine wpO_done ?_
 try go_frame
 try dsimp only
 repeat ((fail_if_success (with_reducible refine wp_reg (id := 7) ?_)); (first | go_values | go_skip | go_step | go_guarded | go_upon | go_in | go_back | fail))
 with_reducible refine wp_reg (id := 7) ?_
 refine wpO_val rfl (load_V (v := .slice Ab nb cb) rfl rfl (by simp [go_sem]) (((unhide hP).get 3 rfl).cell 0)) ?_
 go_frame
 refine wpO_want rfl ?_
 go_simp
 refine (unhide hP).buildO nb 3 (vA encI (List.replicate nb 0)) rfl (run_mkA (enc := encI) (k := 1) (z := .int .i64 0) (0 : Int) rfl rfl rfl (by have := unhide hn8; omega) Tryz.underlying31 infoIz (by decide) rfl (fun _ => rfl) (by decide) _) ?_
 intro bt y9 hQ
 replace hP : Hid (Sp w T9b W9 [] [(b1,24, #[.pointer (some ⟨g,0,none⟩)]),(b8,4, #[.bool true]),(b7,31, #[.slice Al nl cl]),(b6,31, #[.slice Ab nb cb]),(bt,3,vA encI (List.replicate nb 0))] [(3,1, .slice Al nl cl,nl,ls.flatMap encI),(3,1, .slice Ab nb cb,nb,fm.flatMap encI)] y9) := hide hQ
 clear hQ
 try go_frame
 refine wpO_want rfl ?_
 go_simp
 refine wpO_done ?_
 try go_frame
 try dsimp only
 repeat ((fail_if_success (with_reducible refine wp_reg (id := 8) ?_)); (first | go_values | go_skip | go_step | go_guarded | go_upon | go_in | go_back | fail))
 with_reducible refine wp_reg (id := 8) ?_
 refine wpO_val rfl (load_V (v := .pointer (some ⟨g,0,none⟩)) rfl rfl (by simp [go_sem]) (((unhide hP).get 0 rfl).cell 0)) ?_
 go_frame
 refine wpO_want rfl ?_
 go_simp
 have hca := vertices_rel g bv be V E y9 ((unhide hg').ext (unhide hP).extf)
 rw [← unhide hnv] at hca
 refine hca.mono ?_
 clear hca
 rintro _ y10 ⟨A2,c2,rfl,ho1,hxc⟩
 refine ⟨_,rfl, ?_⟩
 replace hP : Hid (Sp w T9b W9 [] [(b1,24, #[.pointer (some ⟨g,0,none⟩)]),(b8,4, #[.bool true]),(b7,31, #[.slice Al nl cl]),(b6,31, #[.slice Ab nb cb]),(bt,3,vA encI (List.replicate nb 0))] [(3,1, .slice Al nl cl,nl,ls.flatMap encI),(3,1, .slice Ab nb cb,nb,fm.flatMap encI),(81,3, .slice A2 nb c2,nb,V.flatMap encV)] y10) := hide ((unhide hP).addRow hxc ho1)
 clear hxc ho1
 iterate 2
  refine wpO_want rfl ?_
  go_simp
 refine wpO_done ?_
 try go_frame
 go_wp2_with fail
 obtain ⟨I10_2,hI10_20⟩ : ∃ I : Nat → Act → World → Prop,I = fun fi a' wr => ∃ (i : Nat),a'.tmps.size = 52 ∧ a'.tmps.getD 1 undef = .pointer (some ⟨b1,0,none⟩) ∧ a'.tmps.getD 6 undef = .pointer (some ⟨b6,0,none⟩) ∧ a'.tmps.getD 9 undef = .slice (some ⟨bt,0,none⟩) nb nb ∧ a'.tmps.getD 28 undef = .slice A2 nb c2 ∧ a'.tmps.getD 29 undef = .int .i64 (nb : Nat) ∧ a'.tmps.getD 30 undef = .int .i64 (i : Nat) ∧ a'.defers = [] ∧ i ≤ nb ∧ Sp w T9b W9 [] [(b1,24, #[.pointer (some ⟨g,0,none⟩)]),(b8,4, #[.bool true]),(b7,31, #[.slice Al nl cl]),(b6,31, #[.slice Ab nb cb]),(bt,3,vA encI (mixL (atF (idsV V) fm) (List.replicate nb 0) i))] [(3,1, .slice Al nl cl,nl,ls.flatMap encI),(3,1, .slice Ab nb cb,nb,fm.flatMap encI),(81,3, .slice A2 nb c2,nb,V.flatMap encV)] wr ∧ fi = nb - i := ⟨_,rfl⟩
 have hI10_2 := hide hI10_20
 clear hI10_20
 refine wp_loop_ix I10_2 (nb - 0) ?_ ?_
 ·rw [unhide hI10_2]; exact ⟨0,rfl,rfl,rfl,rfl,rfl,rfl,rfl,rfl,Nat.zero_le _,by rw [mixL_zero]; exact unhide hP,rfl⟩
 ·rintro fi ⟨tm,dfs⟩ wr hrel
  rw [unhide hI10_2] at hrel
  obtain ⟨i,hsz,e1,e6,e9,e28,e29,e30,hdf,hin,hPr,hfm⟩ := hrel
  obtain ⟨us,rfl⟩ : ∃ us : Nat → Value,tm = #[us 0,us 1,us 2,us 3,us 4,us 5,us 6,us 7,us 8,us 9,us 10,us 11,us 12,us 13,us 14,us 15,us 16,us 17,us 18,us 19,us 20,us 21,us 22,us 23,us 24,us 25,us 26,us 27,us 28,us 29,us 30,us 31,us 32,us 33,us 34,us 35,us 36,us 37,us 38,us 39,us 40,us 41,us 42,us 43,us 44,us 45,us 46,us 47,us 48,us 49,us 50,us 51] := ⟨fun i => tm.getD i undef,arr_fn hsz⟩
  have h1 : us 1 = .pointer (some ⟨b1,0,none⟩) := e1
  have h6 : us 6 = .pointer (some ⟨b6,0,none⟩) := e6
  have h9 : us 9 = .slice (some ⟨bt,0,none⟩) nb nb := e9
  have h28 : us 28 = .slice A2 nb c2 := e28
  have h29 : us 29 = .int .i64 (nb : Nat) := e29
  have h30 : us 30 = .int .i64 (i : Nat) := e30
  have hdf2 : dfs = [] := hdf
  subst hdf2
  clear hdf hsz e1 e6 e9 e28 e29 e30
  simp only [h1,h6,h9,h28,h29,h30]
  clear h1 h6 h9 h28 h29 h30
  clear hP
  have hP := hide hPr
  have hfm' := hide hfm
  clear hPr hfm
  by_cases hlt : i < nb
  ·skip
   have hil : (i : Int) < (nb : Int) := by omega
   have hiV : i < V.length := by have := unhide hnv; omega
   have hib : (i : Int) ≤ 8 := by have := unhide hn8; omega
   have hst := hide (mixL_step (atF (idsV V) fm) (List.replicate nb (0 : Int)) i (by rw [List.length_replicate]; exact hlt))
   obtain ⟨Cs,hCs0⟩ : ∃ C,C = mixL (atF (idsV V) fm) (List.replicate nb (0 : Int)) i := ⟨_,rfl⟩
   have hCl := hide (show Cs.length = nb by rw [hCs0,mixL_len,List.length_replicate])
   rw [← hCs0] at hP hst
   obtain ⟨⟨x,lab,wt⟩,hp0⟩ : ∃ p,p = V[i] := ⟨_,rfl⟩
   have hix : (idsV V).getD i 0 = x := by rw [getD_at (by rw [idsV_len]; exact hiV)]; simp [idsV, ← hp0]
   simp only [atF,hix] at hst
   obtain ⟨zi,hzi0⟩ : ∃ z,z = idxI x fm := ⟨_,rfl⟩
   rw [← hzi0] at hst
   have hzi := hide hzi0
   obtain ⟨bq,oq,rfl,k0,k1,k2⟩ := atV (own_at (by have h := (unhide hP).row 2 rfl; rw [unhide hnv] at h; exact h) (fun _ => rfl)) hiV
   rw [← hp0] at k0 k1 k2
   dsimp only at k0 k1 k2
   have hself := Ext.refl wr
   have hlt' := hide hlt
   clear hCs0 hp0 hix hzi0
   try dsimp only
   repeat ((fail_if_success (with_reducible refine wp_reg (id := 9) ?_)); (first | go_values | go_skip | go_step | go_guarded | go_upon | go_in | go_back | fail))
   with_reducible refine wp_reg (id := 9) ?_
   refine wpO_want rfl ?_
   go_simp
   refine wpO_done ?_
   try go_frame
   try dsimp only
   repeat ((fail_if_success (with_reducible refine wp_reg (id := 10) ?_)); (first | go_values | go_skip | go_step | go_guarded | go_upon | go_in | go_back | fail))
   with_reducible refine wp_reg (id := 10) ?_
   iterate 3
    refine wpO_want rfl ?_
    go_simp
   refine (unhide hP).allocO 81 #[.int .i64 0, .int .u8 0, .int .i64 0] rfl (by go_simp) ?_
   intro r11 y11 hQ
   replace hP : Hid (Sp w T9b W9 [] [(b1,24, #[.pointer (some ⟨g,0,none⟩)]),(b8,4, #[.bool true]),(b7,31, #[.slice Al nl cl]),(b6,31, #[.slice Ab nb cb]),(bt,3,vA encI Cs),(r11,81, #[.int .i64 0, .int .u8 0, .int .i64 0])] [(3,1, .slice Al nl cl,nl,ls.flatMap encI),(3,1, .slice Ab nb cb,nb,fm.flatMap encI),(81,3, .slice (some ⟨bq,oq,none⟩) nb c2,nb,V.flatMap encV)] y11) := hide hQ
   clear hQ
   refine wpO_want rfl ?_
   go_simp
   refine (unhide hP).setO 5 #[.int .i64 x, .int .u8 lab, .int .i64 wt] rfl rfl (fun hb => run_store_row (v := .agg #[.int .i64 x, .int .u8 lab, .int .i64 wt]) rfl (by rfl) (by rfl) (by simp [go_sem]) hb rfl (fun u hu => by simp [Value.cells] at hu; rcases hu with rfl | rfl | rfl <;> rfl)) ?_
   intro y12 hQ
   replace hP : Hid (Sp w T9b W9 [] [(b1,24, #[.pointer (some ⟨g,0,none⟩)]),(b8,4, #[.bool true]),(b7,31, #[.slice Al nl cl]),(b6,31, #[.slice Ab nb cb]),(bt,3,vA encI Cs),(r11,81, #[.int .i64 x, .int .u8 lab, .int .i64 wt])] [(3,1, .slice Al nl cl,nl,ls.flatMap encI),(3,1, .slice Ab nb cb,nb,fm.flatMap encI),(81,3, .slice (some ⟨bq,oq,none⟩) nb c2,nb,V.flatMap encV)] y12) := hide hQ
   clear hQ
   refine wpO_done ?_
   try go_frame
   clear k0 k1 k2 hself
   have d0 := (unhide hP).cell 5 0 (v := .int .i64 x) rfl rfl
   have hself := Ext.refl y12
   try dsimp only
   repeat ((fail_if_success (with_reducible refine wp_reg (id := 11) ?_)); (first | go_values | go_skip | go_step | go_guarded | go_upon | go_in | go_back | fail))
   with_reducible refine wp_reg (id := 11) ?_
   iterate 2
    refine wpO_want rfl ?_
    go_simp
   refine wpO_val rfl (load_V (v := .slice Ab nb cb) rfl rfl (by simp [go_sem]) (((unhide hP).get 3 rfl).cell 0)) ?_
   go_frame
   iterate 2
    refine wpO_want rfl ?_
    go_simp
   clear d0 hself
   refine wpO_want rfl ?_
   go_simp
   have hca := idx_any Ab fm nb cb x y12 (own_at (by have h := (unhide hP).row 1 rfl; rw [unhide hfl] at h; exact h) (fun _ => rfl)) (unhide hfl) (by have := unhide hn8; omega)
   rw [← unhide hzi] at hca
   refine hca.mono ?_
   clear hca
   rintro _ y13 ⟨rfl,hxc⟩
   refine ⟨_,rfl, ?_⟩
   replace hP : Hid (Sp w T9b W9 [] [(b1,24, #[.pointer (some ⟨g,0,none⟩)]),(b8,4, #[.bool true]),(b7,31, #[.slice Al nl cl]),(b6,31, #[.slice Ab nb cb]),(bt,3,vA encI Cs),(r11,81, #[.int .i64 x, .int .u8 lab, .int .i64 wt])] [(3,1, .slice Al nl cl,nl,ls.flatMap encI),(3,1, .slice Ab nb cb,nb,fm.flatMap encI),(81,3, .slice (some ⟨bq,oq,none⟩) nb c2,nb,V.flatMap encV)] y13) := hide ((unhide hP).ext hxc)
   clear hxc
   refine wpO_want rfl ?_
   go_simp
   refine (unhide hP).setO 4 (vA encI (Cs.set i zi)) rfl rfl (fun hb => run_store_elem1 (enc := encI) (C := Cs) (i := i) (v := .int .i64 zi) zi rfl (by first | rfl | (go_simp; done)) rfl rfl (fun _ => rfl) one_encI (Tryz.sizeOf3 _) hb (by rw [unhide hCl]; exact unhide hlt')) ?_
   intro y14 hQ
   replace hP : Hid (Sp w T9b W9 [] [(b1,24, #[.pointer (some ⟨g,0,none⟩)]),(b8,4, #[.bool true]),(b7,31, #[.slice Al nl cl]),(b6,31, #[.slice Ab nb cb]),(bt,3,vA encI (Cs.set i zi)),(r11,81, #[.int .i64 x, .int .u8 lab, .int .i64 wt])] [(3,1, .slice Al nl cl,nl,ls.flatMap encI),(3,1, .slice Ab nb cb,nb,fm.flatMap encI),(81,3, .slice (some ⟨bq,oq,none⟩) nb c2,nb,V.flatMap encV)] y14) := hide hQ
   clear hQ
   refine wpO_done ?_
   try go_frame
   replace hP : Hid (Sp w T9b W9 [] [(b1,24, #[.pointer (some ⟨g,0,none⟩)]),(b8,4, #[.bool true]),(b7,31, #[.slice Al nl cl]),(b6,31, #[.slice Ab nb cb]),(bt,3,vA encI (Cs.set i zi))] [(3,1, .slice Al nl cl,nl,ls.flatMap encI),(3,1, .slice Ab nb cb,nb,fm.flatMap encI),(81,3, .slice (some ⟨bq,oq,none⟩) nb c2,nb,V.flatMap encV)] y14) := hide ((unhide hP).sub (List.sublist_append_left _ ([(r11,81, #[.int .i64 x, .int .u8 lab, .int .i64 wt])] : List Cl)) (List.Sublist.refl _))
   go_wp2_with fail
   have hp9 := unhide hP
   rw [unhide hst] at hp9
   refine ⟨nb - (i + 1), ?_,by have := unhide hfm'; have := unhide hlt'; omega⟩
   rw [unhide hI10_2]
   exact ⟨i + 1,(by first | rfl | trivial),(by first | rfl | trivial),(by first | rfl | trivial),(by first | rfl | trivial),(by first | rfl | trivial),(by first | rfl | trivial),(by first | rfl | (show _ = Value.int _ _; go_num) | go_num),(by first | rfl | trivial),by have := unhide hlt'; omega,hp9,rfl⟩
  ·skip
   have hil : ¬ (i : Int) < (nb : Int) := by omega
   obtain rfl : nb = i := by omega
   rw [at_full (unhide hnv) (unhide hform).perm] at hP
   have hoT := hide (atP_ok (unhide hi) (unhide hform).perm (by have := unhide hl'; omega))
   obtain ⟨at9,hat0⟩ : ∃ a,a = atP fm (idsV V) := ⟨_,rfl⟩
   rw [← hat0] at hP hoT
   have hat := hide hat0
   have hal := hide (show nb = at9.length by rw [(unhide hoT).len]; exact unhide hnv)
   clear hlt hin hat0
   try dsimp only
   repeat ((fail_if_success (with_reducible refine wp_reg (id := 9) ?_)); (first | go_values | go_skip | go_step | go_guarded | go_upon | go_in | go_back | fail))
   with_reducible refine wp_reg (id := 9) ?_
   refine wpO_want rfl ?_
   go_simp
   refine wpO_done ?_
   try go_frame
   clear hil
   try dsimp only
   repeat ((fail_if_success (with_reducible refine wp_reg (id := 13) ?_)); (first | go_values | go_skip | go_step | go_guarded | go_upon | go_in | go_back | fail))
   with_reducible refine wp_reg (id := 13) ?_
   refine wpO_val rfl (load_V (v := .pointer (some ⟨g,0,none⟩)) rfl rfl (by simp [go_sem]) (((unhide hP).get 0 rfl).cell 0)) ?_
   go_frame
   refine wpO_want rfl ?_
   go_simp
   refine wpO_want rfl ?_
   go_simp
   have hca := relabel_any g bv be V E (some ⟨bt,0,none⟩) at9 nb nb wr ((unhide hg').ext (unhide hP).extf) (slat_v ((unhide hP).get 4 rfl) (by have := unhide hal; have := unhide hn8; omega)) (unhide hal) (fun x hx => okK ⟨((unhide hoT).rng x hx).1,by have := ((unhide hoT).rng x hx).2; omega⟩)
   refine hca.mono ?_
   clear hca
   rintro _ y11 (⟨hne9,_⟩ | ⟨_,f2,bv2,be2,V2,E2,hren,rfl,hg2,hxc,n1,n2,n3⟩)
   ·exact absurd (wrT_ok.2 (unhide hoT)) hne9
   have hz := Below.size (unhide hP).extf
   have n1' := hide (Nat.le_trans hz n1)
   have n2' := hide (Nat.le_trans hz n2)
   have n3' := hide (Nat.le_trans hz n3)
   have hren' := hide hren
   have hg2' := hide hg2
   refine ⟨_,rfl, ?_⟩
   replace hP : Hid (Sp w T9b W9 [] [(b1,24, #[.pointer (some ⟨g,0,none⟩)]),(b8,4, #[.bool true]),(b7,31, #[.slice Al nl cl]),(b6,31, #[.slice Ab nb cb]),(bt,3,vA encI at9)] [(3,1, .slice Al nl cl,nl,ls.flatMap encI),(3,1, .slice Ab nb cb,nb,fm.flatMap encI),(81,3, .slice A2 nb c2,nb,V.flatMap encV)] y11) := hide ((unhide hP).ext hxc)
   clear hxc hren hg2 n1 n2 n3 hz
   generalize htu0 : Value.tuple _ = tu
   have htu := hide htu0
   clear htu0
   refine wpO_val rfl (run_move rfl rfl) ?_
   go_frame
   refine wpO_val rfl (run_extract (i := 0) (v := .pointer (some ⟨f2,0,none⟩)) rfl (unhide htu).symm rfl) ?_
   go_frame
   refine wpO_val rfl (run_extract (i := 1) (v := .int .i64 0) rfl (unhide htu).symm rfl) ?_
   go_frame
   iterate 2
    refine wpO_want rfl ?_
    go_simp
   refine wpO_done ?_
   try go_frame
   clear htu
   go_wp2_with fail
   have q6 := (unhide hP).cell 3 0 (v := .slice Ab nb cb) rfl rfl
   have hself := Ext.refl y11
   refine wp_region_ext (P := Tryz.prog) [0,1,2,3,4,5] [] 0 #[true,true,true,true,true,true] (by kernel_rfl) (by kernel_rfl) rfl (by rfl) ?_
   iterate 6
    first
    | (refine ql_skip rfl (by rfl) ?_)
    | (refine ql_want (v := ?_) rfl (by rfl) (fun W hW => ?_) ?_; rotate_left; (go_simp; (first | done | rfl)))
    try go_frame
   refine wpQL_nil (fun y12 hxq => ?_)
   replace hP : Hid (Sp w T9b W9 [] [(b1,24, #[.pointer (some ⟨g,0,none⟩)]),(b8,4, #[.bool true]),(b7,31, #[.slice Al nl cl]),(b6,31, #[.slice Ab nb cb]),(bt,3,vA encI at9)] [(3,1, .slice Al nl cl,nl,ls.flatMap encI),(3,1, .slice Ab nb cb,nb,fm.flatMap encI),(81,3, .slice A2 nb c2,nb,V.flatMap encV)] y12) := hide ((unhide hP).ext hxq)
   replace hg2' := hide ((unhide hg2').ext hxq)
   clear q6 hself hxq
   refine wpX_done (by kernel_rfl) ?_
   try go_frame
   go_wp2_with fail
   refine Sp.leaves0 ?_
   exact ⟨_,results_tmp3 (t := 2) (u := 3) (v := 4) rfl _ _ _,f2,bv2,be2,V2,E2,Ab,nb,cb,rfl,unhide hnv,unhide hg2',⟨by rw [← unhide hfm, ← unhide hat]; exact unhide hren'⟩,by rw [← unhide hfm]; exact (unhide hP).row 1 rfl,(unhide hP).extf,unhide n1',unhide n2',unhide n3'⟩
end Go.Proofs.YtbpeemhfjgcnaaaGreat
namespace Go.Proofs.YtbpeemhfjgcnaaaGreat
open Go Go.RowKit Go.Shelf
section
variable {P : Program} {ops : Array Oper} {R : World → World → Prop} {C : World → Prop} {safe : Nat → Bool} {Q Q' : Act → World → Prop}
theorem wpX_mono (h : ∀ a w,Q a w → Q' a w) : ∀ (n : Nat) (listed : Array Bool) (a : Act) (w : World),wpX P ops R C safe Q n listed a w → wpX P ops R C safe Q' n listed a w
 | 0,_,_,_,k => ⟨k.1,h _ _ k.2⟩
 | n + 1,_,_,_,k => ⟨fun h0 => h _ _ (k.1 h0),fun i hi => xStep_mono (fun _ _ hk => ⟨hk.1,fun w'' hr => wpX_mono h n _ _ _ (hk.2 w'' hr)⟩) (k.2 i hi)⟩
end
theorem wp_regionKM {P : Program} {id : Nat} {Q : Exit → Act → World → Prop} {a : Act} {w : World} {l : List Oper} (M : Act → World → Prop) (S : List Nat) (qs ts : List Nat) (n : Nat) (listed : Array Bool)
  (hm : P.follows .mixedOrders = true) (hB : qlB l.toArray qs ts (ancTab l.toArray) = true) (hn : n + qs.length = l.length) (hlst : qlListed l.toArray qs (Array.replicate l.length false) = listed)
  (h : wpQL P l.toArray Ext (Keep S w) (fun a' => ∀ w',Ext w w' → wpX P l.toArray Ext (Keep S w) (fun j => !ts.contains j) M n listed a' w') qs a) (h2 : ∀ a' w',M a' w' → Q .normal a' w') : (Code.region id l.toArray true).wp P Q a w :=
 wp_regionK S qs ts n listed hm hB hn hlst (wpQL_mono (fun _ hk w' hx => wpX_mono h2 _ _ _ _ (hk w' hx)) qs _ h)
theorem lx_three {P : Program} {l : List Oper} {R : World → World → Prop} {C : World → Prop} {safe : Nat → Bool} {Q : Act → World → Prop} {n i j k : Nat} {oi oj ok : Oper} {listed : Array Bool} {a : Act} {w : World} (hr : Region.ready .any l.toArray listed = [i,j,k])
  (hoi : pick l i = some oi) (hwi : Region.wanted oi (yielded l.toArray a.tmps) = true) (li : Array Bool) (hli : listed.setIfInBounds i true = li)
  (hoj : pick l j = some oj) (hwj : Region.wanted oj (yielded l.toArray a.tmps) = true) (lj : Array Bool) (hlj : listed.setIfInBounds j true = lj)
  (hok : pick l k = some ok) (hwk : Region.wanted ok (yielded l.toArray a.tmps) = true) (lk : Array Bool) (hlk : listed.setIfInBounds k true = lk)
  (h1 : lUpon P (fun v w' => (safe i = true → C w') ∧ ∀ w'',R w' w'' → wpX P l.toArray R C safe Q n li (a.put oi.dst v) w'') ((execOp a.eval oi).run P w))
  (h2 : lUpon P (fun v w' => (safe j = true → C w') ∧ ∀ w'',R w' w'' → wpX P l.toArray R C safe Q n lj (a.put oj.dst v) w'') ((execOp a.eval oj).run P w))
  (h3 : lUpon P (fun v w' => (safe k = true → C w') ∧ ∀ w'',R w' w'' → wpX P l.toArray R C safe Q n lk (a.put ok.dst v) w'') ((execOp a.eval ok).run P w)) : wpX P l.toArray R C safe Q (n + 1) listed a w := by
 subst hli hlj hlk
 refine ⟨fun h0 => (by rw [hr] at h0; cases h0),fun m hm => ?_⟩
 rw [hr] at hm
 have hmi : m = i ∨ m = j ∨ m = k := by simpa using hm
 rcases hmi with rfl | rfl | rfl
 ·unfold xStep
  simp only [pick_some hoi,hwi,if_true]
  exact h1
 ·unfold xStep
  simp only [pick_some hoj,hwj,if_true]
  exact h2
 ·unfold xStep
  simp only [pick_some hok,hwk,if_true]
  exact h3
theorem Sp.setNL {P : Program} {l : List Oper} {o : Oper} {a : Act} {W w wf : World} {T0 : List Nat} {ds : List Deferred} {L : List Cl} {Rs : List Rw} {S : List Nat} {w1 : World} {safe : Nat → Bool} {q : Prop} {Q : Act → World → Prop} {n : Nat} {li : Array Bool} (h : Sp wf T0 w ds L Rs W) (hK : Keep S w1 W) (i : Nat) {c : Nat} {t : TypeId} {cs : Array Value} (cs' : Array Value) (hi : L[i]? = some (c,t,cs)) (hc : w1.heap.size ≤ c) (hrun : Blk W c t cs → (execOp a.eval o).run P W = .ok .skip (W.setRow c cs'))
  (hk : ∀ W',Sp wf T0 w ds (L.set i (c,t,cs')) Rs W' → Keep S w1 W' → wpX P l.toArray Ext (Keep S w1) safe Q n li (a.put o.dst undef) W') : lUpon P (fun v w' => (q → Keep S w1 w') ∧ ∀ w'',Ext w' w'' → wpX P l.toArray Ext (Keep S w1) safe Q n li (a.put o.dst v) w'') ((execOp a.eval o).run P W) := by
 rw [hrun (h.get i hi)]
 have hK2 : Keep S w1 (W.setRow c cs') := hK.of_new (Keep.setRow W c cs') (fun x hx => by rw [List.mem_singleton] at hx; subst hx; exact .inr hc)
 exact lUpon_skip ⟨fun _ => hK2,fun W' hx => hk W' ((h.set i hi).ext hx) (hK2.trans (hx.keep S))⟩
end Go.Proofs.YtbpeemhfjgcnaaaGreat
