/- Parts of a proof, laid together. Each part says its own conditions. -/
import Derived.Test.YtbpeemhfjgcnaaaGreatC44
namespace Go.Proofs.YtbpeemhfjgcnaaaGreat
open Go Go.RowKit Go.Shelf
attribute [local go_sem] qUpon lUpon
attribute [local irreducible] wpO wpX wpQL
theorem Sp.permR {wf w W : World} {T0 : List Nat} {ds : List Deferred} {L : List Cl} {Rs Rs' : List Rw} (h : Sp wf T0 w ds L Rs W) (hp : Rs.Perm Rs') : Sp wf T0 w ds L Rs' W := by
 have h2 : (stT L Rs).Perm (stT L Rs') := List.Perm.append_left _ (hp.flatMap_right _)
 exact h.step (Keep.refl [] W) (by simp) ⟨h.st.cells,fun r hr => h.st.rows r (hp.mem_iff.2 hr),h2.nodup_iff.1 h.st.nd,fun x hx => h.st.ge x (h2.mem_iff.2 hx)⟩ (fun x hx => .inl (h2.mem_iff.2 hx))
theorem Sp.addSt {wf w W W' : World} {T0 : List Nat} {ds : List Deferred} {L : List Cl} {Rs Rs' : List Rw} (h : Sp wf T0 w ds L Rs W) (hx : Ext W W') (hs : St W.heap.size [] Rs' W') : Sp wf T0 w ds L (Rs ++ Rs') W' := by
 have h1 := h.ext hx
 have hsz := h.size
 have he : stT L (Rs ++ Rs') = stT L Rs ++ stT [] Rs' := by
  unfold stT rwT
  rw [List.flatMap_append,List.map_nil,List.nil_append,List.append_assoc]
 refine h.step (hx.keep []) (by simp) ⟨h1.st.cells,fun r hr => ?_, ?_,fun x hx2 => ?_⟩ (fun x hx2 => ?_)
 ·rcases List.mem_append.1 hr with hr | hr
  ·exact h1.st.rows r hr
  ·exact (hs.rows r hr).le hsz
 ·rw [he,List.nodup_append]
  refine ⟨h1.st.nd,hs.nd,fun a ha b hb e => ?_⟩
  have h2 := h.lt a ha
  have h3 := hs.ge b hb
  omega
 ·rw [he] at hx2
  rcases List.mem_append.1 hx2 with h2 | h2
  ·exact h1.st.ge x h2
  ·have := hs.ge x h2
   omega
 ·rw [he] at hx2
  rcases List.mem_append.1 hx2 with h2 | h2
  ·exact .inl h2
  ·exact .inr (hs.ge x h2)
theorem Sp.first_ne {wf w W : World} {T0 : List Nat} {ds : List Deferred} {L : List Cl} {T k n : Nat} {v : Value} {xs : List Value} {Z : List Rw} (h : Sp wf T0 w ds L ((T,k,v,n,xs) :: Z) W) (hk : k ≠ 0) {r : Rw} (hr : r ∈ Z) {g : Nat} (hg : rwB r = some g) : g ∉ v.ownBlock.toList := by
 intro hm
 have hnd := h.st.nd
 unfold stT at hnd
 have h1 := (List.nodup_append.1 hnd).2.1
 rw [show rwT ((T,k,v,n,xs) :: Z) = (rwB (T,k,v,n,xs)).toList ++ rwT Z from rfl,rwB_slice hk] at h1
 exact (List.nodup_append.1 h1).2.2 g hm g (mem_rwT.2 ⟨r,hr,hg⟩) rfl
theorem ss_get {w : World} {A : Option Addr} {n c : Nat} {J : List (Sl × List Int)} (h : St 0 [] (ssR A n c J) w) (hn : n = J.length) (hl : ∀ p ∈ J,p.1.2.1 = p.2.length) {k : Nat} (hk : k < J.length) : ∃ b off,A = some ⟨b,off,none⟩ ∧ b < w.heap.size ∧ (∀ S W,Keep S w W → b ∉ S → W.cell? ⟨b,off + k,none⟩ = some (.slice J[k].1.1 J[k].1.2.1 J[k].1.2.2)) ∧ SlAt encI 1 w J[k].1.1 J[k].2 := by
 have hP := Sp.bare h
 have h0 : SlAt encSl 1 w A (J.map (·.1)) := by
  have h1 := hP.row 0 rfl
  rw [hn, ← List.length_map (f := fun p : Sl × List Int => p.1)] at h1
  exact own_at (enc := encSl) h1 (fun _ => rfl)
 obtain ⟨b,off,hA,hlt,hc⟩ := atSl h0 (i := k) (by rw [List.length_map]; exact hk)
 simp only [List.getElem_map] at hc
 refine ⟨b,off,hA,hlt,hc, ?_⟩
 have h2 : Sp (bare w) (stT [] (ssR A n c J)) w [] [] ((31,1, .slice A n c,n,(J.map (·.1)).flatMap encSl) :: (J.map rowJ ++ [])) w := by rw [List.append_nil]; exact hP
 exact Sp.atJ h2 hk (hl _ (List.getElem_mem hk))
def allT (n : Nat) (L : List Int) (i : Nat) : List (List Int) := (List.range i).flatMap fun i => (allN n (L.eraseIdx i)).map fun r => L.getD i 0 :: r
theorem allT_full {n : Nat} {L : List Int} : allT n L L.length = allN (n + 1) L := rfl
theorem allT_step {n : Nat} {L : List Int} (i : Nat) : allT n L (i + 1) = allT n L i ++ (allN n (L.eraseIdx i)).map fun r => L.getD i 0 :: r := by
 unfold allT
 rw [List.range_succ,List.flatMap_append]
 simp
theorem allT_len {n : Nat} {L : List Int} (hL : L.length = n + 1) : ∀ i,i ≤ n + 1 → (allT n L i).length = i * fact n
 | 0,_ => by simp [allT]
 | i + 1,h => by
  rw [allT_step,List.length_append,List.length_map,allT_len hL i (by omega),allN_len n (L.eraseIdx i) (by rw [List.length_eraseIdx,if_pos (by omega)]; omega),Nat.add_mul,Nat.one_mul]
theorem fact7 : ∀ n,n ≤ 7 → fact n ≤ 5040 := by
 intro n h
 rcases n with _ | _ | _ | _ | _ | _ | _ | _ | n
 all_goals first | decide | omega
def SsO (w : World) (KK : List (List Int)) (e : Ending) (w' : World) : Prop := ∃ A n c J,e = .returned (.slice A n c) ∧ OwSS w.heap.size KK A n c J w' ∧ Ext w w'
theorem map_next8 {α β : Type} (f : α → β) (P : List α) {k : Nat} (h : k < P.length) : (P.take (k + 1)).map f = (P.take k).map f ++ [f P[k]] := by
 rw [List.take_succ_eq_append_getElem h,List.map_append]; rfl
theorem perm_join {hd : Rw} {X M : List Rw} {r : Rw} : (hd :: ((X ++ M) ++ [r])).Perm (hd :: ((X ++ [r]) ++ M)) := by
 refine List.Perm.cons _ ?_
 rw [List.append_assoc,List.append_assoc]
 exact List.Perm.append_left _ (List.perm_append_comm)
set_option maxRecDepth 100000 in
set_option maxHeartbeats 16000000 in
theorem all08_zero (A : Option Addr) (c : Nat) (L : List Int) (w : World) (hL : L = []) :
  Calls Tryz.prog 48 #[.slice A 0 c] w (SsO w (allN 0 L)) := by
 subst hL
 have hP := hide (Sp.new w)
 refine callsIn_wide.1 (callsIn_of_wp_marks (n := 0) Tryz.func48 rfl trivial (wpIn_wide.2 ?_))
 simp only [Tryz.ntmps48,List.size_toArray,List.length_cons,List.length_nil,Nat.reduceAdd,Nat.reduceSub,Array.replicate_succ,Array.replicate_zero,List.push_toArray,List.append_toArray,List.nil_append,List.cons_append]
 try dsimp only
 repeat ((fail_if_success (with_reducible refine wp_reg (id := 1) ?_)); (first | go_values | go_skip | go_step | go_guarded | go_upon | go_in | go_back | fail))
 with_reducible refine wp_reg (id := 1) ?_
 iterate 3
  refine wpO_want rfl ?_
  go_simp
 refine wpO_done ?_
 try go_frame
 try dsimp only
 repeat ((fail_if_success (with_reducible refine wp_reg (id := 2) ?_)); (first | go_values | go_skip | go_step | go_guarded | go_upon | go_in | go_back | fail))
 with_reducible refine wp_reg (id := 2) ?_
 refine (unhide hP).buildO 1 31 #[.slice none 0 0] rfl (by go_simp) ?_
 intro bo y1 hQ
 replace hP : Hid (Sp w [] w [] [(bo,31, #[.slice none 0 0])] [] y1) := hide hQ
 clear hQ
 try go_frame
 refine wpO_want rfl ?_
 go_simp
 refine wpO_done ?_
 try go_frame
 go_wp2_with fail
 replace hP : Hid (Sp w [] w [] [] [(31,1, .slice (some ⟨bo,0,none⟩) 1 1,1,[.slice none 0 0])] y1) := hide (Sp.toRow (L := []) (b := bo) (t := 31) (n := 1) (cs := #[.slice none 0 0]) (unhide hP) rfl (by decide))
 have hst : St w.heap.size [] (ssR (some ⟨bo,0,none⟩) 1 1 [((none,0,0),[])]) y1 := (unhide hP).st.nil 3 1
 refine Sp.leaves0 ?_
 exact ⟨_,results_tmp (t := 2) rfl _ _ _,some ⟨bo,0,none⟩,1,1,[((none,0,0),[])],rfl,⟨rfl,rfl,(fun p hp => by rw [List.mem_singleton] at hp; subst hp; rfl),hst⟩,(unhide hP).extf⟩
set_option maxRecDepth 100000 in
set_option maxHeartbeats 16000000 in
theorem all08_level (n : Nat) (hn7 : n ≤ 7) (ih : ∀ (A : Option Addr) (L : List Int) (c : Nat) (w : World),SlAt encI 1 w A L → n = L.length → n ≤ c → Calls Tryz.prog 48 #[.slice A n c] w (SsO w (allN n L))) (A : Option Addr) (L : List Int) (nl c : Nat) (w : World) (hA : SlAt encI 1 w A L) (hnl : nl = n + 1) (hn : nl = L.length) (hc : nl ≤ c) :
  Calls Tryz.prog 48 #[.slice A nl c] w (SsO w (allN (n + 1) L)) := by
 have hn7' := hide hn7
 have ih' := hide ih
 have hA' := hide hA
 have hnl' := hide hnl
 have hn' := hide hn
 have hc' := hide hc
 have hz : ((nl : Int) == 0) = false := by simp; omega
 have hf7 := hide (fact7 n hn7)
 clear hn7 ih hA hnl hn hc
 have hP := hide (Sp.new w)
 refine callsIn_wide.1 (callsIn_of_wp_marks (n := 0) Tryz.func48 rfl trivial (wpIn_wide.2 ?_))
 simp only [Tryz.ntmps48,List.size_toArray,List.length_cons,List.length_nil,Nat.reduceAdd,Nat.reduceSub,Array.replicate_succ,Array.replicate_zero,List.push_toArray,List.append_toArray,List.nil_append,List.cons_append]
 try dsimp only
 repeat ((fail_if_success (with_reducible refine wp_reg (id := 1) ?_)); (first | go_values | go_skip | go_step | go_guarded | go_upon | go_in | go_back | fail))
 with_reducible refine wp_reg (id := 1) ?_
 iterate 3
  refine wpO_want rfl ?_
  go_simp
 refine wpO_done ?_
 try go_frame
 clear hz
 replace hP : Hid (Sp w [] w [] [] [(31,1, .slice none 0 0,0,([] : List Sl).flatMap encSl)] w) := hide ((unhide hP).nil 31 1)
 go_wp2_with fail
 obtain ⟨I0_2,hI0_20⟩ : ∃ I : Nat → Act → World → Prop,I = fun fi a' wr => ∃ (i : Nat), ∃ (Ax : Option Addr), ∃ (m : Nat), ∃ (cx : Nat), ∃ (Jn : List (Sl × List Int)),a'.tmps.size = 48 ∧ a'.tmps.getD 0 undef = .slice A nl c ∧ a'.tmps.getD 3 undef = .slice Ax m cx ∧ a'.tmps.getD 4 undef = .int .i64 (i : Nat) ∧ a'.defers = [] ∧ i ≤ nl ∧ m = Jn.length ∧ Jn.map (·.2) = allT n L i ∧ (∀ p ∈ Jn,p.1.2.1 = p.2.length) ∧ Sp w [] w [] [] ((31,1, .slice Ax m cx,m,(Jn.map (·.1)).flatMap encSl) :: (Jn.map rowJ)) wr ∧ fi = nl - i := ⟨_,rfl⟩
 have hI0_2 := hide hI0_20
 clear hI0_20
 refine wp_loop_ix I0_2 (nl - 0) ?_ ?_
 ·rw [unhide hI0_2]; exact ⟨0,none,0,0,[],rfl,rfl,rfl,rfl,rfl,Nat.zero_le _,rfl,rfl,(fun p hp => by cases hp),unhide hP,rfl⟩
 ·rintro fi ⟨tm,dfs⟩ wr hrel
  rw [unhide hI0_2] at hrel
  obtain ⟨i,Ax,m,cx,Jn,hsz,e0,e3,e4,hdf,hin,hm0,hJ0,hJl0,hPr,hfm⟩ := hrel
  obtain ⟨us,rfl⟩ : ∃ us : Nat → Value,tm = #[us 0,us 1,us 2,us 3,us 4,us 5,us 6,us 7,us 8,us 9,us 10,us 11,us 12,us 13,us 14,us 15,us 16,us 17,us 18,us 19,us 20,us 21,us 22,us 23,us 24,us 25,us 26,us 27,us 28,us 29,us 30,us 31,us 32,us 33,us 34,us 35,us 36,us 37,us 38,us 39,us 40,us 41,us 42,us 43,us 44,us 45,us 46,us 47] := ⟨fun i => tm.getD i undef,arr_fn hsz⟩
  have h0 : us 0 = .slice A nl c := e0
  have h3 : us 3 = .slice Ax m cx := e3
  have h4 : us 4 = .int .i64 (i : Nat) := e4
  have hdf2 : dfs = [] := hdf
  subst hdf2
  clear hdf hsz e0 e3 e4
  simp only [h0,h3,h4]
  clear h0 h3 h4
  clear hP
  have hP := hide hPr
  have hfm' := hide hfm
  have hm := hide hm0
  have hJ := hide hJ0
  have hJl := hide hJl0
  clear hPr hfm hm0 hJ0 hJl0
  by_cases hlt : i < nl
  ·skip
   have hil : (i : Int) < (nl : Int) := by omega
   have hlt' := hide hlt
   have hiL : i < L.length := by have := unhide hn'; omega
   have hib : (i : Int) ≤ 8 := by have := unhide hn7'; have := unhide hnl'; omega
   have hmb := hide (show m ≤ 35280 by
    rw [unhide hm, ← List.length_map (f := fun p : Sl × List Int => p.2),unhide hJ,allT_len (by rw [← unhide hn',unhide hnl']) i (by have := unhide hnl'; omega)]
    have h1 : i * fact n ≤ 7 * 5040 := Nat.mul_le_mul (by have := unhide hn7'; have := unhide hnl'; omega) (unhide hf7)
    omega)
   have hst := hide (allT_step (n := n) (L := L) i)
   have hel := hide (show n = (L.eraseIdx i).length by rw [List.length_eraseIdx,if_pos hiL]; have := unhide hn'; have := unhide hnl'; omega)
   obtain ⟨b,off,rfl,c0⟩ := atI ((unhide hA').ext (unhide hP).extf) hiL
   obtain ⟨x,hx0⟩ : ∃ x,x = L.getD i 0 := ⟨_,rfl⟩
   rw [← getD_at hiL, ← hx0] at c0
   rw [← hx0] at hst
   have hxd9 := hide hx0
   have hbw := hide (show b < w.heap.size by
    obtain ⟨b7,o7,h7,h8⟩ := slAt_lt (unhide hA') (by intro e9; rw [e9] at hiL; simp at hiL)
    cases h7
    exact h8)
   have hself := Ext.refl wr
   clear hx0 hlt c0
   try dsimp only
   repeat ((fail_if_success (with_reducible refine wp_reg (id := 5) ?_)); (first | go_values | go_skip | go_step | go_guarded | go_upon | go_in | go_back | fail))
   with_reducible refine wp_reg (id := 5) ?_
   iterate 4
    refine wpO_want rfl ?_
    go_simp
   refine wpO_done ?_
   try go_frame
   clear hself
   go_wp2_with fail
   have hi1w : IntKind.i64.wrap ((i : Int) + 1) = ((i + 1 : Nat) : Int) := by rw [IntKind.wrap_i64]; omega
   refine wp_regionK (P := Tryz.prog) [] [1,2,3,5,6,7,8] [] 5 #[false,true,true,true,false,true,true,true,true,false,false,false] (by kernel_rfl) (by kernel_rfl) rfl (by rfl) ?_
   iterate 2
    refine ql_want (v := ?_) rfl (by rfl) (fun W hW => ?_) ?_
    rotate_left
    ·go_simp
     first | done | rfl
    go_frame
   refine ql_want (v := .slice (some ⟨b,off,none⟩) i c) rfl (by rfl) (fun W hW => by rw [run_sl_to (k := i) rfl rfl (by rfl) Tryz.underlying31 (Tryz.sizeOf3 W) (by have := unhide hlt'; have := unhide hc'; omega)]; exact qUpon_value (Ext.refl _)) ?_
   go_frame
   iterate 2
    refine ql_want (v := ?_) rfl (by rfl) (fun W hW => ?_) ?_
    rotate_left
    ·go_simp
     first | done | rfl
    go_frame
   refine ql_want (v := .int .i64 ((i + 1 : Nat) : Int)) rfl (by rfl) (fun W hW => ?_) ?_
   ·go_simp
    first | done | rfl
   go_frame
   obtain ⟨AM,hAM⟩ : ∃ A,A = restA (some ⟨b,off,none⟩) (i + 1) c 1 := ⟨_,rfl⟩
   obtain ⟨cM,hcM⟩ : ∃ m,m = c - (i + 1) := ⟨_,rfl⟩
   obtain ⟨ni,hni⟩ : ∃ m,m = nl - (i + 1) := ⟨_,rfl⟩
   refine ql_want (v := .slice AM ni cM) rfl (by rfl) (fun W hW => by rw [run_sl_from (k := i + 1) rfl rfl (by rfl) Tryz.underlying31 (Tryz.sizeOf3 W) (by have := unhide hlt'; omega),hAM,hcM,hni]; exact qUpon_value (Ext.refl _)) ?_
   go_frame
   have hsM := hide (fun (W : World) (hW : Ext w W) => show SlAt encI 1 W AM (L.drop (i + 1)) from by rw [hAM]; exact SlAt.rest ((unhide hA').ext hW) (i + 1) c (by rw [← unhide hn']; exact unhide hc'))
   have hni' := hide hni
   clear hAM hcM hni
   refine wpQL_nil (fun y1 hxq => ?_)
   have hK := hide (hxq.keep [])
   replace hP : Hid (Sp w [] w [] [] ((31,1, .slice Ax m cx,m,(Jn.map (·.1)).flatMap encSl) :: (Jn.map rowJ)) y1) := hide ((unhide hP).ext hxq)
   clear hxq
   clear hi1w
   refine lx_one (i := 0) (by kernel_rfl) rfl (by rfl) #[true,true,true,true,false,true,true,true,true,false,false,false] (by rfl) ?_
   refine (unhide hP).allocL (unhide hK) (v := fun b => .slice (some ⟨b,0,none⟩) 0 0) 3 #[] ?_ ?_
   ·go_simp
   intro be y2 hQ hK2 hg2
   replace hP : Hid (Sp w [] w [] [(be,3, #[])] ((31,1, .slice Ax m cx,m,(Jn.map (·.1)).flatMap encSl) :: (Jn.map rowJ)) y2) := hide hQ
   replace hK := hide hK2
   have hge_be := hide hg2
   clear hQ hK2 hg2
   try go_frame
   replace hP : Hid (Sp w [] w [] [(be,3, #[])] ((31,1, .slice Ax m cx,m,(Jn.map (·.1)).flatMap encSl) :: ((Jn.map rowJ ++ ([] : List Rw)))) y2) := hide (by have h := unhide hP; rw [← List.append_nil (Jn.map rowJ)] at h; exact h)
   replace hP : Hid (Sp w [] w [] [] ((31,1, .slice Ax m cx,m,(Jn.map (·.1)).flatMap encSl) :: ((Jn.map rowJ ++ ([] : List Rw)) ++ [(3,1, .slice (some ⟨be,0,none⟩) 0 0,0,([] : List Int).flatMap encI)])) y2) := hide (Sp.toRow (L := []) (b := be) (t := 3) (n := 0) (cs := #[]) (unhide hP) rfl (by decide))
   refine lx_one (i := 4) (by kernel_rfl) rfl (by rfl) #[true,true,true,true,true,true,true,true,true,false,false,false] (by rfl) ?_
   refine (unhide hP).apAL (unhide hK) (enc := encI) (T := 3) (ST := 31) ((Jn.map rowJ ++ ([] : List Rw)).length + 1) (v := .slice (some ⟨be,0,none⟩) 0 0) (m := 0) (xs := ([] : List Int)) (get_tail _ _ _) (fun z hz => by simp [Value.ownBlock] at hz; subst hz; exact .inr (unhide hge_be)) infoI Tryz.underlying31 one_encI (fun _ => rfl) (by decide) (by decide) rfl (L.take i) rfl rfl (by rw [List.length_take]; have := unhide hlt'; have := unhide hn'; omega) (((unhide hA').ext (unhide hP).extf).upto i) (by omega) ?_
   intro A7 cA7 y3 hQ hK2 hg2
   rw [set_tail] at hQ
   obtain ⟨n7,hnv⟩ : ∃ nz9,nz9 = 0 + i := ⟨_,rfl⟩
   rw [← hnv] at hQ hg2 ⊢
   have hn7 := hide hnv
   have hge_A7 := hide hg2
   clear hnv
   replace hP : Hid (Sp w [] w [] [] ((31,1, .slice Ax m cx,m,(Jn.map (·.1)).flatMap encSl) :: ((Jn.map rowJ ++ ([] : List Rw)) ++ [(3,1, .slice A7 n7 cA7,n7,(([] : List Int) ++ (L.take i)).flatMap encI)])) y3) := hide hQ
   replace hK := hide hK2
   clear hQ hK2 hg2
   try go_frame
   refine lx_one (i := 9) (by kernel_rfl) rfl (by rfl) #[true,true,true,true,true,true,true,true,true,true,false,false] (by rfl) ?_
   refine (unhide hP).apAL (unhide hK) (enc := encI) (T := 3) (ST := 31) ((Jn.map rowJ ++ ([] : List Rw)).length + 1) (v := .slice A7 n7 cA7) (m := n7) (xs := ([] ++ L.take i)) (get_tail _ _ _) (unhide hge_A7) infoI Tryz.underlying31 one_encI (fun _ => rfl) (by decide) (by decide) rfl (L.drop (i + 1)) rfl rfl (by rw [List.length_drop,unhide hni',unhide hn']) (unhide hsM _ (unhide hP).extf) (by have := unhide hn7; have := unhide hni'; have := unhide hn'; have := unhide hnl'; have := unhide hn7'; omega) ?_
   intro A8 cA8 y4 hQ hK2 hg2
   rw [set_tail] at hQ
   obtain ⟨n8,hnv⟩ : ∃ nz9,nz9 = n7 + ni := ⟨_,rfl⟩
   rw [← hnv] at hQ hg2 ⊢
   have hn8 := hide hnv
   have hge_A8 := hide hg2
   clear hnv
   replace hP : Hid (Sp w [] w [] [] ((31,1, .slice Ax m cx,m,(Jn.map (·.1)).flatMap encSl) :: ((Jn.map rowJ ++ ([] : List Rw)) ++ [(3,1, .slice A8 n8 cA8,n8,(([] ++ L.take i) ++ (L.drop (i + 1))).flatMap encI)])) y4) := hide hQ
   replace hK := hide hK2
   clear hQ hK2 hg2
   try go_frame
   refine lx_one (i := 10) (by kernel_rfl) rfl (by rfl) #[true,true,true,true,true,true,true,true,true,true,true,false] (by rfl) ?_
   have hel2 : ([] ++ L.take i) ++ L.drop (i + 1) = L.eraseIdx i := by rw [List.nil_append,List.eraseIdx_eq_take_drop_succ]
   rw [hel2] at hP
   have hn8b : n8 = (L.eraseIdx i).length := by
    rw [← hel2,List.length_append,List.nil_append,List.length_take,List.length_drop]
    have := unhide hn8
    have := unhide hn7
    have := unhide hni'
    have := unhide hn'
    have := unhide hlt'
    omega
   obtain rfl : n = n8 := by rw [hn8b]; exact unhide hel
   clear hel2 hn8b
   go_simp
   have hca := unhide ih' A8 (L.eraseIdx i) cA8 y4 (own_at (enc := encI) (by have h := (unhide hP).row ((Jn.map rowJ ++ ([] : List Rw)).length + 1) (get_tail _ _ _); rw [unhide hel] at h; exact h) (fun _ => rfl)) (unhide hel) (own_cap ((unhide hP).row ((Jn.map rowJ ++ ([] : List Rw)).length + 1) (get_tail _ _ _)))
   refine hca.mono ?_
   clear hca
   rintro _ zy5 ⟨A5,q,c5,J5,rfl,hos,hxc⟩
   obtain ⟨KK,hKK0⟩ : ∃ K,K = allN n (L.eraseIdx i) := ⟨_,rfl⟩
   rw [← hKK0] at hos hst
   have hKl := hide (show KK.length ≤ 5040 by rw [hKK0,allN_len n _ (unhide hel).symm]; exact unhide hf7)
   have hKm := hide (show ∀ K ∈ KK,K.length = n from fun K hK => by rw [hKK0] at hK; rw [((mem_allN n _ (unhide hel).symm K).1 hK).length_eq]; exact (unhide hel).symm)
   have hqn := hide hos.at.2
   have hq1 := hide hos.1
   have hq2 := hide hos.2.1
   have hq3 := hide hos.2.2.1
   have hst5 := hos.2.2.2
   refine ⟨_,rfl,(unhide hK).trans (hxc.keep _),fun y5 hxd => ?_⟩
   have hP5 := ((unhide hP).addSt hxc hst5).ext hxd
   replace hP : Hid (Sp w [] w [] [] ((31,1, .slice Ax m cx,m,(Jn.map (·.1)).flatMap encSl) :: ((Jn.map rowJ ++ ssR A5 q c5 J5))) y5) := hide (hP5.sub (List.Sublist.refl _) (List.Sublist.cons_cons _ (by
    rw [List.append_nil]
    exact List.Sublist.append (List.sublist_append_left _ _) (List.Sublist.refl _))))
   replace hK := hide ((unhide hK).trans ((hxc.trans hxd).keep _))
   clear hP5 hst5 hos hxc hxd hKK0 hel hsM hge_be hge_A7 hge_A8
   try go_frame
   refine lx_one (i := 11) (by kernel_rfl) rfl (by rfl) #[true,true,true,true,true,true,true,true,true,true,true,true] (by rfl) ?_
   refine (unhide hP).valL (unhide hK) (v := .slice A5 q c5) ?_ ?_
   ·go_simp
   intro y6 hQ hK2
   replace hP : Hid (Sp w [] w [] [] ((31,1, .slice Ax m cx,m,(Jn.map (·.1)).flatMap encSl) :: ((Jn.map rowJ ++ ssR A5 q c5 J5))) y6) := hide hQ
   replace hK := hide hK2
   clear hQ hK2
   try go_frame
   refine wpX_done (by kernel_rfl) ?_
   try go_frame
   clear hK
   go_wp2_with fail
   obtain ⟨PP,hPP0⟩ : ∃ P,P = allT n L i := ⟨_,rfl⟩
   rw [← hPP0] at hJ hst
   clear hPP0
   obtain ⟨wo,hwo⟩ : ∃ wo,wo = wr := ⟨_,rfl⟩
   subst hwo
   obtain ⟨I6_6,hI6_60⟩ : ∃ I : Nat → Act → World → Prop,I = fun fk a' wr => ∃ (k : Nat), ∃ (Ax : Option Addr), ∃ (m : Nat), ∃ (cx : Nat), ∃ (Jn : List (Sl × List Int)),a'.tmps.size = 48 ∧ a'.tmps.getD 0 undef = .slice (some ⟨b,off,none⟩) nl c ∧ a'.tmps.getD 3 undef = .slice Ax m cx ∧ a'.tmps.getD 4 undef = .int .i64 (i : Nat) ∧ a'.tmps.getD 5 undef = .slice A5 q c5 ∧ a'.tmps.getD 6 undef = .int .i64 (k : Nat) ∧ a'.defers = [] ∧ k ≤ q ∧ m = Jn.length ∧ (Jn.map (·.2) = PP ++ (KK.take k).map (fun r => x :: r)) ∧ (∀ p ∈ Jn,p.1.2.1 = p.2.length) ∧ Sp w [] w [] [] ((31,1, .slice Ax m cx,m,(Jn.map (·.1)).flatMap encSl) :: ((Jn.map rowJ ++ ssR A5 q c5 J5))) wr ∧ fk = q - k := ⟨_,rfl⟩
   have hI6_6 := hide hI6_60
   clear hI6_60
   refine wp_loop_ix I6_6 (q - 0) ?_ ?_
   ·rw [unhide hI6_6]; exact ⟨0,Ax,m,cx,Jn,rfl,rfl,rfl,rfl,rfl,rfl,rfl,Nat.zero_le _,unhide hm,by rw [unhide hJ]; simp,unhide hJl,unhide hP,rfl⟩
   ·rintro fk ⟨tm,dfs⟩ wr hrel
    rw [unhide hI6_6] at hrel
    obtain ⟨k,Ax,m,cx,Jn,hsz,e0,e3,e4,e5,e6,hdf,hkq,hm0,hJ0,hJl0,hPs,hgm⟩ := hrel
    obtain ⟨us,rfl⟩ : ∃ us : Nat → Value,tm = #[us 0,us 1,us 2,us 3,us 4,us 5,us 6,us 7,us 8,us 9,us 10,us 11,us 12,us 13,us 14,us 15,us 16,us 17,us 18,us 19,us 20,us 21,us 22,us 23,us 24,us 25,us 26,us 27,us 28,us 29,us 30,us 31,us 32,us 33,us 34,us 35,us 36,us 37,us 38,us 39,us 40,us 41,us 42,us 43,us 44,us 45,us 46,us 47] := ⟨fun i => tm.getD i undef,arr_fn hsz⟩
    have h0 : us 0 = .slice (some ⟨b,off,none⟩) nl c := e0
    have h3 : us 3 = .slice Ax m cx := e3
    have h4 : us 4 = .int .i64 (i : Nat) := e4
    have h5 : us 5 = .slice A5 q c5 := e5
    have h6 : us 6 = .int .i64 (k : Nat) := e6
    have hdf2 : dfs = [] := hdf
    subst hdf2
    clear hdf hsz e0 e3 e4 e5 e6
    simp only [h0,h3,h4,h5,h6]
    clear h0 h3 h4 h5 h6
    have hPb := hide (show PP.length ≤ 35280 by rw [← unhide hJ,List.length_map, ← unhide hm]; exact unhide hmb)
    clear hP hm hJ hJl hmb
    have hP := hide hPs
    have hgm' := hide hgm
    have hm := hide hm0
    have hJ := hide hJ0
    have hJl := hide hJl0
    clear hPs hgm hm0 hJ0 hJl0
    by_cases hkt : k < q
    ·skip
     have hil : (k : Int) < (q : Int) := by omega
     have hkt' := hide hkt
     have hkK : k < KK.length := by rw [← unhide hqn]; exact hkt
     have hkb : (k : Int) ≤ 5040 := by have := unhide hKl; have := unhide hqn; omega
     have hmb := hide (show m ≤ 40320 by
      rw [unhide hm, ← List.length_map (f := fun p : Sl × List Int => p.2),unhide hJ,List.length_append,List.length_map,List.length_take]
      have := unhide hKl
      have := unhide hPb
      omega)
     have hmn := hide (map_next8 (fun r => x :: r) KK hkK)
     obtain ⟨S,hS0⟩ : ∃ S,S = (Value.slice Ax m cx).ownBlock.toList := ⟨_,rfl⟩
     have hS := hide hS0
     have hkJ : k < J5.length := by rw [← unhide hq1]; exact hkt
     obtain ⟨b5,o5,rfl,_,hcell,hKs0⟩ := ss_get (((unhide hP).st.sub (List.Sublist.refl _) (show (ssR A5 q c5 J5).Sublist _ from (List.sublist_append_right _ _).trans (List.sublist_cons_self _ _))).down) (unhide hq1) (unhide hq3) hkJ
     have hbS := hide (show b5 ∉ S from by
      rw [hS0]
      refine Sp.first_ne (unhide hP) (by decide) (r := (31,1, .slice (some ⟨b5,o5,none⟩) q c5,q,(J5.map (·.1)).flatMap encSl)) (List.mem_append.2 (.inr (List.mem_cons_self ..))) ?_
      rfl)
     have hKq := hide (show J5[k].2 = KK[k] from by
      have h := congrArg (fun l : List (List Int) => l[k]?) (unhide hq2)
      change (J5.map (·.2))[k]? = KK[k]? at h
      rw [List.getElem?_map,List.getElem?_eq_getElem hkJ,List.getElem?_eq_getElem hkK] at h
      exact Option.some.inj h)
     have hlq := unhide hq3 _ (List.getElem_mem hkJ)
     have hakS := hide (show ∀ b0 o0,J5[k].1.1 = some ⟨b0,o0,none⟩ → b0 ∉ S from fun b0 o0 e0 => by
      rw [hS0]
      refine Sp.first_ne (unhide hP) (by decide) (r := rowJ J5[k]) (List.mem_append.2 (.inr (List.mem_cons_of_mem _ (List.mem_map.2 ⟨_,List.getElem_mem hkJ,rfl⟩)))) ?_
      unfold rowJ
      rw [e0]
      rfl)
     have hbS2 := hide (show b ∉ S from fun hm9 => by
      rw [hS0] at hm9
      have h1 := (own_base ((unhide hP).row 0 rfl) (by simpa using hm9)).1
      have := unhide hbw
      omega)
     have hKn0 : KK[k].length = n := unhide hKm _ (List.getElem_mem hkK)
     obtain ⟨⟨⟨ak,nk,ck⟩,K⟩,hp5⟩ : ∃ p,p = J5[k] := ⟨_,rfl⟩
     have hKe := unhide hKq
     rw [← hp5] at hcell hKs0 hakS hKe hlq
     dsimp only at hcell hKs0 hakS hKe hlq
     rw [← hKe] at hmn hKn0
     obtain rfl : n = nk := by rw [hlq,hKn0]
     have hKn := hide hKn0
     have hKs := hide hKs0
     have q5 : ∀ W,Keep S wr W → W.cell? ⟨b5,o5 + k,none⟩ = some (.slice ak n ck) := fun W hW => hcell S W hW (unhide hbS)
     have c0 : ∀ W,Keep S wr W → W.cell? ⟨b,off + i,none⟩ = some (.int .i64 x) := fun W hW => by
      obtain ⟨b9,o9,h9,h8⟩ := atI ((unhide hA').ext (unhide hP).extf) hiL
      cases h9
      have h7 := h8 wr (Ext.refl _)
      rw [World.cell?_of_block (hW.block b (Nat.lt_of_lt_of_le (unhide hbw) (unhide hP).size) (unhide hbS2)),h7, ← getD_at hiL, ← unhide hxd9]
     have hself := Keep.refl S wr
     have hiln : (i : Int) < (nl : Int) := by have := unhide hlt'; omega
     clear hcell hKs0 hKn0 hKe hlq hp5 hKq hkt hS0
     try dsimp only
     repeat ((fail_if_success (with_reducible refine wp_reg (id := 9) ?_)); (first | go_values | go_skip | go_step | go_guarded | go_upon | go_in | go_back | fail))
     with_reducible refine wp_reg (id := 9) ?_
     iterate 4
      refine wpO_want rfl ?_
      go_simp
     refine wpO_done ?_
     try go_frame
     go_wp2_with fail
     refine wp_regionK (P := Tryz.prog) S [0,1,2,3,4,6,7,8,9] [] 5 #[true,true,true,true,true,false,true,true,true,true,false,false,false,false] (by kernel_rfl) (by kernel_rfl) rfl (by rfl) ?_
     iterate 9
      first
      | (refine ql_skip rfl (by rfl) ?_)
      | (refine ql_want (v := ?_) rfl (by rfl) (fun W hW => ?_) ?_; rotate_left; (go_simp; (first | done | rfl)))
      try go_frame
     refine wpQL_nil (fun y7 hxq => ?_)
     have hK := hide (hxq.keep S)
     replace hP : Hid (Sp w [] w [] [] ((31,1, .slice Ax m cx,m,(Jn.map (·.1)).flatMap encSl) :: ((Jn.map rowJ ++ ssR (some ⟨b5,o5,none⟩) q c5 J5))) y7) := hide ((unhide hP).ext hxq)
     clear hxq
     clear q5 c0 hself hiln hil
     refine lx_one (i := 5) (by kernel_rfl) rfl (by rfl) #[true,true,true,true,true,true,true,true,true,true,false,false,false,false] (by rfl) ?_
     refine (unhide hP).allocL (unhide hK) (v := fun b => .slice (some ⟨b,0,none⟩) 1 1) 3 #[.int .i64 x] ?_ ?_
     ·exact run_build1 rfl rfl
     intro bt y8 hQ hK2 hg2
     replace hP : Hid (Sp w [] w [] [(bt,3, #[.int .i64 x])] ((31,1, .slice Ax m cx,m,(Jn.map (·.1)).flatMap encSl) :: ((Jn.map rowJ ++ ssR (some ⟨b5,o5,none⟩) q c5 J5))) y8) := hide hQ
     replace hK := hide hK2
     have hge_bt := hide hg2
     clear hQ hK2 hg2
     try go_frame
     replace hP : Hid (Sp w [] w [] [] ((31,1, .slice Ax m cx,m,(Jn.map (·.1)).flatMap encSl) :: ((Jn.map rowJ ++ ssR (some ⟨b5,o5,none⟩) q c5 J5) ++ [(3,1, .slice (some ⟨bt,0,none⟩) 1 1,1,[x].flatMap encI)])) y8) := hide (Sp.toRow (L := []) (b := bt) (t := 3) (n := 1) (cs := #[.int .i64 x]) (unhide hP) rfl (by decide))
     refine lx_one (i := 10) (by kernel_rfl) rfl (by rfl) #[true,true,true,true,true,true,true,true,true,true,true,false,false,false] (by rfl) ?_
     refine (unhide hP).apAL (unhide hK) (enc := encI) (T := 3) (ST := 31) ((Jn.map rowJ ++ ssR (some ⟨b5,o5,none⟩) q c5 J5).length + 1) (v := .slice (some ⟨bt,0,none⟩) 1 1) (m := 1) (xs := [x]) (get_tail _ _ _) (fun z hz => by simp [Value.ownBlock] at hz; subst hz; exact .inr (unhide hge_bt)) infoI Tryz.underlying31 one_encI (fun _ => rfl) (by decide) (by decide) rfl K rfl rfl (unhide hKn) ((unhide hKs).keepS (unhide hK) (fun b0 o0 e0 => unhide hakS b0 o0 e0)) (by have := unhide hn7'; omega) ?_
     intro A9 cA9 y9 hQ hK2 hg2
     rw [set_tail] at hQ
     obtain ⟨n9,hnv⟩ : ∃ nz9,nz9 = 1 + n := ⟨_,rfl⟩
     rw [← hnv] at hQ hg2 ⊢
     have hn9 := hide hnv
     have hge_A9 := hide hg2
     clear hnv
     replace hP : Hid (Sp w [] w [] [] ((31,1, .slice Ax m cx,m,(Jn.map (·.1)).flatMap encSl) :: ((Jn.map rowJ ++ ssR (some ⟨b5,o5,none⟩) q c5 J5) ++ [(3,1, .slice A9 n9 cA9,n9,([x] ++ K).flatMap encI)])) y9) := hide hQ
     replace hK := hide hK2
     clear hQ hK2 hg2
     try go_frame
     refine lx_one (i := 11) (by kernel_rfl) rfl (by rfl) #[true,true,true,true,true,true,true,true,true,true,true,true,false,false] (by rfl) ?_
     refine (unhide hP).allocL (unhide hK) (v := fun b => .slice (some ⟨b,0,none⟩) 1 1) 31 #[.slice A9 n9 cA9] ?_ ?_
     ·exact run_buildSl rfl rfl
     intro bs y10 hQ hK2 hg2
     replace hP : Hid (Sp w [] w [] [(bs,31, #[.slice A9 n9 cA9])] ((31,1, .slice Ax m cx,m,(Jn.map (·.1)).flatMap encSl) :: ((Jn.map rowJ ++ ssR (some ⟨b5,o5,none⟩) q c5 J5) ++ [(3,1, .slice A9 n9 cA9,n9,([x] ++ K).flatMap encI)])) y10) := hide hQ
     replace hK := hide hK2
     have hge_bs := hide hg2
     clear hQ hK2 hg2
     try go_frame
     refine lx_one (i := 12) (by kernel_rfl) rfl (by rfl) #[true,true,true,true,true,true,true,true,true,true,true,true,true,false] (by rfl) ?_
     refine (unhide hP).ap1L (unhide hK) (enc := encSl) (T := 31) (ST := 42) 0 (v := .slice Ax m cx) (m := m) (xs := Jn.map (·.1)) rfl (fun z hz => .inl (by rw [unhide hS]; exact hz)) infoSl Tryz.underlying42 one_encSl (fun _ => rfl) (by decide) (by decide) rfl (A9,n9,cA9) rfl rfl ((unhide hP).get 0 rfl) (by have := unhide hmb; omega) ?_
     intro A4 cA4 y11 hQ hK2 hg2
     replace hP : Hid (Sp w [] w [] [(bs,31, #[.slice A9 n9 cA9])] ((31,1, .slice A4 (m + 1) cA4,m + 1,((Jn.map fun p : Sl × List Int => p.1) ++ [((A9,n9,cA9) : Sl)]).flatMap encSl) :: ((Jn.map rowJ ++ ssR (some ⟨b5,o5,none⟩) q c5 J5) ++ [(3,1, .slice A9 n9 cA9,n9,([x] ++ K).flatMap encI)])) y11) := hide hQ
     replace hK := hide hK2
     clear hQ hK2 hg2
     try go_frame
     replace hP : Hid (Sp w [] w [] [] ((31,1, .slice A4 (m + 1) cA4,m + 1,((Jn.map fun p : Sl × List Int => p.1) ++ [((A9,n9,cA9) : Sl)]).flatMap encSl) :: ((Jn.map rowJ ++ ssR (some ⟨b5,o5,none⟩) q c5 J5) ++ [(3,1, .slice A9 n9 cA9,n9,([x] ++ K).flatMap encI)])) y11) := hide ((unhide hP).sub (List.sublist_append_left _ ([(bs,31, #[.slice A9 n9 cA9])] : List Cl)) (List.Sublist.refl _))
     refine lx_one (i := 13) (by kernel_rfl) rfl (by rfl) #[true,true,true,true,true,true,true,true,true,true,true,true,true,true] (by rfl) ?_
     refine (unhide hP).valL (unhide hK) (v := .slice A4 (m + 1) cA4) ?_ ?_
     ·go_simp
     intro y12 hQ hK2
     replace hP : Hid (Sp w [] w [] [] ((31,1, .slice A4 (m + 1) cA4,m + 1,((Jn.map fun p : Sl × List Int => p.1) ++ [((A9,n9,cA9) : Sl)]).flatMap encSl) :: ((Jn.map rowJ ++ ssR (some ⟨b5,o5,none⟩) q c5 J5) ++ [(3,1, .slice A9 n9 cA9,n9,([x] ++ K).flatMap encI)])) y12) := hide hQ
     replace hK := hide hK2
     clear hQ hK2
     try go_frame
     refine wpX_done (by kernel_rfl) ?_
     try go_frame
     clear hK
     go_wp2_with fail
     replace hP : Hid (Sp w [] w [] [] ((31,1, .slice A4 (m + 1) cA4,m + 1,((Jn ++ [(((A9,n9,cA9),x :: K) : Sl × List Int)]).map (·.1)).flatMap encSl) :: (((Jn ++ [(((A9,n9,cA9),x :: K) : Sl × List Int)]).map rowJ ++ ssR (some ⟨b5,o5,none⟩) q c5 J5))) y12) := hide (by
      have h := (unhide hP).permR perm_join
      rw [List.map_append,List.map_append]
      exact h)
     refine ⟨q - (k + 1), ?_,by have := unhide hgm'; have := unhide hkt'; omega⟩
     rw [unhide hI6_6]
     exact ⟨k + 1,A4,m + 1,cA4,Jn ++ [((A9,n9,cA9),x :: K)],(by first | rfl | trivial),(by first | rfl | trivial),(by first | rfl | trivial),(by first | rfl | trivial),(by first | rfl | trivial),(by first | rfl | (show _ = Value.int _ _; go_num) | go_num),(by first | rfl | trivial),by have := unhide hkt'; omega,(by rw [List.length_append, ← unhide hm]; rfl),(by rw [List.map_append,unhide hJ,unhide hmn,List.append_assoc]; rfl),(fun p hp => by
      rcases List.mem_append.1 hp with hp | hp
      ·exact unhide hJl p hp
      ·rw [List.mem_singleton] at hp; subst hp; show n9 = _; rw [unhide hn9,List.length_cons,unhide hKn]; omega),unhide hP,rfl⟩
    ·skip
     have hil : ¬ (k : Int) < (q : Int) := by omega
     have hJn := hide (show Jn.map (·.2) = allT n L (i + 1) by rw [unhide hJ,unhide hst,List.take_of_length_le (by have := unhide hqn; omega)])
     clear hkt hkq
     try dsimp only
     repeat ((fail_if_success (with_reducible refine wp_reg (id := 9) ?_)); (first | go_values | go_skip | go_step | go_guarded | go_upon | go_in | go_back | fail))
     with_reducible refine wp_reg (id := 9) ?_
     iterate 4
      refine wpO_want rfl ?_
      go_simp
     refine wpO_done ?_
     try go_frame
     clear hil
     go_wp2_with fail
     have hp9 := (unhide hP).sub (List.Sublist.refl _) (List.Sublist.cons_cons _ (List.sublist_append_left (Jn.map rowJ) (ssR A5 q c5 J5)))
     refine ⟨nl - (i + 1), ?_,by have := unhide hfm'; have := unhide hlt'; omega⟩
     rw [unhide hI0_2]
     exact ⟨i + 1,Ax,m,cx,Jn,(by first | rfl | trivial),(by first | rfl | trivial),(by first | rfl | trivial),(by first | rfl | (show _ = Value.int _ _; go_num) | go_num),(by first | rfl | trivial),by have := unhide hlt'; omega,unhide hm,unhide hJn,unhide hJl,hp9,rfl⟩
  ·skip
   have hil : ¬ (i : Int) < (nl : Int) := by omega
   have hJe := hide (show Jn.map (·.2) = allN (n + 1) L by rw [unhide hJ, ← allT_full,show i = L.length by have := unhide hn'; omega])
   clear hlt hin
   try dsimp only
   repeat ((fail_if_success (with_reducible refine wp_reg (id := 5) ?_)); (first | go_values | go_skip | go_step | go_guarded | go_upon | go_in | go_back | fail))
   with_reducible refine wp_reg (id := 5) ?_
   iterate 4
    refine wpO_want rfl ?_
    go_simp
   refine wpO_done ?_
   try go_frame
   clear hil
   try dsimp only
   repeat ((fail_if_success (with_reducible refine wp_reg (id := 12) ?_)); (first | go_values | go_skip | go_step | go_guarded | go_upon | go_in | go_back | fail))
   with_reducible refine wp_reg (id := 12) ?_
   iterate 2
    refine wpO_want rfl ?_
    go_simp
   refine wpO_done ?_
   try go_frame
   go_wp2_with fail
   refine Sp.leaves0 ?_
   exact ⟨_,results_tmp (t := 2) rfl _ _ _,Ax,m,cx,Jn,rfl,⟨unhide hm,unhide hJe,unhide hJl,(unhide hP).st⟩,(unhide hP).extf⟩
theorem all08_any : ∀ (n : Nat),n ≤ 8 → ∀ (A : Option Addr) (L : List Int) (c : Nat) (w : World),SlAt encI 1 w A L → n = L.length → n ≤ c → Calls Tryz.prog 48 #[.slice A n c] w (SsO w (allN n L)) := by
 intro n
 induction n with
 | zero => intro _ A L c w _ hn _; exact all08_zero A c L w (List.eq_nil_of_length_eq_zero hn.symm)
 | succ n ih => intro h8 A L c w hA hn hc; exact all08_level n (by omega) (ih (by omega)) A L (n + 1) c w hA rfl hn hc
end Go.Proofs.YtbpeemhfjgcnaaaGreat
