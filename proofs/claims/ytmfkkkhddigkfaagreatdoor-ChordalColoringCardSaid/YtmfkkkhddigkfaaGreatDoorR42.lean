/- Parts of a proof, laid together. Each part says its own conditions. -/
import Derived.Test.YtmfkkkhddigkfaaGreatDoorR40
import Derived.Test.YtmfkkkhddigkfaaGreatDoorR41
namespace Go.Proofs.YtmfkkkhddigkfaaGreatDoor
open Go Go.RowKit Go.Shelf
attribute [local go_sem] qUpon lUpon
attribute [local irreducible] wpO wpX wpQL
abbrev Sl := Option Addr × Nat × Nat
def encSl (p : Sl) : List Value := [.slice p.1 p.2.1 p.2.2]
theorem one_encSl (p : Sl) : ∀ v ∈ encSl p,v.oneCell' = true := by intro v hv; simp [encSl] at hv; subst hv; rfl
theorem infoR : (Tryz.prog.info? 48).map (fun i => (i.zero.map (·.cells.size),i.size,i.bytes)) = some (some 1,1,24) := by kernel_rfl
def SSAt (w : World) (A : Option Addr) (KK : List (List Int)) : Prop := ∃ ps : List Sl,ps.length = KK.length ∧ SlAt encSl 1 w A ps ∧ ∀ (i : Nat) (h : i < ps.length) (h2 : i < KK.length),ps[i].2.1 = KK[i].length ∧ SlAt encI 1 w ps[i].1 KK[i]
theorem atSl {w : World} {A : Option Addr} {ps : List Sl} (h : SlAt encSl 1 w A ps) {i : Nat} (hi : i < ps.length) : ∃ b off,A = some ⟨b,off,none⟩ ∧ b < w.heap.size ∧ ∀ S W,Keep S w W → b ∉ S → W.cell? ⟨b,off + i,none⟩ = some (.slice ps[i].1 ps[i].2.1 ps[i].2.2) := by
 obtain ⟨b,off,hA,hlt,hc⟩ := h (fun e => by rw [e] at hi; simp at hi)
 refine ⟨b,off,hA,hlt,fun S W hk hn => ?_⟩
 rw [World.cell?_of_block (hk.block b hlt hn)]
 have := hc i _ (List.getElem?_eq_getElem hi) 0 (.slice ps[i].1 ps[i].2.1 ps[i].2.2) rfl
 rw [show off + i * 1 + 0 = off + i by omega] at this
 exact this
theorem SSAt.get {w : World} {A : Option Addr} {KK : List (List Int)} (h : SSAt w A KK) (hne : 0 < KK.length) : ∃ b off,A = some ⟨b,off,none⟩ ∧ ∀ (i : Nat) (_ : i < KK.length), ∃ a c,(∀ S W,Keep S w W → b ∉ S → W.cell? ⟨b,off + i,none⟩ = some (.slice a KK[i].length c)) ∧ SlAt encI 1 w a KK[i] := by
 obtain ⟨ps,h1,h2,h3⟩ := h
 obtain ⟨b,off,hA,hlt,hc⟩ := h2 (fun e => by rw [e] at h1; simp at h1; omega)
 refine ⟨b,off,hA,fun i hi => ?_⟩
 have hi2 : i < ps.length := by rw [h1]; exact hi
 obtain ⟨h4,h5⟩ := h3 i hi2 hi
 refine ⟨ps[i].1,ps[i].2.2,fun S W hk hn => ?_,h5⟩
 rw [World.cell?_of_block (hk.block b hlt hn), ← h4]
 have := hc i _ (List.getElem?_eq_getElem hi2) 0 (.slice ps[i].1 ps[i].2.1 ps[i].2.2) rfl
 rw [show off + i * 1 + 0 = off + i by omega] at this
 exact this
def SsPost (w : World) (KK : List (List Int)) (e : Ending) (w' : World) : Prop := ∃ A c,e = .returned (.slice A KK.length c) ∧ SSAt w' A KK ∧ Ext w w'
theorem SsPost.mk {w w' : World} {KK : List (List Int)} {A : Option Addr} {n c : Nat} (hn : n = KK.length) (h1 : SSAt w' A KK) (h2 : Ext w w') : SsPost w KK (.returned (.slice A n c)) w' := ⟨A,c,by rw [hn],h1,h2⟩
def rowJ (p : Sl × List Int) : Rw := (3,1, .slice p.1.1 p.1.2.1 p.1.2.2,p.1.2.1,p.2.flatMap encI)
theorem get_tail {α : Type} (a x : α) (l : List α) : (a :: (l ++ [x]))[l.length + 1]? = some x := by simp
theorem set_tail {α : Type} (a x y : α) (l : List α) : (a :: (l ++ [x])).set (l.length + 1) y = a :: (l ++ [y]) := by simp
section
variable {wf w W : World} {T0 : List Nat} {ds : List Deferred} {L : List Cl} {v : Value} {n : Nat} {J : List (Sl × List Int)} {tl : List Rw} {T : TypeId}
theorem Sp.joinJ {p : Sl × List Int} (h : Sp wf T0 w ds L ((T,1,v,n,(J.map (·.1) ++ [p.1]).flatMap encSl) :: (J.map rowJ ++ [rowJ p])) W) : Sp wf T0 w ds L ((T,1,v,n,((J ++ [p]).map (·.1)).flatMap encSl) :: ((J ++ [p]).map rowJ)) W := by
 rw [List.map_append,List.map_append]
 exact h
theorem Sp.atJ (h : Sp wf T0 w ds L ((T,1,v,n,(J.map (·.1)).flatMap encSl) :: (J.map rowJ ++ tl)) W) {k : Nat} (hk : k < J.length) (hl : J[k].1.2.1 = J[k].2.length) : SlAt encI 1 W J[k].1.1 J[k].2 := by
 have h1 := h.row (k + 1) (T := 3) (k := 1) (v := .slice J[k].1.1 J[k].1.2.1 J[k].1.2.2) (n := J[k].1.2.1) (xs := J[k].2.flatMap encI) (by
  rw [List.getElem?_cons_succ,List.getElem?_append_left (by rw [List.length_map]; exact hk),List.getElem?_map,List.getElem?_eq_getElem hk]; rfl)
 rw [hl] at h1
 exact own_at (enc := encI) h1 (fun _ => rfl)
theorem Sp.ss (h : Sp wf T0 w ds L ((T,1,v,n,(J.map (·.1)).flatMap encSl) :: (J.map rowJ ++ tl)) W) (hl : ∀ p ∈ J,p.1.2.1 = p.2.length) {A : Option Addr} {c : Nat} (hv : v = .slice A n c) (hn : n = J.length) : SSAt W A (J.map (·.2)) := by
 subst hv
 refine ⟨J.map (·.1),by rw [List.length_map,List.length_map], ?_,fun i hi h2 => ?_⟩
 ·have h1 := h.row 0 rfl
  rw [hn, ← List.length_map (f := fun p : Sl × List Int => p.1)] at h1
  exact own_at (enc := encSl) h1 (fun _ => rfl)
 ·have hi' : i < J.length := by simpa using hi
  have hli := hl J[i] (List.getElem_mem hi')
  simp only [List.getElem_map]
  exact ⟨hli,h.atJ hi' hli⟩
end
theorem run_buildSl {ρ : Operand → Value} {o : Oper} {x : Operand} {w : World} {a : Option Addr} {n c : Nat} (ho : o.op = .buildSlice 46 1 #[(0,x)]) (hx : ρ x = .slice a n c) : (execOp ρ o).run Tryz.prog w = .ok (.value (.slice (some ⟨w.heap.size,0,none⟩) 1 1)) (w.alloc (.cells #[.slice a n c] 48)) := by
 unfold execOp
 simp only [ho]
 simp [go_sem,hx]
theorem subs_next (L : List Int) {i : Nat} (h : i < L.length) : subsR (L.take (i + 1)) = subsR (L.take i) ++ (subsR (L.take i)).map fun K => K ++ [L[i]] := by
 rw [List.take_succ_eq_append_getElem h,subsR_snoc]
theorem map_next {α β : Type} (f : α → β) (P : List α) {k : Nat} (h : k < P.length) : (P.take (k + 1)).map f = (P.take k).map f ++ [f P[k]] := by
 rw [List.take_succ_eq_append_getElem h,List.map_append]; rfl
theorem subs_small (L : List Int) {i : Nat} (h : L.length ≤ 12) : (subsR (L.take i)).length ≤ 4096 := by
 rw [subsR_len,List.length_take]
 exact Nat.le_trans (Nat.pow_le_pow_right (by decide) (show min i L.length ≤ 12 by omega)) (by decide)
theorem subs_mem_len {L : List Int} {i : Nat} {K : List Int} (hL : L.length ≤ 12) (h : K ∈ subsR (L.take i)) : K.length ≤ 12 := by
 have := ((mem_subsR _).1 h).length_le
 rw [List.length_take] at this
 omega
set_option maxRecDepth 100000 in
set_option maxHeartbeats 16000000 in
theorem subsQ_any (A : Option Addr) (L : List Int) (n cL : Nat) (w : World) (hL : SlAt encI 1 w A L) (hn : n = L.length) (hl : n ≤ 12) :
  Calls Tryz.prog 58 #[.slice A n cL] w (SsPost w (subsR L)) := by
 have hL' := hide hL
 have hn' := hide hn
 have hl' := hide hl
 have hsm := hide (fun i : Nat => subs_small L (i := i) (by omega))
 clear hL hn hl
 have hP := hide (Sp.new w)
 refine callsIn_wide.1 (callsIn_of_wp_marks (n := 0) Tryz.func58 rfl trivial (wpIn_wide.2 ?_))
 simp only [Tryz.ntmps58,List.size_toArray,List.length_cons,List.length_nil,Nat.reduceAdd,Nat.reduceSub,Array.replicate_succ,Array.replicate_zero,List.push_toArray,List.append_toArray,List.nil_append,List.cons_append]
 try dsimp only
 repeat ((fail_if_success (with_reducible refine wp_reg (id := 1) ?_)); (first | go_values | go_skip | go_step | go_guarded | go_upon | go_in | go_back | fail))
 with_reducible refine wp_reg (id := 1) ?_
 refine (unhide hP).allocVO (v := fun b => .slice (some ⟨b,0,none⟩) 0 0) 3 #[] rfl (run_build0 rfl) ?_
 intro be y1 hQ
 replace hP : Hid (Sp w [] w [] [(be,3, #[])] [] y1) := hide hQ
 clear hQ
 go_frame
 refine (unhide hP).allocVO (v := fun b => .slice (some ⟨b,0,none⟩) 1 1) 48 #[.slice (some ⟨be,0,none⟩) 0 0] rfl (run_buildSl rfl rfl) ?_
 intro bo y2 hQ
 replace hP : Hid (Sp w [] w [] [(be,3, #[]),(bo,48, #[.slice (some ⟨be,0,none⟩) 0 0])] [] y2) := hide hQ
 clear hQ
 go_frame
 refine wpO_want rfl ?_
 go_simp
 refine wpO_done ?_
 try go_frame
 replace hP : Hid (Sp w [] w [] [(be,3, #[])] [(48,1, .slice (some ⟨bo,0,none⟩) 1 1,1,[.slice (some ⟨be,0,none⟩) 0 0])] y2) := hide (Sp.toRow (L := [(be,3, #[])]) (b := bo) (t := 48) (n := 1) (cs := #[.slice (some ⟨be,0,none⟩) 0 0]) (unhide hP) rfl (by decide))
 replace hP : Hid (Sp w [] w [] [] [(48,1, .slice (some ⟨bo,0,none⟩) 1 1,1,[.slice (some ⟨be,0,none⟩) 0 0]),(3,1, .slice (some ⟨be,0,none⟩) 0 0,0,[])] y2) := hide (Sp.toRow (L := []) (b := be) (t := 3) (n := 0) (cs := #[]) (unhide hP) rfl (by decide))
 have hPJ := hide (show Sp w [] w [] [] ((48,1, .slice (some ⟨bo,0,none⟩) 1 1,1,(([((some ⟨be,0,none⟩,0,0),[])] : List (Sl × List Int)).map (·.1)).flatMap encSl) :: (([((some ⟨be,0,none⟩,0,0),[])] : List (Sl × List Int)).map rowJ)) y2 from unhide hP)
 replace hP := hPJ
 clear hPJ
 try dsimp only
 repeat ((fail_if_success (with_reducible refine wp_reg (id := 2) ?_)); (first | go_values | go_skip | go_step | go_guarded | go_upon | go_in | go_back | fail))
 with_reducible refine wp_reg (id := 2) ?_
 refine wpO_want rfl ?_
 go_simp
 refine wpO_done ?_
 try go_frame
 go_wp2_with fail
 obtain ⟨I2_2,hI2_20⟩ : ∃ I : Nat → Act → World → Prop,I = fun fi a' wr => ∃ (i : Nat), ∃ (A3 : Option Addr), ∃ (q : Nat), ∃ (c3 : Nat), ∃ (J : List (Sl × List Int)),a'.tmps.size = 40 ∧ a'.tmps.getD 0 undef = .slice A n cL ∧ a'.tmps.getD 3 undef = .slice A3 q c3 ∧ a'.tmps.getD 4 undef = .int .i64 (i : Nat) ∧ a'.defers = [] ∧ i ≤ n ∧ q = J.length ∧ J.map (·.2) = subsR (L.take i) ∧ (∀ p ∈ J,p.1.2.1 = p.2.length) ∧ Sp w [] w [] [] ((48,1, .slice A3 q c3,q,(J.map (·.1)).flatMap encSl) :: (J.map rowJ)) wr ∧ fi = n - i := ⟨_,rfl⟩
 have hI2_2 := hide hI2_20
 clear hI2_20
 refine wp_loop_ix I2_2 (n - 0) ?_ ?_
 ·rw [unhide hI2_2]; exact ⟨0,some ⟨bo,0,none⟩,1,1,[((some ⟨be,0,none⟩,0,0),[])],rfl,rfl,rfl,rfl,rfl,Nat.zero_le _,rfl,rfl,(fun p hp => by rw [List.mem_singleton] at hp; subst hp; rfl),unhide hP,rfl⟩
 ·rintro fi ⟨tm,dfs⟩ wr hrel
  rw [unhide hI2_2] at hrel
  obtain ⟨i,A3,q,c3,J,hsz,e0,e3,e4,hdf,hi,hq,hJ,hJl,hPr,hfm⟩ := hrel
  obtain ⟨us,rfl⟩ : ∃ us : Nat → Value,tm = #[us 0,us 1,us 2,us 3,us 4,us 5,us 6,us 7,us 8,us 9,us 10,us 11,us 12,us 13,us 14,us 15,us 16,us 17,us 18,us 19,us 20,us 21,us 22,us 23,us 24,us 25,us 26,us 27,us 28,us 29,us 30,us 31,us 32,us 33,us 34,us 35,us 36,us 37,us 38,us 39] := ⟨fun i => tm.getD i undef,arr_fn hsz⟩
  have h0 : us 0 = .slice A n cL := e0
  have h3 : us 3 = .slice A3 q c3 := e3
  have h4 : us 4 = .int .i64 (i : Nat) := e4
  have hdf2 : dfs = [] := hdf
  subst hdf2
  clear hdf hsz e0 e3 e4
  simp only [h0,h3,h4]
  clear h0 h3 h4
  clear hP
  have hP := hide hPr
  have hq' := hide hq
  have hJ' := hide hJ
  have hJl' := hide hJl
  have hfm' := hide hfm
  have hqb := hide (show q ≤ 4096 by have h := unhide hsm i; rw [← hJ,List.length_map] at h; omega)
  clear hPr hq hJ hJl hfm
  by_cases hlt : i < n
  ·have hil : (i : Int) < (n : Int) := by omega
   have hi2 := hide hlt
   have hiL : i < L.length := by have := unhide hn'; omega
   have hib : (i : Int) ≤ 12 := by have := unhide hl'; omega
   have hnx := subs_next L hiL
   obtain ⟨b0,o0,rfl,hcz⟩ := cellI (unhide hL') hiL
   clear hcz
   obtain ⟨y,hy⟩ : ∃ y,y = L[i] := ⟨_,rfl⟩
   rw [← hy] at hnx
   have hy' := hide hy
   obtain ⟨PP,hPP⟩ : ∃ P,P = subsR (L.take i) := ⟨_,rfl⟩
   have hPl := hide (show ∀ K ∈ PP,K.length ≤ 12 from fun K hK => subs_mem_len (L := L) (i := i) (by have := unhide hl'; have := unhide hn'; omega) (by rw [← hPP]; exact hK))
   rw [← hPP] at hnx hJ'
   have hnx' := hide hnx
   have hqP := hide (show q = PP.length by rw [unhide hq', ← unhide hJ',List.length_map])
   clear hy hPP hnx hlt hi
   try dsimp only
   repeat ((fail_if_success (with_reducible refine wp_reg (id := 3) ?_)); (first | go_values | go_skip | go_step | go_guarded | go_upon | go_in | go_back | fail))
   with_reducible refine wp_reg (id := 3) ?_
   iterate 4
    refine wpO_want rfl ?_
    go_simp
   refine wpO_done ?_
   try go_frame
   try dsimp only
   repeat ((fail_if_success (with_reducible refine wp_reg (id := 5) ?_)); (first | go_values | go_skip | go_step | go_guarded | go_upon | go_in | go_back | fail))
   with_reducible refine wp_reg (id := 5) ?_
   iterate 3
    refine wpO_want rfl ?_
    go_simp
   refine wpO_done ?_
   try go_frame
   try dsimp only
   repeat ((fail_if_success (with_reducible refine wp_reg (id := 6) ?_)); (first | go_values | go_skip | go_step | go_guarded | go_upon | go_in | go_back | fail))
   with_reducible refine wp_reg (id := 6) ?_
   refine wpO_want rfl ?_
   go_simp
   refine wpO_done ?_
   try go_frame
   go_wp2_with fail
   obtain ⟨q0,hq0⟩ : ∃ q0,q0 = q := ⟨_,rfl⟩
   have hJ0 := hide (show J.map (·.2) = PP ++ (PP.take 0).map fun K => K ++ [y] by rw [unhide hJ']; simp)
   have hqq := hide (show q = q0 + 0 by omega)
   have hqP0 := hide (show q0 = PP.length by rw [hq0]; exact unhide hqP)
   have hq0b := hide (show q0 ≤ 4096 by rw [hq0]; exact unhide hqb)
   have e5 : (Value.int .i64 (q : Int)) = .int .i64 (q0 : Int) := by rw [hq0]
   try rw [e5]
   clear e5 hq0 hqP hq' hJ' hqb
   obtain ⟨I2_6,hI2_60⟩ : ∃ I : Nat → Act → World → Prop,I = fun fk a' wr => ∃ (k : Nat), ∃ (A3 : Option Addr), ∃ (q : Nat), ∃ (c3 : Nat), ∃ (J : List (Sl × List Int)),a'.tmps.size = 40 ∧ a'.tmps.getD 0 undef = .slice (some ⟨b0,o0,none⟩) n cL ∧ a'.tmps.getD 3 undef = .slice A3 q c3 ∧ a'.tmps.getD 4 undef = .int .i64 (i : Nat) ∧ a'.tmps.getD 5 undef = .int .i64 (q0 : Nat) ∧ a'.tmps.getD 6 undef = .int .i64 (k : Nat) ∧ a'.defers = [] ∧ k ≤ q0 ∧ q = q0 + k ∧ (J.map (·.2) = PP ++ (PP.take k).map fun K => K ++ [y]) ∧ (∀ p ∈ J,p.1.2.1 = p.2.length) ∧ Sp w [] w [] [] ((48,1, .slice A3 q c3,q,(J.map (·.1)).flatMap encSl) :: (J.map rowJ)) wr ∧ fk = q0 - k := ⟨_,rfl⟩
   have hI2_6 := hide hI2_60
   clear hI2_60
   refine wp_loop_ix I2_6 (q0 - 0) ?_ ?_
   ·rw [unhide hI2_6]; exact ⟨0,A3,q,c3,J,rfl,rfl,rfl,rfl,rfl,rfl,rfl,Nat.zero_le _,unhide hqq,unhide hJ0,unhide hJl',unhide hP,rfl⟩
   ·rintro fk ⟨tm,dfs⟩ wr hrel
    rw [unhide hI2_6] at hrel
    obtain ⟨k,A3,q,c3,J,hsz,e0,e3,e4,e5,e6,hdf,hk,hq,hJ,hJl,hPr,hfk⟩ := hrel
    obtain ⟨us,rfl⟩ : ∃ us : Nat → Value,tm = #[us 0,us 1,us 2,us 3,us 4,us 5,us 6,us 7,us 8,us 9,us 10,us 11,us 12,us 13,us 14,us 15,us 16,us 17,us 18,us 19,us 20,us 21,us 22,us 23,us 24,us 25,us 26,us 27,us 28,us 29,us 30,us 31,us 32,us 33,us 34,us 35,us 36,us 37,us 38,us 39] := ⟨fun i => tm.getD i undef,arr_fn hsz⟩
    have h0 : us 0 = .slice (some ⟨b0,o0,none⟩) n cL := e0
    have h3 : us 3 = .slice A3 q c3 := e3
    have h4 : us 4 = .int .i64 (i : Nat) := e4
    have h5 : us 5 = .int .i64 (q0 : Nat) := e5
    have h6 : us 6 = .int .i64 (k : Nat) := e6
    have hdf2 : dfs = [] := hdf
    subst hdf2
    clear hdf hsz e0 e3 e4 e5 e6
    simp only [h0,h3,h4,h5,h6]
    clear h0 h3 h4 h5 h6
    clear hP hqq hJ0 hJl'
    have hP := hide hPr
    have hq' := hide hq
    have hJ' := hide hJ
    have hJl' := hide hJl
    have hfk' := hide hfk
    clear hPr hq hJ hJl hfk
    by_cases hlt : k < q0
    ·have hil2 : (k : Int) < (q0 : Int) := by omega
     have hk2 := hide hlt
     have hkP : k < PP.length := by have := unhide hqP0; omega
     have hJlen := hide (show J.length = q by have h := congrArg List.length (unhide hJ'); rw [List.length_map,List.length_append,List.length_map,List.length_take] at h; have := unhide hqP0; have := unhide hq'; omega)
     have hkJ : k < J.length := by have := unhide hJlen; have := unhide hq'; omega
     have hkb : (k : Int) ≤ 4096 := by have := unhide hq0b; omega
     have hkq : (k : Int) < (q : Int) := by have := unhide hq'; omega
     have hqb : q ≤ 8192 := by have := unhide hq'; have := unhide hq0b; omega
     have hJk2 : J[k].2 = PP[k] := by
      have h := congrArg (fun l : List (List Int) => l[k]?) (unhide hJ')
      change (J.map (·.2))[k]? = (PP ++ (PP.take k).map fun K => K ++ [y])[k]? at h
      rw [List.getElem?_map,List.getElem?_eq_getElem hkJ,List.getElem?_append_left hkP,List.getElem?_eq_getElem hkP] at h
      exact Option.some.inj h
     have hmn := map_next (fun K => K ++ [y]) PP hkP
     have hlK := unhide hJl' J[k] (List.getElem_mem hkJ)
     clear hk hlt
     try dsimp only
     repeat ((fail_if_success (with_reducible refine wp_reg (id := 7) ?_)); (first | go_values | go_skip | go_step | go_guarded | go_upon | go_in | go_back | fail))
     with_reducible refine wp_reg (id := 7) ?_
     iterate 3
      refine wpO_want rfl ?_
      go_simp
     refine wpO_done ?_
     try go_frame
     try dsimp only
     repeat ((fail_if_success (with_reducible refine wp_reg (id := 9) ?_)); (first | go_values | go_skip | go_step | go_guarded | go_upon | go_in | go_back | fail))
     with_reducible refine wp_reg (id := 9) ?_
     refine (unhide hP).allocVO (v := fun b => .slice (some ⟨b,0,none⟩) 0 0) 3 #[] rfl (run_build0 rfl) ?_
     intro be2 y3 hQ
     replace hP : Hid (Sp w [] w [] [(be2,3, #[])] ((48,1, .slice A3 q c3,q,(J.map (·.1)).flatMap encSl) :: (J.map rowJ)) y3) := hide hQ
     clear hQ
     go_frame
     replace hP : Hid (Sp w [] w [] [] ((48,1, .slice A3 q c3,q,(J.map (·.1)).flatMap encSl) :: (J.map rowJ ++ [(3,1, .slice (some ⟨be2,0,none⟩) 0 0,0,[])])) y3) := hide (Sp.toRow (L := []) (b := be2) (t := 3) (n := 0) (cs := #[]) (unhide hP) rfl (by decide))
     have hsl := hide (show SlAt encSl 1 y3 A3 (J.map (·.1)) from own_at (enc := encSl) (by have h := (unhide hP).row 0 rfl; rw [show q = (J.map (·.1)).length by rw [List.length_map]; exact (unhide hJlen).symm] at h; exact h) (fun _ => rfl))
     obtain ⟨b3,o3,rfl,hb3,hcell⟩ := atSl (unhide hsl) (i := k) (by rw [List.length_map]; exact hkJ)
     simp only [List.getElem_map] at hcell
     have hKs := hide (Sp.atJ (unhide hP) hkJ hlK)
     obtain ⟨⟨⟨ak,nk,ck⟩,Kk⟩,hpk⟩ : ∃ p,p = J[k] := ⟨_,rfl⟩
     rw [← hpk] at hcell hKs hJk2 hlK
     dsimp only at hcell hKs hJk2 hlK
     rw [← hJk2] at hmn
     have hmn' := hide hmn
     have hnk := hide hlK
     have hnkb : nk ≤ 12 := by rw [hlK,hJk2]; exact unhide hPl _ (List.getElem_mem hkP)
     have c1 := hcell [] _ (Keep.refl _ _) (by simp)
     clear hpk hJk2 hmn hlK hsl hcell hb3 hkP hkJ
     iterate 4
      refine wpO_want rfl ?_
      go_simp
     clear c1
     refine (unhide hP).apAO (enc := encI) (T := 3) (ST := 48) ((J.map rowJ).length + 1) (v := .slice (some ⟨be2,0,none⟩) 0 0) (m := 0) (xs := ([] : List Int)) (get_tail _ _ _) rfl infoI Tryz.underlying48 one_encI (fun _ => rfl) (by decide) (by decide) rfl Kk rfl rfl (unhide hnk).symm (unhide hKs) (by omega) ?_
     intro A7 cA7 y4 hQ
     rw [set_tail] at hQ
     obtain ⟨n7,hnv⟩ : ∃ n,n = 0 + nk := ⟨_,rfl⟩
     rw [← hnv] at hQ ⊢
     have hn7 := hide hnv
     clear hnv
     replace hP : Hid (Sp w [] w [] [] ((48,1, .slice (some ⟨b3,o3,none⟩) q c3,q,(J.map (·.1)).flatMap encSl) :: (J.map rowJ ++ [(3,1, .slice A7 n7 cA7,n7,([] ++ Kk).flatMap encI)])) y4) := hide hQ
     clear hQ
     go_frame
     refine wpO_want rfl ?_
     go_simp
     refine wpO_done ?_
     try go_frame
     clear hKs
     have c0 := slE ((unhide hL').ext (unhide hP).extf) hiL
     rw [← unhide hy'] at c0
     have hself := Ext.refl y4
     try dsimp only
     repeat ((fail_if_success (with_reducible refine wp_reg (id := 10) ?_)); (first | go_values | go_skip | go_step | go_guarded | go_upon | go_in | go_back | fail))
     with_reducible refine wp_reg (id := 10) ?_
     iterate 6
      refine wpO_want rfl ?_
      go_simp
     clear c0 hself
     refine (unhide hP).build1O 3 #[.int .i64 y] rfl (run_buildR rfl rfl) ?_
     intro bt y5 hQ
     replace hP : Hid (Sp w [] w [] [(bt,3, #[.int .i64 y])] ((48,1, .slice (some ⟨b3,o3,none⟩) q c3,q,(J.map (·.1)).flatMap encSl) :: (J.map rowJ ++ [(3,1, .slice A7 n7 cA7,n7,([] ++ Kk).flatMap encI)])) y5) := hide hQ
     clear hQ
     go_frame
     refine (unhide hP).ap1O (enc := encI) (T := 3) (ST := 48) ((J.map rowJ).length + 1) (v := .slice A7 n7 cA7) (m := n7) (xs := [] ++ Kk) (get_tail _ _ _) rfl infoI Tryz.underlying48 one_encI (fun _ => rfl) (by decide) (by decide) rfl y rfl rfl ((unhide hP).get 0 rfl) (by have := unhide hn7; omega) ?_
     intro A8 cA8 y6 hQ
     rw [set_tail] at hQ
     obtain ⟨n8,hnv⟩ : ∃ n,n = n7 + 1 := ⟨_,rfl⟩
     rw [← hnv] at hQ ⊢
     have hn8 := hide hnv
     clear hnv
     replace hP : Hid (Sp w [] w [] [(bt,3, #[.int .i64 y])] ((48,1, .slice (some ⟨b3,o3,none⟩) q c3,q,(J.map (·.1)).flatMap encSl) :: (J.map rowJ ++ [(3,1, .slice A8 n8 cA8,n8,(([] ++ Kk) ++ [y]).flatMap encI)])) y6) := hide hQ
     clear hQ
     go_frame
     replace hP : Hid (Sp w [] w [] [] ((48,1, .slice (some ⟨b3,o3,none⟩) q c3,q,(J.map (·.1)).flatMap encSl) :: (J.map rowJ ++ [(3,1, .slice A8 n8 cA8,n8,(([] ++ Kk) ++ [y]).flatMap encI)])) y6) := hide ((unhide hP).sub (List.sublist_append_left _ ([(bt,3, #[.int .i64 y])] : List Cl)) (List.Sublist.refl _))
     refine (unhide hP).build1O 48 #[.slice A8 n8 cA8] rfl (run_buildSl rfl rfl) ?_
     intro bs y7 hQ
     replace hP : Hid (Sp w [] w [] [(bs,48, #[.slice A8 n8 cA8])] ((48,1, .slice (some ⟨b3,o3,none⟩) q c3,q,(J.map (·.1)).flatMap encSl) :: (J.map rowJ ++ [(3,1, .slice A8 n8 cA8,n8,(([] ++ Kk) ++ [y]).flatMap encI)])) y7) := hide hQ
     clear hQ
     go_frame
     refine (unhide hP).ap1O (enc := encSl) (T := 48) (ST := 46) 0 (v := .slice (some ⟨b3,o3,none⟩) q c3) (m := q) (xs := J.map (·.1)) rfl rfl infoR Tryz.underlying46 one_encSl (fun _ => rfl) (by decide) (by decide) rfl (A8,n8,cA8) rfl rfl ((unhide hP).get 0 rfl) (by omega) ?_
     intro A9 cA9 y8 hQ
     replace hP : Hid (Sp w [] w [] [(bs,48, #[.slice A8 n8 cA8])] ((48,1, .slice A9 (q + 1) cA9,q + 1,((J.map fun p : Sl × List Int => p.1) ++ [((A8,n8,cA8) : Sl)]).flatMap encSl) :: (J.map rowJ ++ [(3,1, .slice A8 n8 cA8,n8,(([] ++ Kk) ++ [y]).flatMap encI)])) y8) := hide hQ
     clear hQ
     go_frame
     replace hP : Hid (Sp w [] w [] [] ((48,1, .slice A9 (q + 1) cA9,q + 1,((J.map fun p : Sl × List Int => p.1) ++ [((A8,n8,cA8) : Sl)]).flatMap encSl) :: (J.map rowJ ++ [(3,1, .slice A8 n8 cA8,n8,(([] ++ Kk) ++ [y]).flatMap encI)])) y8) := hide ((unhide hP).sub (List.sublist_append_left _ ([(bs,48, #[.slice A8 n8 cA8])] : List Cl)) (List.Sublist.refl _))
     replace hP : Hid (Sp w [] w [] [] ((48,1, .slice A9 (q + 1) cA9,q + 1,((J ++ [(((A8,n8,cA8),([] ++ Kk) ++ [y]) : Sl × List Int)]).map (·.1)).flatMap encSl) :: ((J ++ [(((A8,n8,cA8),([] ++ Kk) ++ [y]) : Sl × List Int)]).map rowJ)) y8) := hide ((unhide hP).joinJ (p := ((A8,n8,cA8),([] ++ Kk) ++ [y])))
     refine wpO_want rfl ?_
     go_simp
     refine wpO_done ?_
     try go_frame
     go_wp2_with fail
     have h1 := unhide hk2
     have h2 := unhide hq'
     refine ⟨q0 - (k + 1), ?_,by have := unhide hfk'; omega⟩
     rw [unhide hI2_6]
     exact ⟨k + 1,A9,q + 1,cA9,J ++ [((A8,n8,cA8),([] ++ Kk) ++ [y])],(by first | rfl | trivial),(by first | rfl | trivial),(by first | rfl | trivial),(by first | rfl | trivial),(by first | rfl | trivial),(by first | rfl | (show _ = Value.int _ _; go_num) | go_num),(by first | rfl | trivial),by omega,by omega,(by rw [List.map_append,unhide hJ',unhide hmn',List.append_assoc]; rfl),(fun p hp => by rcases List.mem_append.1 hp with hp | hp; exact unhide hJl' p hp; rw [List.mem_singleton] at hp; subst hp; show n8 = _; rw [unhide hn8,unhide hn7,unhide hnk]; simp),unhide hP,rfl⟩
    ·have hil2 : ¬ (k : Int) < (q0 : Int) := by omega
     obtain rfl : k = q0 := by omega
     have hJn := hide (show J.map (·.2) = subsR (L.take (i + 1)) by rw [unhide hJ',unhide hnx',List.take_of_length_le (by rw [unhide hqP0]; exact Nat.le_refl _)])
     have hqJ := hide (show q = J.length by have h := congrArg List.length (unhide hJ'); rw [List.length_map,List.length_append,List.length_map,List.length_take] at h; have := unhide hqP0; have := unhide hq'; omega)
     clear hlt hk
     try dsimp only
     repeat ((fail_if_success (with_reducible refine wp_reg (id := 7) ?_)); (first | go_values | go_skip | go_step | go_guarded | go_upon | go_in | go_back | fail))
     with_reducible refine wp_reg (id := 7) ?_
     iterate 3
      refine wpO_want rfl ?_
      go_simp
     refine wpO_done ?_
     try go_frame
     go_wp2_with fail
     have h1 := unhide hi2
     refine ⟨n - (i + 1), ?_,by have := unhide hfm'; omega⟩
     rw [unhide hI2_2]
     exact ⟨i + 1,A3,q,c3,J,(by first | rfl | trivial),(by first | rfl | trivial),(by first | rfl | trivial),(by first | rfl | (show _ = Value.int _ _; go_num) | go_num),(by first | rfl | trivial),by omega,unhide hqJ,unhide hJn,unhide hJl',unhide hP,rfl⟩
  ·have hil : ¬ (i : Int) < (n : Int) := by omega
   have hJe := hide (show J.map (·.2) = subsR L by rw [unhide hJ',List.take_of_length_le (by have := unhide hn'; omega)])
   clear hlt hi hJ'
   try dsimp only
   repeat ((fail_if_success (with_reducible refine wp_reg (id := 3) ?_)); (first | go_values | go_skip | go_step | go_guarded | go_upon | go_in | go_back | fail))
   with_reducible refine wp_reg (id := 3) ?_
   iterate 4
    refine wpO_want rfl ?_
    go_simp
   refine wpO_done ?_
   try go_frame
   go_wp2_with fail
   refine Sp.leaves0 ?_
   rw [← unhide hJe]
   exact ⟨_,results_tmp (t := 2) rfl _ _ _,SsPost.mk (by rw [List.length_map]; exact unhide hq') (Sp.ss (tl := []) (by rw [List.append_nil]; exact unhide hP) (unhide hJl') rfl (unhide hq')) (unhide hP).extf⟩
end Go.Proofs.YtmfkkkhddigkfaaGreatDoor
