/- Parts of a proof, laid together. Each part says its own conditions. -/
import Derived.Test.YtmfkkkhddigkfaaGreatDoorR25
import Derived.Test.YtmfkkkhddigkfaaGreatDoorR26
import Derived.Test.YtmfkkkhddigkfaaGreatDoorR30
import Derived.Test.YtmfkkkhddigkfaaGreatDoorR31
import Derived.Test.YtmfkkkhddigkfaaGreatDoorR39
namespace Go.Proofs.YtmfkkkhddigkfaaGreatDoor
open Go Go.RowKit Go.Shelf
attribute [local go_sem] qUpon lUpon
attribute [local irreducible] wpO wpX wpQL
theorem mem_take_next {L : List Int} {k : Nat} (h : k < L.length) (x : Int) : x ∈ L.take (k + 1) ↔ x ∈ L.take k ∨ x = L[k] := by
 rw [List.take_succ_eq_append_getElem h,List.mem_append,List.mem_singleton]
theorem run_buildR {ρ : Operand → Value} {o : Oper} {x : Operand} {w : World} {z : Int} (ho : o.op = .buildSlice 48 1 #[(0,x)]) (hx : ρ x = .int .i64 z) : (execOp ρ o).run Tryz.prog w = .ok (.value (.slice (some ⟨w.heap.size,0,none⟩) 1 1)) (w.alloc (.cells #[.int .i64 z] 3)) := by
 unfold execOp
 simp only [ho]
 simp [go_sem,hx]
def SlQ (w : World) (xs : List Int) (e : Ending) (w' : World) : Prop := ∃ A' c',e = .returned (.slice A' xs.length c') ∧ SlAt encI 1 w' A' xs ∧ Ext w w'
theorem SlQ.mk {w w' : World} {xs : List Int} {A' : Option Addr} {n c' : Nat} (hn : n = xs.length) (h1 : SlAt encI 1 w' A' xs) (h2 : Ext w w') : SlQ w xs (.returned (.slice A' n c')) w' := ⟨A',c',by rw [hn],h1,h2⟩
theorem run_build0 {ρ : Operand → Value} {o : Oper} {w : World} (ho : o.op = .buildSlice 48 0 #[]) : (execOp ρ o).run Tryz.prog w = .ok (.value (.slice (some ⟨w.heap.size,0,none⟩) 0 0)) (w.alloc (.cells #[] 3)) := by
 unfold execOp
 simp only [ho]
 simp [go_sem]
set_option maxRecDepth 100000 in
set_option maxHeartbeats 16000000 in
theorem hasQ_any (A : Option Addr) (L : List Int) (n cL : Nat) (x : Int) (w : World) (hL : SlAt encI 1 w A L) (hn : n = L.length) (hl : n ≤ 100000) :
  Calls Tryz.prog 60 #[.slice A n cL, .int .i64 x] w fun e w' => e = .returned (.bool (decide (x ∈ L))) ∧ Ext w w' := by
 have hL' := hide hL
 have hn' := hide hn
 have hl' := hide hl
 clear hL hn hl
 have hP := hide (Sp.new w)
 refine callsIn_wide.1 (callsIn_of_wp_marks (n := 0) Tryz.func60 rfl trivial (wpIn_wide.2 ?_))
 simp only [Tryz.ntmps60,List.size_toArray,List.length_cons,List.length_nil,Nat.reduceAdd,Nat.reduceSub,Array.replicate_succ,Array.replicate_zero,List.push_toArray,List.append_toArray,List.nil_append,List.cons_append]
 try dsimp only
 repeat ((fail_if_success (with_reducible refine wp_reg (id := 1) ?_)); (first | go_values | go_skip | go_step | go_guarded | go_upon | go_in | go_back | fail))
 with_reducible refine wp_reg (id := 1) ?_
 refine wpO_want rfl ?_
 go_simp
 refine wpO_done ?_
 try go_frame
 go_wp2_with fail
 obtain ⟨I0_2,hI0_20⟩ : ∃ I : Nat → Act → World → Prop,I = fun fi a' wr => ∃ (k : Nat),a'.tmps.size = 18 ∧ a'.tmps.getD 0 undef = .slice A n cL ∧ a'.tmps.getD 1 undef = .int .i64 x ∧ a'.tmps.getD 5 undef = .int .i64 (k : Nat) ∧ a'.defers = [] ∧ k ≤ n ∧ ¬ x ∈ L.take k ∧ Sp w [] w [] [] [] wr ∧ fi = n - k := ⟨_,rfl⟩
 have hI0_2 := hide hI0_20
 clear hI0_20
 refine wp_loop_ix I0_2 (n - 0) ?_ ?_
 ·rw [unhide hI0_2]; exact ⟨0,rfl,rfl,rfl,rfl,rfl,Nat.zero_le _,by simp,unhide hP,rfl⟩
 ·rintro fi ⟨tm,dfs⟩ wr hrel
  rw [unhide hI0_2] at hrel
  obtain ⟨k,hsz,e0,e1,e5,hdf,hk,hno,hPr,hfm⟩ := hrel
  obtain ⟨us,rfl⟩ : ∃ us : Nat → Value,tm = #[us 0,us 1,us 2,us 3,us 4,us 5,us 6,us 7,us 8,us 9,us 10,us 11,us 12,us 13,us 14,us 15,us 16,us 17] := ⟨fun i => tm.getD i undef,arr_fn hsz⟩
  have h0 : us 0 = .slice A n cL := e0
  have h1 : us 1 = .int .i64 x := e1
  have h5 : us 5 = .int .i64 (k : Nat) := e5
  have hdf2 : dfs = [] := hdf
  subst hdf2
  clear hdf hsz e0 e1 e5
  simp only [h0,h1,h5]
  clear h0 h1 h5
  clear hP
  have hP := hide hPr
  have hno' := hide hno
  have hfm' := hide hfm
  clear hPr hno hfm
  by_cases hlt : k < n
  ·have hil : (k : Int) < (n : Int) := by omega
   have hk2 := hide hlt
   have hkL : k < L.length := by have := unhide hn'; omega
   have hkb : (k : Int) ≤ 100000 := by have := unhide hl'; omega
   clear hk hlt
   obtain ⟨b0,o0,rfl,hcz⟩ := cellI (unhide hL') hkL
   clear hcz
   obtain ⟨y,hy⟩ : ∃ y,y = L[k] := ⟨_,rfl⟩
   have c0 := slE ((unhide hL').ext (unhide hP).extf) hkL
   rw [← hy] at c0
   have hy' := hide hy
   clear hy
   have hself := Ext.refl wr
   try dsimp only
   repeat ((fail_if_success (with_reducible refine wp_reg (id := 2) ?_)); (first | go_values | go_skip | go_step | go_guarded | go_upon | go_in | go_back | fail))
   with_reducible refine wp_reg (id := 2) ?_
   iterate 4
    refine wpO_want rfl ?_
    go_simp
   refine wpO_done ?_
   try go_frame
   by_cases hyx : y = x
   ·subst hyx
    try dsimp only
    repeat ((fail_if_success (with_reducible refine wp_reg (id := 4) ?_)); (first | go_values | go_skip | go_step | go_guarded | go_upon | go_in | go_back | fail))
    with_reducible refine wp_reg (id := 4) ?_
    iterate 6
     refine wpO_want rfl ?_
     go_simp
    refine wpO_done ?_
    try go_frame
    clear c0 hself
    go_wp2_with fail
    refine Sp.leaves0 ?_
    exact ⟨_,results_tmp (t := 4) rfl _ _ _,congrArg (fun b => Ending.returned (Value.bool b)) (decide_eq_true (by rw [unhide hy']; exact List.getElem_mem _)).symm,(unhide hP).extf⟩
   ·have hyq : (y == x) = false := by simp [hyx]
    replace hyx := hide hyx
    try dsimp only
    repeat ((fail_if_success (with_reducible refine wp_reg (id := 4) ?_)); (first | go_values | go_skip | go_step | go_guarded | go_upon | go_in | go_back | fail))
    with_reducible refine wp_reg (id := 4) ?_
    iterate 6
     refine wpO_want rfl ?_
     go_simp
    refine wpO_done ?_
    try go_frame
    clear c0 hself hyq
    go_wp2_with fail
    have h1 := unhide hk2
    refine ⟨n - (k + 1), ?_,by have := unhide hfm'; omega⟩
    rw [unhide hI0_2]
    exact ⟨k + 1,(by first | rfl | trivial),(by first | rfl | trivial),(by first | rfl | trivial),(by first | rfl | (show _ = Value.int _ _; go_num) | go_num),(by first | rfl | trivial),by omega,(by rw [mem_take_next (by assumption), ← unhide hy']; rintro (h | h); exact unhide hno' h; exact unhide hyx h.symm),unhide hP,rfl⟩
  ·have hil : ¬ (k : Int) < (n : Int) := by omega
   have hno2 := hide (show ¬ x ∈ L by have h := unhide hno'; rwa [List.take_of_length_le (by have := unhide hn'; omega)] at h)
   clear hlt hk
   try dsimp only
   repeat ((fail_if_success (with_reducible refine wp_reg (id := 2) ?_)); (first | go_values | go_skip | go_step | go_guarded | go_upon | go_in | go_back | fail))
   with_reducible refine wp_reg (id := 2) ?_
   iterate 4
    refine wpO_want rfl ?_
    go_simp
   refine wpO_done ?_
   try go_frame
   go_wp2_with fail
   refine Sp.leaves0 ?_
   exact ⟨_,results_tmp (t := 4) rfl _ _ _,congrArg (fun b => Ending.returned (Value.bool b)) (decide_eq_false (unhide hno2)).symm,(unhide hP).extf⟩
def withQ (L : List Int) (x : Int) : List Int := if x < 0 ∨ 1023 < x ∨ x ∈ L then L else L.takeWhile (fun y => decide (y ≤ x)) ++ x :: L.dropWhile fun y => decide (y ≤ x)
def insK2 (x : Int) (L : List Int) : List Int := L.takeWhile (fun y => decide (y ≤ x)) ++ (if L.dropWhile (fun y => decide (y ≤ x)) = [] then [] else x :: L.dropWhile fun y => decide (y ≤ x))
def pastQ (x : Int) (L : List Int) : Bool := !(L.dropWhile fun y => decide (y ≤ x)).isEmpty
theorem dropWhile_snoc (p : Int → Bool) : ∀ (L : List Int) (y : Int),(L ++ [y]).dropWhile p = if L.dropWhile p = [] then (if p y = true then [] else [y]) else L.dropWhile p ++ [y]
 | [],y => by simp only [List.nil_append,List.dropWhile]; cases p y <;> simp
 | a :: L,y => by
  by_cases h : p a = true
  ·simp only [List.cons_append,List.dropWhile_cons,h,if_true]; exact dropWhile_snoc p L y
  ·simp [h]
theorem takeWhile_snoc (p : Int → Bool) : ∀ (L : List Int) (y : Int),(L ++ [y]).takeWhile p = if L.dropWhile p = [] ∧ p y = true then L ++ [y] else L.takeWhile p
 | [],y => by simp only [List.nil_append,List.takeWhile]; cases p y <;> simp
 | a :: L,y => by
  by_cases h : p a = true
  ·simp only [List.cons_append,List.takeWhile_cons,List.dropWhile_cons,h,if_true]
   rw [takeWhile_snoc p L y]
   split <;> rfl
  ·simp [h]
theorem dw_nil {p : Int → Bool} : ∀ {L : List Int},(∀ a ∈ L,p a = true) → L.dropWhile p = []
 | [],_ => rfl
 | a :: L,h => by rw [List.dropWhile_cons,if_pos (h a (by simp))]; exact dw_nil fun b hb => h b (by simp [hb])
theorem takeWhile_all {p : Int → Bool} {L : List Int} (h : L.dropWhile p = []) : L.takeWhile p = L := by
 have := List.takeWhile_append_dropWhile (p := p) (l := L)
 rw [h,List.append_nil] at this
 exact this
theorem insK2_next (x y : Int) (L : List Int) : insK2 x (L ++ [y]) = (if pastQ x L = false ∧ x < y then insK2 x L ++ [x] else insK2 x L) ++ [y] := by
 unfold insK2 pastQ
 rw [dropWhile_snoc,takeWhile_snoc]
 by_cases h : L.dropWhile (fun y => decide (y ≤ x)) = []
 ·have hT := takeWhile_all h
  by_cases hy : y ≤ x
  ·simp [h,hT,hy,Int.not_lt.2 hy]
  ·simp [h,hT,hy,Int.not_le.1 hy]
 ·have he : (L.dropWhile fun y => decide (y ≤ x)).isEmpty = false := by simpa using h
  simp [h,he]
theorem pastQ_next (x y : Int) (L : List Int) : pastQ x (L ++ [y]) = (pastQ x L || decide (x < y)) := by
 unfold pastQ
 rw [dropWhile_snoc]
 by_cases h : L.dropWhile (fun y => decide (y ≤ x)) = []
 ·rw [if_pos h,h]
  by_cases hy : y ≤ x
  ·rw [if_pos (by simpa using hy),decide_eq_false (by omega)]; rfl
  ·rw [if_neg (by simpa using hy),decide_eq_true (by omega)]; rfl
 ·rw [if_neg h]
  have he : (L.dropWhile fun y => decide (y ≤ x)).isEmpty = false := by simpa using h
  rw [he]
  simp
theorem insK2_end (x : Int) (L : List Int) : (if pastQ x L = true then insK2 x L else insK2 x L ++ [x]) = L.takeWhile (fun y => decide (y ≤ x)) ++ x :: L.dropWhile fun y => decide (y ≤ x) := by
 unfold insK2 pastQ
 by_cases h : L.dropWhile (fun y => decide (y ≤ x)) = []
 ·rw [h]; simp
 ·have he : (L.dropWhile fun y => decide (y ≤ x)).isEmpty = false := by simpa using h
  rw [he]
  simp [h]
theorem insK2_le (x : Int) (L : List Int) : (insK2 x L).length ≤ L.length + 1 := by
 unfold insK2
 have h := List.takeWhile_append_dropWhile (p := fun y => decide (y ≤ x)) (l := L)
 have h2 := congrArg List.length h
 rw [List.length_append] at h2 ⊢
 split
 ·simp; omega
 ·rw [List.length_cons]; omega
set_option maxRecDepth 100000 in
set_option maxHeartbeats 16000000 in
theorem withQ_any (A : Option Addr) (L : List Int) (n cL : Nat) (x : Int) (w : World) (hL : SlAt encI 1 w A L) (hn : n = L.length) (hl : n ≤ 100000) :
  Calls Tryz.prog 85 #[.slice A n cL, .int .i64 x] w (SlQ w (withQ L x)) := by
 have hL' := hide hL
 have hn' := hide hn
 have hl' := hide hl
 clear hL hn hl
 have hP := hide (Sp.new w)
 refine callsIn_wide.1 (callsIn_of_wp_marks (n := 0) Tryz.func85 rfl trivial (wpIn_wide.2 ?_))
 simp only [Tryz.ntmps85,List.size_toArray,List.length_cons,List.length_nil,Nat.reduceAdd,Nat.reduceSub,Array.replicate_succ,Array.replicate_zero,List.push_toArray,List.append_toArray,List.nil_append,List.cons_append]
 by_cases h1 : x < 0
 ·skip
  have hsame := hide (show withQ L x = L by unfold withQ; rw [if_pos (.inl h1)])
  try dsimp only
  repeat ((fail_if_success (with_reducible refine wp_reg (id := 1) ?_)); (first | go_values | go_skip | go_step | go_guarded | go_upon | go_in | go_back | fail))
  with_reducible refine wp_reg (id := 1) ?_
  iterate 3
   refine wpO_want rfl ?_
   go_simp
  refine wpO_out (by rfl) ?_
  go_frame
  refine wpO_out (by rfl) ?_
  go_frame
  iterate 2
   refine wpO_want rfl ?_
   go_simp
  refine wpO_out (by rfl) ?_
  go_frame
  refine wpO_out (by rfl) ?_
  go_frame
  refine wpO_out (by rfl) ?_
  go_frame
  refine wpO_want rfl ?_
  go_simp
  refine wpO_done ?_
  try go_frame
  go_wp2_with fail
  refine Sp.leaves0 ?_
  exact ⟨_,results_tmp (t := 4) rfl _ _ _,by rw [unhide hsame]; exact SlQ.mk (unhide hn') ((unhide hL').ext (unhide hP).extf) (unhide hP).extf⟩
 ·skip
  by_cases h2 : 1023 < x
  ·skip
   have hsame := hide (show withQ L x = L by unfold withQ; rw [if_pos (.inr (.inl h2))])
   have h3 : x > 1023 := h2
   try dsimp only
   repeat ((fail_if_success (with_reducible refine wp_reg (id := 1) ?_)); (first | go_values | go_skip | go_step | go_guarded | go_upon | go_in | go_back | fail))
   with_reducible refine wp_reg (id := 1) ?_
   iterate 7
    refine wpO_want rfl ?_
    go_simp
   refine wpO_out (by rfl) ?_
   go_frame
   refine wpO_out (by rfl) ?_
   go_frame
   refine wpO_out (by rfl) ?_
   go_frame
   refine wpO_want rfl ?_
   go_simp
   refine wpO_done ?_
   try go_frame
   go_wp2_with fail
   refine Sp.leaves0 ?_
   exact ⟨_,results_tmp (t := 4) rfl _ _ _,by rw [unhide hsame]; exact SlQ.mk (unhide hn') ((unhide hL').ext (unhide hP).extf) (unhide hP).extf⟩
  ·skip
   have h3 : ¬ x > 1023 := h2
   obtain ⟨q,hq⟩ : ∃ q,q = decide (x ∈ L) := ⟨_,rfl⟩
   have hq' := hide hq
   have h12 := hide (show ¬ x < 0 ∧ ¬ 1023 < x from ⟨h1,h2⟩)
   clear hq
   try dsimp only
   repeat ((fail_if_success (with_reducible refine wp_reg (id := 1) ?_)); (first | go_values | go_skip | go_step | go_guarded | go_upon | go_in | go_back | fail))
   with_reducible refine wp_reg (id := 1) ?_
   iterate 9
    refine wpO_want rfl ?_
    go_simp
   refine wpO_want rfl ?_
   go_simp
   have hca := hasQ_any A L n cL x w ((unhide hL').ext (unhide hP).extf) (unhide hn') (unhide hl')
   rw [← unhide hq'] at hca
   refine (hca).mono ?_
   rintro _ y1 ⟨rfl,hxc⟩
   clear hca
   refine ⟨_,rfl, ?_⟩
   replace hP : Hid (Sp w [] w [] [] [] y1) := hide ((unhide hP).ext hxc)
   clear hxc
   refine wpO_want rfl ?_
   go_simp
   refine wpO_done ?_
   try go_frame
   clear h1 h2 h3
   cases q with
   | true =>
    have hsame := hide (show withQ L x = L by unfold withQ; rw [if_pos (.inr (.inr (of_decide_eq_true (unhide hq').symm)))])
    go_wp2_with fail
    refine Sp.leaves0 ?_
    exact ⟨_,results_tmp (t := 4) rfl _ _ _,by rw [unhide hsame]; exact SlQ.mk (unhide hn') ((unhide hL').ext (unhide hP).extf) (unhide hP).extf⟩
   | false =>
    have hdiff := hide (show withQ L x = if pastQ x L = true then insK2 x L else insK2 x L ++ [x] by rw [insK2_end]; unfold withQ; rw [if_neg]; rintro (h | h | h); exact (unhide h12).1 h; exact (unhide h12).2 h; exact of_decide_eq_false (unhide hq').symm h)
    try dsimp only
    repeat ((fail_if_success (with_reducible refine wp_reg (id := 3) ?_)); (first | go_values | go_skip | go_step | go_guarded | go_upon | go_in | go_back | fail))
    with_reducible refine wp_reg (id := 3) ?_
    refine (unhide hP).allocVO (v := fun b => .slice (some ⟨b,0,none⟩) 0 0) 3 #[] rfl (run_build0 rfl) ?_
    intro be y2 hQ
    replace hP : Hid (Sp w [] w [] [(be,3, #[])] [] y2) := hide hQ
    clear hQ
    go_frame
    replace hP : Hid (Sp w [] w [] [] [(3,1, .slice (some ⟨be,0,none⟩) 0 0,0,[])] y2) := hide (Sp.toRow (L := []) (b := be) (t := 3) (n := 0) (cs := #[]) (unhide hP) rfl (by decide))
    refine wpO_want rfl ?_
    go_simp
    refine wpO_done ?_
    try go_frame
    try dsimp only
    repeat ((fail_if_success (with_reducible refine wp_reg (id := 4) ?_)); (first | go_values | go_skip | go_step | go_guarded | go_upon | go_in | go_back | fail))
    with_reducible refine wp_reg (id := 4) ?_
    refine wpO_want rfl ?_
    go_simp
    refine wpO_done ?_
    try go_frame
    try dsimp only
    repeat ((fail_if_success (with_reducible refine wp_reg (id := 5) ?_)); (first | go_values | go_skip | go_step | go_guarded | go_upon | go_in | go_back | fail))
    with_reducible refine wp_reg (id := 5) ?_
    refine wpO_want rfl ?_
    go_simp
    refine wpO_done ?_
    try go_frame
    go_wp2_with fail
    obtain ⟨I2_8,hI2_80⟩ : ∃ I : Nat → Act → World → Prop,I = fun fi a' wr => ∃ (k : Nat), ∃ (A5 : Option Addr), ∃ (q : Nat), ∃ (c5 : Nat), ∃ (xs : List Int), ∃ (dn : Bool),a'.tmps.size = 55 ∧ a'.tmps.getD 0 undef = .slice A n cL ∧ a'.tmps.getD 1 undef = .int .i64 x ∧ a'.tmps.getD 5 undef = .slice A5 q c5 ∧ a'.tmps.getD 6 undef = .bool dn ∧ a'.tmps.getD 7 undef = .int .i64 (k : Nat) ∧ a'.defers = [] ∧ k ≤ n ∧ q = xs.length ∧ xs = insK2 x (L.take k) ∧ dn = pastQ x (L.take k) ∧ Sp w [] w [] [] [(3,1, .slice A5 q c5,q,xs.flatMap encI)] wr ∧ fi = n - k := ⟨_,rfl⟩
    have hI2_8 := hide hI2_80
    clear hI2_80
    refine wp_loop_ix I2_8 (n - 0) ?_ ?_
    ·rw [unhide hI2_8]; exact ⟨0,some ⟨be,0,none⟩,0,0,[],false,rfl,rfl,rfl,rfl,rfl,rfl,rfl,Nat.zero_le _,rfl,rfl,rfl,unhide hP,rfl⟩
    ·rintro fi ⟨tm,dfs⟩ wr hrel
     rw [unhide hI2_8] at hrel
     obtain ⟨k,A5,q,c5,xs,dn,hsz,e0,e1,e5,e6,e7,hdf,hk,hq,hxs,hdn,hPr,hfm⟩ := hrel
     obtain ⟨us,rfl⟩ : ∃ us : Nat → Value,tm = #[us 0,us 1,us 2,us 3,us 4,us 5,us 6,us 7,us 8,us 9,us 10,us 11,us 12,us 13,us 14,us 15,us 16,us 17,us 18,us 19,us 20,us 21,us 22,us 23,us 24,us 25,us 26,us 27,us 28,us 29,us 30,us 31,us 32,us 33,us 34,us 35,us 36,us 37,us 38,us 39,us 40,us 41,us 42,us 43,us 44,us 45,us 46,us 47,us 48,us 49,us 50,us 51,us 52,us 53,us 54] := ⟨fun i => tm.getD i undef,arr_fn hsz⟩
     have h0 : us 0 = .slice A n cL := e0
     have h1 : us 1 = .int .i64 x := e1
     have h5 : us 5 = .slice A5 q c5 := e5
     have h6 : us 6 = .bool dn := e6
     have h7 : us 7 = .int .i64 (k : Nat) := e7
     have hdf2 : dfs = [] := hdf
     subst hdf2
     clear hdf hsz e0 e1 e5 e6 e7
     simp only [h0,h1,h5,h6,h7]
     clear h0 h1 h5 h6 h7
     clear hP
     have hP := hide hPr
     have hqq := hide hq
     have hxs' := hide hxs
     have hdn' := hide hdn
     have hfm' := hide hfm
     have hqb := hide (show q ≤ 100001 by rw [hq,hxs]; exact Nat.le_trans (insK2_le _ _) (by rw [List.length_take]; have := unhide hl'; omega))
     clear hPr hq hxs hdn hfm
     by_cases hlt : k < n
     ·have hil : (k : Int) < (n : Int) := by omega
      have hk2 := hide hlt
      have hkL : k < L.length := by have := unhide hn'; omega
      have hkb : (k : Int) ≤ 100000 := by have := unhide hl'; omega
      have hst := List.take_succ_eq_append_getElem hkL
      clear hk hlt
      obtain ⟨b0,o0,rfl,hcz⟩ := cellI (unhide hL') hkL
      clear hcz
      obtain ⟨y,hy⟩ : ∃ y,y = L[k] := ⟨_,rfl⟩
      have c0 := slE ((unhide hL').ext (unhide hP).extf) hkL
      rw [← hy] at c0
      have hy' := hide hy
      clear hy
      have hself := Ext.refl wr
      rw [← unhide hy'] at hst
      have hnx := insK2_next x y (L.take k)
      have hpx := pastQ_next x y (L.take k)
      rw [← hst, ← unhide hxs', ← unhide hdn'] at hnx
      rw [← hst, ← unhide hdn'] at hpx
      have hnx' := hide hnx
      have hpx' := hide hpx
      clear hst hnx hpx
      try dsimp only
      repeat ((fail_if_success (with_reducible refine wp_reg (id := 6) ?_)); (first | go_values | go_skip | go_step | go_guarded | go_upon | go_in | go_back | fail))
      with_reducible refine wp_reg (id := 6) ?_
      iterate 4
       refine wpO_want rfl ?_
       go_simp
      refine wpO_done ?_
      try go_frame
      cases dn with
      | true =>
       try dsimp only
       repeat ((fail_if_success (with_reducible refine wp_reg (id := 8) ?_)); (first | go_values | go_skip | go_step | go_guarded | go_upon | go_in | go_back | fail))
       with_reducible refine wp_reg (id := 8) ?_
       iterate 3
        refine wpO_want rfl ?_
        go_simp
       refine wpO_out (by rfl) ?_
       go_frame
       refine wpO_out (by rfl) ?_
       go_frame
       refine wpO_out (by rfl) ?_
       go_frame
       refine wpO_out (by rfl) ?_
       go_frame
       refine wpO_out (by rfl) ?_
       go_frame
       refine wpO_out (by rfl) ?_
       go_frame
       refine wpO_want rfl ?_
       go_simp
       refine wpO_done ?_
       try go_frame
       try dsimp only
       repeat ((fail_if_success (with_reducible refine wp_reg (id := 11) ?_)); (first | go_values | go_skip | go_step | go_guarded | go_upon | go_in | go_back | fail))
       with_reducible refine wp_reg (id := 11) ?_
       iterate 5
        refine wpO_want rfl ?_
        go_simp
       clear c0 hself
       refine (unhide hP).build1O 3 #[.int .i64 y] rfl (run_buildR rfl rfl) ?_
       intro bt y3 hQ
       replace hP : Hid (Sp w [] w [] [(bt,3, #[.int .i64 y])] [(3,1, .slice A5 q c5,q,xs.flatMap encI)] y3) := hide hQ
       clear hQ
       go_frame
       refine (unhide hP).ap1O (enc := encI) (T := 3) (ST := 48) 0 (v := .slice A5 q c5) (m := q) (xs := xs) rfl rfl infoI Tryz.underlying48 one_encI (fun _ => rfl) (by decide) (by decide) rfl y rfl rfl ((unhide hP).get 0 rfl) (by have := unhide hqb; omega) ?_
       intro A6 cA6 y4 hQ
       replace hP : Hid (Sp w [] w [] [(bt,3, #[.int .i64 y])] [(3,1, .slice A6 (q + 1) cA6,q + 1,(xs ++ [y]).flatMap encI)] y4) := hide hQ
       clear hQ
       try go_frame
       replace hP : Hid (Sp w [] w [] [] [(3,1, .slice A6 (q + 1) cA6,q + 1,(xs ++ [y]).flatMap encI)] y4) := hide ((unhide hP).sub (List.sublist_append_left _ ([(bt,3, #[.int .i64 y])] : List Cl)) (List.Sublist.refl _))
       refine wpO_want rfl ?_
       go_simp
       refine wpO_done ?_
       try go_frame
       go_wp2_with fail
       have h1 := unhide hk2
       refine ⟨n - (k + 1), ?_,by have := unhide hfm'; omega⟩
       rw [unhide hI2_8]
       exact ⟨k + 1,A6,q + 1,cA6,xs ++ [y],true,(by first | rfl | trivial),(by first | rfl | trivial),(by first | rfl | trivial),(by first | rfl | trivial),(by first | rfl | trivial),(by first | rfl | (show _ = Value.int _ _; go_num) | go_num),(by first | rfl | trivial),by omega,by rw [List.length_append, ← unhide hqq]; rfl,by rw [unhide hnx',if_neg (by simp)],by rw [unhide hpx']; rfl,unhide hP,rfl⟩
      | false =>
       by_cases hxy : x < y
       ·have hyx : y > x := hxy
        replace hxy := hide hxy
        try dsimp only
        repeat ((fail_if_success (with_reducible refine wp_reg (id := 8) ?_)); (first | go_values | go_skip | go_step | go_guarded | go_upon | go_in | go_back | fail))
        with_reducible refine wp_reg (id := 8) ?_
        iterate 10
         refine wpO_want rfl ?_
         go_simp
        refine wpO_done ?_
        try go_frame
        clear c0 hself hyx
        try dsimp only
        repeat ((fail_if_success (with_reducible refine wp_reg (id := 9) ?_)); (first | go_values | go_skip | go_step | go_guarded | go_upon | go_in | go_back | fail))
        with_reducible refine wp_reg (id := 9) ?_
        iterate 2
         refine wpO_want rfl ?_
         go_simp
        refine (unhide hP).build1O 3 #[.int .i64 x] rfl (run_buildR rfl rfl) ?_
        intro bt y3 hQ
        replace hP : Hid (Sp w [] w [] [(bt,3, #[.int .i64 x])] [(3,1, .slice A5 q c5,q,xs.flatMap encI)] y3) := hide hQ
        clear hQ
        go_frame
        refine (unhide hP).ap1O (enc := encI) (T := 3) (ST := 48) 0 (v := .slice A5 q c5) (m := q) (xs := xs) rfl rfl infoI Tryz.underlying48 one_encI (fun _ => rfl) (by decide) (by decide) rfl x rfl rfl ((unhide hP).get 0 rfl) (by have := unhide hqb; omega) ?_
        intro A6 cA6 y4 hQ
        replace hP : Hid (Sp w [] w [] [(bt,3, #[.int .i64 x])] [(3,1, .slice A6 (q + 1) cA6,q + 1,(xs ++ [x]).flatMap encI)] y4) := hide hQ
        clear hQ
        try go_frame
        replace hP : Hid (Sp w [] w [] [] [(3,1, .slice A6 (q + 1) cA6,q + 1,(xs ++ [x]).flatMap encI)] y4) := hide ((unhide hP).sub (List.sublist_append_left _ ([(bt,3, #[.int .i64 x])] : List Cl)) (List.Sublist.refl _))
        refine wpO_want rfl ?_
        go_simp
        refine wpO_done ?_
        try go_frame
        try dsimp only
        repeat ((fail_if_success (with_reducible refine wp_reg (id := 10) ?_)); (first | go_values | go_skip | go_step | go_guarded | go_upon | go_in | go_back | fail))
        with_reducible refine wp_reg (id := 10) ?_
        refine wpO_want rfl ?_
        go_simp
        refine wpO_done ?_
        try go_frame
        have c0 := slE ((unhide hL').ext (unhide hP).extf) hkL
        rw [← unhide hy'] at c0
        have hself := Ext.refl y4
        try dsimp only
        repeat ((fail_if_success (with_reducible refine wp_reg (id := 11) ?_)); (first | go_values | go_skip | go_step | go_guarded | go_upon | go_in | go_back | fail))
        with_reducible refine wp_reg (id := 11) ?_
        iterate 5
         refine wpO_want rfl ?_
         go_simp
        clear c0 hself
        refine (unhide hP).build1O 3 #[.int .i64 y] rfl (run_buildR rfl rfl) ?_
        intro bt y5 hQ
        replace hP : Hid (Sp w [] w [] [(bt,3, #[.int .i64 y])] [(3,1, .slice A6 (q + 1) cA6,q + 1,(xs ++ [x]).flatMap encI)] y5) := hide hQ
        clear hQ
        go_frame
        refine (unhide hP).ap1O (enc := encI) (T := 3) (ST := 48) 0 (v := .slice A6 (q + 1) cA6) (m := q + 1) (xs := (xs ++ [x])) rfl rfl infoI Tryz.underlying48 one_encI (fun _ => rfl) (by decide) (by decide) rfl y rfl rfl ((unhide hP).get 0 rfl) (by have := unhide hqb; omega) ?_
        intro A7 cA7 y6 hQ
        replace hP : Hid (Sp w [] w [] [(bt,3, #[.int .i64 y])] [(3,1, .slice A7 (q + 1 + 1) cA7,q + 1 + 1,((xs ++ [x]) ++ [y]).flatMap encI)] y6) := hide hQ
        clear hQ
        try go_frame
        replace hP : Hid (Sp w [] w [] [] [(3,1, .slice A7 (q + 1 + 1) cA7,q + 1 + 1,((xs ++ [x]) ++ [y]).flatMap encI)] y6) := hide ((unhide hP).sub (List.sublist_append_left _ ([(bt,3, #[.int .i64 y])] : List Cl)) (List.Sublist.refl _))
        refine wpO_want rfl ?_
        go_simp
        refine wpO_done ?_
        try go_frame
        go_wp2_with fail
        have h1 := unhide hk2
        refine ⟨n - (k + 1), ?_,by have := unhide hfm'; omega⟩
        rw [unhide hI2_8]
        exact ⟨k + 1,A7,q + 1 + 1,cA7,xs ++ [x] ++ [y],true,(by first | rfl | trivial),(by first | rfl | trivial),(by first | rfl | trivial),(by first | rfl | trivial),(by first | rfl | trivial),(by first | rfl | (show _ = Value.int _ _; go_num) | go_num),(by first | rfl | trivial),by omega,by rw [List.length_append,List.length_append, ← unhide hqq]; rfl,by rw [unhide hnx',if_pos (by simp; exact unhide hxy)],by rw [unhide hpx',decide_eq_true (unhide hxy)]; rfl,unhide hP,rfl⟩
       ·have hyx : ¬ y > x := hxy
        replace hxy := hide hxy
        try dsimp only
        repeat ((fail_if_success (with_reducible refine wp_reg (id := 8) ?_)); (first | go_values | go_skip | go_step | go_guarded | go_upon | go_in | go_back | fail))
        with_reducible refine wp_reg (id := 8) ?_
        iterate 10
         refine wpO_want rfl ?_
         go_simp
        refine wpO_done ?_
        try go_frame
        clear hyx
        try dsimp only
        repeat ((fail_if_success (with_reducible refine wp_reg (id := 11) ?_)); (first | go_values | go_skip | go_step | go_guarded | go_upon | go_in | go_back | fail))
        with_reducible refine wp_reg (id := 11) ?_
        iterate 5
         refine wpO_want rfl ?_
         go_simp
        clear c0 hself
        refine (unhide hP).build1O 3 #[.int .i64 y] rfl (run_buildR rfl rfl) ?_
        intro bt y3 hQ
        replace hP : Hid (Sp w [] w [] [(bt,3, #[.int .i64 y])] [(3,1, .slice A5 q c5,q,xs.flatMap encI)] y3) := hide hQ
        clear hQ
        go_frame
        refine (unhide hP).ap1O (enc := encI) (T := 3) (ST := 48) 0 (v := .slice A5 q c5) (m := q) (xs := xs) rfl rfl infoI Tryz.underlying48 one_encI (fun _ => rfl) (by decide) (by decide) rfl y rfl rfl ((unhide hP).get 0 rfl) (by have := unhide hqb; omega) ?_
        intro A6 cA6 y4 hQ
        replace hP : Hid (Sp w [] w [] [(bt,3, #[.int .i64 y])] [(3,1, .slice A6 (q + 1) cA6,q + 1,(xs ++ [y]).flatMap encI)] y4) := hide hQ
        clear hQ
        try go_frame
        replace hP : Hid (Sp w [] w [] [] [(3,1, .slice A6 (q + 1) cA6,q + 1,(xs ++ [y]).flatMap encI)] y4) := hide ((unhide hP).sub (List.sublist_append_left _ ([(bt,3, #[.int .i64 y])] : List Cl)) (List.Sublist.refl _))
        refine wpO_want rfl ?_
        go_simp
        refine wpO_done ?_
        try go_frame
        go_wp2_with fail
        have h1 := unhide hk2
        refine ⟨n - (k + 1), ?_,by have := unhide hfm'; omega⟩
        rw [unhide hI2_8]
        exact ⟨k + 1,A6,q + 1,cA6,xs ++ [y],false,(by first | rfl | trivial),(by first | rfl | trivial),(by first | rfl | trivial),(by first | rfl | trivial),(by first | rfl | trivial),(by first | rfl | (show _ = Value.int _ _; go_num) | go_num),(by first | rfl | trivial),by omega,by rw [List.length_append, ← unhide hqq]; rfl,by rw [unhide hnx',if_neg (fun h => by have := unhide hxy; omega)],by rw [unhide hpx',decide_eq_false (by have := unhide hxy; omega)]; rfl,unhide hP,rfl⟩
     ·have hil : ¬ (k : Int) < (n : Int) := by omega
      have htk : L.take k = L := List.take_of_length_le (by have := unhide hn'; omega)
      have hxe := hide (show xs = insK2 x L by rw [unhide hxs',htk])
      have hde := hide (show dn = pastQ x L by rw [unhide hdn',htk])
      clear hlt hk hxs' hdn' htk
      try dsimp only
      repeat ((fail_if_success (with_reducible refine wp_reg (id := 6) ?_)); (first | go_values | go_skip | go_step | go_guarded | go_upon | go_in | go_back | fail))
      with_reducible refine wp_reg (id := 6) ?_
      iterate 4
       refine wpO_want rfl ?_
       go_simp
      refine wpO_done ?_
      try go_frame
      cases dn with
      | true =>
       try dsimp only
       repeat ((fail_if_success (with_reducible refine wp_reg (id := 12) ?_)); (first | go_values | go_skip | go_step | go_guarded | go_upon | go_in | go_back | fail))
       with_reducible refine wp_reg (id := 12) ?_
       iterate 2
        refine wpO_want rfl ?_
        go_simp
       refine wpO_done ?_
       try go_frame
       go_wp2_with fail
       refine Sp.leaves0 ?_
       exact ⟨_,results_tmp (t := 4) rfl _ _ _,by rw [unhide hdiff, ← unhide hde, ← unhide hxe]; exact SlQ.mk (unhide hqq) (own_at (enc := encI) (by have h := (unhide hP).row 0 rfl; rw [unhide hqq] at h; exact h) (fun _ => rfl)) (unhide hP).extf⟩
      | false =>
       try dsimp only
       repeat ((fail_if_success (with_reducible refine wp_reg (id := 12) ?_)); (first | go_values | go_skip | go_step | go_guarded | go_upon | go_in | go_back | fail))
       with_reducible refine wp_reg (id := 12) ?_
       iterate 2
        refine wpO_want rfl ?_
        go_simp
       refine wpO_done ?_
       try go_frame
       try dsimp only
       repeat ((fail_if_success (with_reducible refine wp_reg (id := 13) ?_)); (first | go_values | go_skip | go_step | go_guarded | go_upon | go_in | go_back | fail))
       with_reducible refine wp_reg (id := 13) ?_
       iterate 2
        refine wpO_want rfl ?_
        go_simp
       refine (unhide hP).build1O 3 #[.int .i64 x] rfl (run_buildR rfl rfl) ?_
       intro bt y3 hQ
       replace hP : Hid (Sp w [] w [] [(bt,3, #[.int .i64 x])] [(3,1, .slice A5 q c5,q,xs.flatMap encI)] y3) := hide hQ
       clear hQ
       go_frame
       refine (unhide hP).ap1O (enc := encI) (T := 3) (ST := 48) 0 (v := .slice A5 q c5) (m := q) (xs := xs) rfl rfl infoI Tryz.underlying48 one_encI (fun _ => rfl) (by decide) (by decide) rfl x rfl rfl ((unhide hP).get 0 rfl) (by have := unhide hqb; omega) ?_
       intro A6 cA6 y4 hQ
       replace hP : Hid (Sp w [] w [] [(bt,3, #[.int .i64 x])] [(3,1, .slice A6 (q + 1) cA6,q + 1,(xs ++ [x]).flatMap encI)] y4) := hide hQ
       clear hQ
       try go_frame
       replace hP : Hid (Sp w [] w [] [] [(3,1, .slice A6 (q + 1) cA6,q + 1,(xs ++ [x]).flatMap encI)] y4) := hide ((unhide hP).sub (List.sublist_append_left _ ([(bt,3, #[.int .i64 x])] : List Cl)) (List.Sublist.refl _))
       refine wpO_want rfl ?_
       go_simp
       refine wpO_done ?_
       try go_frame
       go_wp2_with fail
       have hl6 : q + 1 = (xs ++ [x]).length := by rw [List.length_append, ← unhide hqq]; rfl
       refine Sp.leaves0 ?_
       exact ⟨_,results_tmp (t := 4) rfl _ _ _,by rw [unhide hdiff, ← unhide hde, ← unhide hxe]; exact SlQ.mk hl6 (own_at (enc := encI) (by have h := (unhide hP).row 0 rfl; rw [hl6] at h; exact h) (fun _ => rfl)) (unhide hP).extf⟩
def ofQ (L : List Int) : List Int := L.foldl withQ []
theorem ofQ_next (L : List Int) {k : Nat} (h : k < L.length) : ofQ (L.take (k + 1)) = withQ (ofQ (L.take k)) L[k] := by
 rw [List.take_succ_eq_append_getElem h]
 unfold ofQ
 rw [List.foldl_append]; rfl
theorem withQ_le (L : List Int) (x : Int) : (withQ L x).length ≤ L.length + 1 := by
 unfold withQ
 split
 ·omega
 ·have h := List.takeWhile_append_dropWhile (p := fun y => decide (y ≤ x)) (l := L)
  have h2 := congrArg List.length h
  rw [List.length_append] at h2 ⊢
  rw [List.length_cons]; omega
theorem foldQ_le : ∀ (L A : List Int),(L.foldl withQ A).length ≤ A.length + L.length
 | [],A => by simp
 | x :: L,A => by
  rw [List.foldl_cons,List.length_cons]
  have := foldQ_le L (withQ A x)
  have := withQ_le A x
  omega
theorem foldQ_sorted : ∀ (L A : List Int),(A ++ L).Pairwise (· < ·) → (∀ x ∈ L,0 ≤ x ∧ x < 1024) → L.foldl withQ A = A ++ L
 | [],A,_,_ => by simp
 | x :: L,A,h,hr => by
  have h3 : ∀ a ∈ A,a < x := fun a ha => (List.pairwise_append.1 h).2.2 a ha x (by simp)
  have e : withQ A x = A ++ [x] := by
   have hx := hr x (by simp)
   unfold withQ
   rw [if_neg (by rintro (h1 | h1 | h1); omega; omega; have := h3 x h1; omega)]
   have hd : A.dropWhile (fun y => decide (y ≤ x)) = [] := dw_nil fun a ha => by have := h3 a ha; simp; omega
   rw [hd,takeWhile_all hd]
  rw [List.foldl_cons,e,foldQ_sorted L (A ++ [x]) (by rw [List.append_assoc]; exact h) fun y hy => hr y (by simp [hy]),List.append_assoc]
  rfl
theorem ofQ_sorted {L : List Int} (h : L.Pairwise (· < ·)) (hr : ∀ x ∈ L,0 ≤ x ∧ x < 1024) : ofQ L = L := by
 have := foldQ_sorted L [] (by simpa using h) hr
 simpa [ofQ] using this
set_option maxRecDepth 100000 in
set_option maxHeartbeats 16000000 in
theorem ofQ_any (A : Option Addr) (L : List Int) (n cL : Nat) (w : World) (hL : SlAt encI 1 w A L) (hn : n = L.length) (hl : n ≤ 90000) :
  Calls Tryz.prog 59 #[.slice A n cL] w (SlQ w (ofQ L)) := by
 have hL' := hide hL
 have hn' := hide hn
 have hl' := hide hl
 clear hL hn hl
 have hP := hide (Sp.new w)
 refine callsIn_wide.1 (callsIn_of_wp_marks (n := 0) Tryz.func59 rfl trivial (wpIn_wide.2 ?_))
 simp only [Tryz.ntmps59,List.size_toArray,List.length_cons,List.length_nil,Nat.reduceAdd,Nat.reduceSub,Array.replicate_succ,Array.replicate_zero,List.push_toArray,List.append_toArray,List.nil_append,List.cons_append]
 try dsimp only
 repeat ((fail_if_success (with_reducible refine wp_reg (id := 1) ?_)); (first | go_values | go_skip | go_step | go_guarded | go_upon | go_in | go_back | fail))
 with_reducible refine wp_reg (id := 1) ?_
 refine (unhide hP).allocVO (v := fun b => .slice (some ⟨b,0,none⟩) 0 0) 3 #[] rfl (run_build0 rfl) ?_
 intro be y1 hQ
 replace hP : Hid (Sp w [] w [] [(be,3, #[])] [] y1) := hide hQ
 clear hQ
 go_frame
 replace hP : Hid (Sp w [] w [] [] [] y1) := hide ((unhide hP).sub (List.sublist_append_left _ ([(be,3, #[])] : List Cl)) (List.Sublist.refl _))
 refine wpO_want rfl ?_
 go_simp
 refine wpO_done ?_
 try go_frame
 try dsimp only
 repeat ((fail_if_success (with_reducible refine wp_reg (id := 2) ?_)); (first | go_values | go_skip | go_step | go_guarded | go_upon | go_in | go_back | fail))
 with_reducible refine wp_reg (id := 2) ?_
 refine wpO_want rfl ?_
 go_simp
 refine wpO_done ?_
 try go_frame
 go_wp2_with fail
 obtain ⟨I1_2,hI1_20⟩ : ∃ I : Nat → Act → World → Prop,I = fun fi a' wr => ∃ (k : Nat), ∃ (A3 : Option Addr), ∃ (q : Nat), ∃ (c3 : Nat), ∃ (xs : List Int),a'.tmps.size = 19 ∧ a'.tmps.getD 0 undef = .slice A n cL ∧ a'.tmps.getD 3 undef = .slice A3 q c3 ∧ a'.tmps.getD 4 undef = .int .i64 (k : Nat) ∧ a'.defers = [] ∧ k ≤ n ∧ q = xs.length ∧ xs = ofQ (L.take k) ∧ SlAt encI 1 wr A3 xs ∧ Sp w [] w [] [] [] wr ∧ fi = n - k := ⟨_,rfl⟩
 have hI1_2 := hide hI1_20
 clear hI1_20
 refine wp_loop_ix I1_2 (n - 0) ?_ ?_
 ·rw [unhide hI1_2]; exact ⟨0,some ⟨be,0,none⟩,0,0,[],rfl,rfl,rfl,rfl,rfl,Nat.zero_le _,rfl,rfl,(fun h => absurd rfl h),unhide hP,rfl⟩
 ·rintro fi ⟨tm,dfs⟩ wr hrel
  rw [unhide hI1_2] at hrel
  obtain ⟨k,A3,q,c3,xs,hsz,e0,e3,e4,hdf,hk,hq,hxs,hsx,hPr,hfm⟩ := hrel
  obtain ⟨us,rfl⟩ : ∃ us : Nat → Value,tm = #[us 0,us 1,us 2,us 3,us 4,us 5,us 6,us 7,us 8,us 9,us 10,us 11,us 12,us 13,us 14,us 15,us 16,us 17,us 18] := ⟨fun i => tm.getD i undef,arr_fn hsz⟩
  have h0 : us 0 = .slice A n cL := e0
  have h3 : us 3 = .slice A3 q c3 := e3
  have h4 : us 4 = .int .i64 (k : Nat) := e4
  have hdf2 : dfs = [] := hdf
  subst hdf2
  clear hdf hsz e0 e3 e4
  simp only [h0,h3,h4]
  clear h0 h3 h4
  clear hP
  have hP := hide hPr
  have hqq := hide hq
  have hxs' := hide hxs
  have hsx' := hide hsx
  have hfm' := hide hfm
  have hqb := hide (show q ≤ 90000 by rw [hq,hxs]; have h := foldQ_le (L.take k) []; rw [List.length_take,List.length_nil] at h; have := unhide hl'; unfold ofQ; omega)
  clear hPr hq hxs hsx hfm
  by_cases hlt : k < n
  ·have hil : (k : Int) < (n : Int) := by omega
   have hk2 := hide hlt
   have hkL : k < L.length := by have := unhide hn'; omega
   have hkb : (k : Int) ≤ 90000 := by have := unhide hl'; omega
   have hnx := ofQ_next L hkL
   rw [← unhide hxs'] at hnx
   clear hk hlt hxs'
   obtain ⟨b0,o0,rfl,hcz⟩ := cellI (unhide hL') hkL
   clear hcz
   obtain ⟨y,hy⟩ : ∃ y,y = L[k] := ⟨_,rfl⟩
   have c0 := slE ((unhide hL').ext (unhide hP).extf) hkL
   rw [← hy] at c0
   have hy' := hide hy
   clear hy
   have hself := Ext.refl wr
   rw [← unhide hy'] at hnx
   have hnx' := hide hnx
   clear hnx
   try dsimp only
   repeat ((fail_if_success (with_reducible refine wp_reg (id := 3) ?_)); (first | go_values | go_skip | go_step | go_guarded | go_upon | go_in | go_back | fail))
   with_reducible refine wp_reg (id := 3) ?_
   iterate 4
    refine wpO_want rfl ?_
    go_simp
   refine wpO_done ?_
   try go_frame
   try dsimp only
   repeat ((fail_if_success (with_reducible refine wp_reg (id := 5) ?_)); (first | go_values | go_skip | go_step | go_guarded | go_upon | go_in | go_back | fail))
   with_reducible refine wp_reg (id := 5) ?_
   iterate 5
    refine wpO_want rfl ?_
    go_simp
   refine wpO_want rfl ?_
   go_simp
   have hca := withQ_any A3 xs q c3 y wr (unhide hsx') (unhide hqq) (by have := unhide hqb; omega)
   obtain ⟨zs,hzs⟩ : ∃ zs,zs = withQ xs y := ⟨_,rfl⟩
   rw [← hzs] at hca
   have hzs' := hide hzs
   clear c0 hself hzs
   refine (hca).mono ?_
   rintro _ y2 ⟨A4,c4,rfl,hs4,hxc⟩
   have hs4' := hide hs4
   obtain ⟨qz,hqz⟩ : ∃ q,q = zs.length := ⟨_,rfl⟩
   rw [← hqz]
   have hqz' := hide hqz
   clear hca hs4 hqz
   refine ⟨_,rfl, ?_⟩
   replace hP : Hid (Sp w [] w [] [] [] y2) := hide ((unhide hP).ext hxc)
   clear hxc
   refine wpO_want rfl ?_
   go_simp
   refine wpO_done ?_
   try go_frame
   go_wp2_with fail
   have h1 := unhide hk2
   refine ⟨n - (k + 1), ?_,by have := unhide hfm'; omega⟩
   rw [unhide hI1_2]
   exact ⟨k + 1,A4,qz,c4,zs,(by first | rfl | trivial),(by first | rfl | trivial),(by first | rfl | trivial),(by first | rfl | (show _ = Value.int _ _; go_num) | go_num),(by first | rfl | trivial),by omega,unhide hqz',by rw [unhide hzs',unhide hnx'],unhide hs4',unhide hP,rfl⟩
  ·have hil : ¬ (k : Int) < (n : Int) := by omega
   have hxe := hide (show xs = ofQ L by rw [unhide hxs',List.take_of_length_le (by have := unhide hn'; omega)])
   clear hlt hk hxs'
   try dsimp only
   repeat ((fail_if_success (with_reducible refine wp_reg (id := 3) ?_)); (first | go_values | go_skip | go_step | go_guarded | go_upon | go_in | go_back | fail))
   with_reducible refine wp_reg (id := 3) ?_
   iterate 4
    refine wpO_want rfl ?_
    go_simp
   refine wpO_done ?_
   try go_frame
   go_wp2_with fail
   refine Sp.leaves0 ?_
   exact ⟨_,results_tmp (t := 2) rfl _ _ _,by rw [← unhide hxe]; exact SlQ.mk (unhide hqq) (unhide hsx') (unhide hP).extf⟩
end Go.Proofs.YtmfkkkhddigkfaaGreatDoor
