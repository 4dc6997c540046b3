/- Parts of a proof, laid together: Ht, Er, Fl, K2, R1, Np. Each part says its own conditions. -/
import Derived.Test.YtjehhilijeajnaaGreatDoorC6
import Derived.Test.YtjehhilijeajnaaGreatDoorC5
import Derived.Test.YtjehhilijeajnaaGreatDoorC3
import Derived.Deep.Upon
import Derived.Test.YtjehhilijeajnaaGreatDoorRp
/- elimination.Height. Conditions: see each theorem. -/
namespace Go.Proofs.YtjehhilijeajnaaGreatDoor
open Go Go.RowKit Go.Shelf
attribute [local go_sem] qUpon lUpon

/-- parents come later, or are none -/
def UpOK (P : List Int) : Prop := ∀ i (h : i < P.length), P[i] = -1 ∨ (i : Int) < P[i] ∧ P[i] < P.length
/-- how deep a position lies -/
def depF (P : List Int) : Nat → Nat → Int
  | 0, _ => 0
  | f + 1, i => if 0 ≤ P[i]?.getD (-1) then 1 + depF P f (P[i]?.getD (-1)).toNat else 1
def dep (P : List Int) (i : Nat) : Int := depF P (P.length - i) i
theorem depF_fuel {P : List Int} (hP : UpOK P) : ∀ (f g i : Nat), P.length - i ≤ f → P.length - i ≤ g → i < P.length → depF P f i = depF P g i
  | 0, _, i, h, _, hi => by omega
  | _ + 1, 0, i, _, h, hi => by omega
  | f + 1, g + 1, i, h1, h2, hi => by
    unfold depF
    have hg : P[i]?.getD (-1) = P[i] := by simp [hi]
    rw [hg]
    rcases hP i hi with h | ⟨h3, h4⟩
    · rw [h]; rfl
    · rw [if_pos (by omega), if_pos (by omega), depF_fuel hP f g P[i].toNat (by omega) (by omega) (by omega)]
theorem dep_none {P : List Int} {i : Nat} (hi : i < P.length) (h : P[i] < 0) : dep P i = 1 := by
  unfold dep
  obtain ⟨f, hf⟩ : ∃ f, P.length - i = f + 1 := ⟨P.length - i - 1, by omega⟩
  rw [hf]
  unfold depF
  rw [show P[i]?.getD (-1) = P[i] by simp [hi], if_neg (by omega)]
theorem dep_some {P : List Int} (hP : UpOK P) {i : Nat} (hi : i < P.length) (h : 0 ≤ P[i]) : dep P i = 1 + dep P P[i].toNat := by
  unfold dep
  obtain ⟨f, hf⟩ : ∃ f, P.length - i = f + 1 := ⟨P.length - i - 1, by omega⟩
  rw [hf]
  have hg : P[i]?.getD (-1) = P[i] := by simp [hi]
  rcases hP i hi with h2 | ⟨h3, h4⟩
  · omega
  · rw [← depF_fuel hP f (P.length - P[i].toNat) P[i].toNat (by omega) (by omega) (by omega)]
    conv => lhs; unfold depF
    rw [hg, if_pos (by omega)]
theorem dep_bound {P : List Int} (f i : Nat) : 0 ≤ depF P f i ∧ depF P f i ≤ f := by
  induction f generalizing i with
  | zero => unfold depF; omega
  | succ f ih =>
    unfold depF
    split
    · have := ih (P[i]?.getD (-1)).toNat; omega
    · omega
/-- the array, from position k on -/
def dA (P : List Int) (k : Nat) : Array Value := ((List.range P.length).map fun j => Value.int .i64 (if k ≤ j then dep P j else 0)).toArray
theorem dA_size (P : List Int) (k : Nat) : (dA P k).size = P.length := by simp [dA]
theorem dA_get (P : List Int) (k : Nat) {j : Nat} (hj : j < P.length) : (dA P k)[j]? = some (.int .i64 (if k ≤ j then dep P j else 0)) := by
  simp [dA, hj]
theorem dA_set (P : List Int) (k : Nat) : (dA P (k + 1)).setIfInBounds k (.int .i64 (dep P k)) = dA P k := by
  apply Array.ext_getElem?
  intro j
  by_cases hj : j < P.length
  · rw [Array.getElem?_setIfInBounds, dA_size, dA_get P k hj, dA_get P (k + 1) hj]
    by_cases hk : k = j
    · subst hk; simp [hj]
    · rw [if_neg hk]
      have : (k + 1 ≤ j) = (k ≤ j) := by rw [eq_iff_iff]; omega
      simp only [this]
  · rw [Array.getElem?_eq_none (by simp [dA_size]; omega), Array.getElem?_eq_none (by rw [dA_size]; omega)]
theorem set_set (cs : Array Value) (i : Nat) (u v : Value) : (cs.setIfInBounds i u).setIfInBounds i v = cs.setIfInBounds i v := by
  apply Array.ext_getElem?
  intro j
  simp only [Array.getElem?_setIfInBounds, Array.size_setIfInBounds]
  split <;> rfl
theorem dA_zero (P : List Int) : dA P P.length = Array.replicate P.length (.int .i64 0) := by
  apply Array.ext_getElem?
  intro j
  by_cases hj : j < P.length
  · rw [dA_get P _ hj, if_neg (by omega), Array.getElem?_replicate, if_pos hj]
  · rw [Array.getElem?_eq_none (by rw [dA_size]; omega), Array.getElem?_eq_none (by simp; omega)]
set_option maxRecDepth 100000 in
theorem run_mk_ints (P : List Int) (hn : P.length ≤ 100000) (w : World) : (Instr.makeSlice 29 (.int .i64 P.length) (.int .i64 P.length)).run Tryz.prog w = .ok (.slice (some ⟨w.heap.size, 0, none⟩) P.length P.length) (w.alloc (.cells (dA P P.length) 3)) := by
  obtain ⟨i0, hi, hi1⟩ := Option.map_eq_some_iff.1 infoI
  simp only [Prod.mk.injEq] at hi1
  obtain ⟨hz1, hz2, hz3⟩ := hi1
  obtain ⟨z0, hz, hz4⟩ := Option.map_eq_some_iff.1 hz1
  have hzc : z0 = .int .i64 0 := by
    have h1 : Tryz.prog.info? 3 = some i0 := hi
    have h2 : (Tryz.prog.info? 3).bind (·.zero) = some (.int .i64 0) := by kernel_rfl
    rw [h1] at h2
    simp only [Option.bind_some] at h2
    rw [hz] at h2
    exact Option.some.inj h2
  subst hzc
  have h := run_make (P := Tryz.prog) w 29 3 i0 (.int .i64 0) Tryz.underlying29 hi hz .i64 .i64 P.length P.length (by omega) (Int.le_refl _) (by rw [hz3]; omega) (by omega)
  rw [hz2] at h
  simp only [Int.toNat_natCast, Nat.mul_one] at h
  rw [h, dA_zero]
  congr 3
  apply Array.ext_getElem?
  intro j
  by_cases hj : j < P.length
  · simp [madeCells, Value.cells, hj, Nat.mod_one]
  · rw [Array.getElem?_eq_none (by simp [madeCells]; omega), Array.getElem?_eq_none (by simp; omega)]
/-- the greatest depth so far -/
def mostF (P : List Int) (pre : List (Int × Int)) : Int := pre.foldl (fun m p => max m (dep P p.1.toNat)) 0
def hgtM (P : List Int) : Int := mostF P (bwL P)
theorem bw_at {P : List Int} {pre : List (Int × Int)} {x : Int × Int} (h : (pre ++ [x]) <+: bwL P) : ∃ hk : P.length - 1 - pre.length < P.length, pre.length < P.length ∧ x = (((P.length - 1 - pre.length : Nat) : Int), P[P.length - 1 - pre.length]) := by
  obtain ⟨r, hr⟩ := h
  have hlen : (bwL P).length = P.length := by simp [bwL]
  have hl : pre.length < P.length := by rw [← hlen, ← hr, List.length_append, List.length_append, List.length_singleton]; omega
  have hx : (bwL P)[pre.length]? = some x := by rw [← hr]; simp
  unfold bwL at hx
  rw [List.getElem?_reverse (by simpa using hl)] at hx
  simp only [List.length_map, List.length_range] at hx
  have hk : P.length - 1 - pre.length < P.length := by omega
  rw [List.getElem?_map, List.getElem?_range hk] at hx
  simp only [Option.map_some, Option.some.injEq] at hx
  refine ⟨hk, hl, ?_⟩
  rw [← hx]
  unfold bwF
  rw [List.getElem?_eq_getElem hk, Option.getD_some]
theorem zip2 (tm : Array Value) (p q : Nat) (u v : Value) : (#[p, q].zip #[u, v]).foldl (fun t (q : Nat × Value) => t.setIfInBounds q.1 q.2) tm = (tm.setIfInBounds p u).setIfInBounds q v := by simp [Array.zip]

theorem depF_bound (P : List Int) (i : Nat) : 0 ≤ dep P i ∧ dep P i ≤ P.length := by
  have := dep_bound (P := P) (P.length - i) i
  unfold dep
  omega
/-- within the loop -/
def HtI (P : List Int) (bd bm : Nat) (w0 : World) (pre : List (Int × Int)) (W : World) : Prop :=
  Blk W bd 3 (dA P (P.length - pre.length)) ∧ Blk W bm 3 #[.int .i64 (mostF P pre)] ∧ Keep [bd, bm] w0 W

theorem HtI.keep {P : List Int} {bd bm n B : Nat} {w0 W W' : World} {pre : List (Int × Int)} (h : HtI P bd bm w0 pre W) (k : Keep (privs B n) W W') (hS : bd < B ∧ bm < B ∧ w0.heap.size ≤ B) : HtI P bd bm w0 pre W' :=
  ⟨h.1.keep k (by rw [mem_privs]; omega), h.2.1.keep k (by rw [mem_privs]; omega), h.2.2.of_new k (fun x hx => by rw [mem_privs] at hx; right; omega)⟩
set_option maxRecDepth 100000 in
set_option maxHeartbeats 8000000 in
theorem height_gen (x y : Value) (P : List Int) (er : Int) (w : World) (hP : UpOK P) (hn : P.length ≤ 100000)
    (hpar : Calls Tryz.prog 12 #[x, y] w fun e w' => ∃ A' c', e = .returned (.tuple #[.slice A' P.length c', .int .i64 er]) ∧ SlAt encI 1 w' A' P ∧ Ext w w') :
    Calls Tryz.prog 13 #[x, y] w fun e w' => e = .returned (.tuple #[.int .i64 (hgtM P), .int .i64 er]) ∧ Ext w w' := by
  have hP' := hide hP
  have hn' := hide hn
  have hpar' := hide hpar
  clear hP hpar
  refine callsIn_wide.1 (callsIn_of_wp_marks (n := 0) Tryz.func13 rfl trivial (wpIn_wide.2 ?_))
  simp only [Tryz.ntmps13, List.size_toArray, List.length_cons, List.length_nil, Nat.reduceAdd, Nat.reduceSub, Array.replicate_succ, Array.replicate_zero, List.push_toArray, List.append_toArray, List.nil_append, List.cons_append]
  go_wp2_with fail
  refine (unhide hpar').mono ?_
  rintro e w1 ⟨A1, c1, rfl, hs1, hx1⟩
  have hs1' := hide hs1
  have hx1' := hide hx1
  clear hs1 hx1 hpar'
  have hmk := run_mk_ints P hn
  try dsimp only
  repeat (first | (with_reducible refine wp_reg (id := 2) ?_) | go_values | go_step | go_guarded | go_upon | go_in | go_back | fail)
  iterate 5
    refine wpO_want rfl ?_
    go_simp
  refine wpO_done ?_
  try go_frame
  clear hmk
  have hx2 := hide (ext_self2 w1 (.cells (dA P P.length) 3) (.cells #[.slice (some ⟨w1.heap.size, 0, none⟩) P.length P.length] 29))
  have hBd := hide ((Blk.new w1 3 (dA P P.length)).ext (ext_self1 _ (.cells #[.slice (some ⟨w1.heap.size, 0, none⟩) P.length P.length] 29)))
  have hB8 := hide (Blk.new (w1.alloc (.cells (dA P P.length) 3)) 29 #[.slice (some ⟨w1.heap.size, 0, none⟩) P.length P.length])
  have hz2 := hide (show ((w1.alloc (.cells (dA P P.length) 3)).alloc (.cells #[.slice (some ⟨w1.heap.size, 0, none⟩) P.length P.length] 29)).heap.size = w1.heap.size + 2 by simp)
  rw [World.size_alloc] at hB8
  have hzw := hide (Below.size (unhide hx1'))
  have hex1 := hide (exA_lt (unhide hs1'))
  generalize (w1.alloc (.cells (dA P P.length) 3)).alloc (.cells #[.slice (some ⟨w1.heap.size, 0, none⟩) P.length P.length] 29) = w2 at *
  generalize w1.heap.size = bd at *
  try dsimp only
  repeat (first | (with_reducible refine wp_reg (id := 3) ?_) | go_values | go_step | go_guarded | go_upon | go_in | go_back | fail)
  iterate 2
    refine wpO_want rfl ?_
    go_simp
  refine wpO_done ?_
  try go_frame
  rw [unhide hz2]
  have hBm := hide (Blk.new w2 3 #[.int .i64 0])
  rw [unhide hz2] at hBm
  have hx3 := hide ((unhide hx2).trans (ext_self1 w2 (.cells #[.int .i64 0] 3)))
  have hBd3 := hide ((unhide hBd).ext (ext_self1 w2 (.cells #[.int .i64 0] 3)))
  have hB83 := hide ((unhide hB8).ext (ext_self1 w2 (.cells #[.int .i64 0] 3)))
  have hz3 := hide (World.size_alloc w2 (.cells #[.int .i64 0] 3))
  rw [unhide hz2] at hz3
  generalize w2.alloc (.cells #[.int .i64 0] 3) = w3 at *
  clear hBd hB8 hx2
  try dsimp only
  repeat (first | (with_reducible refine wp_reg (id := 4) ?_) | go_values | go_step | go_guarded | go_upon | go_in | go_back | fail)
  refine wpO_want rfl ?_
  go_simp
  refine wpO_want rfl ?_
  go_simp
  refine (back_any _ _ _ w3).mono ?_
  rintro e w4 ⟨rfl, rfl⟩
  refine ⟨_, rfl, ?_⟩
  refine wpO_done ?_
  try go_frame
  rw [unhide hz3]
  have hBs := hide (Blk.new w3 29 #[.slice A1 P.length c1])
  rw [unhide hz3] at hBs
  have hx4 := hide ((unhide hx3).trans (ext_self1 w3 (.cells #[.slice A1 P.length c1] 29)))
  have hBd4 := hide ((unhide hBd3).ext (ext_self1 w3 (.cells #[.slice A1 P.length c1] 29)))
  have hB84 := hide ((unhide hB83).ext (ext_self1 w3 (.cells #[.slice A1 P.length c1] 29)))
  have hBm4 := hide ((unhide hBm).ext (ext_self1 w3 (.cells #[.slice A1 P.length c1] 29)))
  have hz4 := hide (World.size_alloc w3 (.cells #[.slice A1 P.length c1] 29))
  rw [unhide hz3] at hz4
  have hs4 := hide ((unhide hs1').ext (unhide hx4))
  generalize w3.alloc (.cells #[.slice A1 P.length c1] 29) = w4 at *
  clear hBd3 hB83 hBm hx3
  go_wp2_with fail
  refine wp_range (gf := 79) (lb := #[.pointer (some ⟨bd + 2 + 1, 0, none⟩)]) rfl (enters_of Tryz.func79 (by kernel_rfl) rfl) (ex := (bd + 2 + 1) :: exA A1 P) (by intro b hb; have h1 := unhide hz4; rcases List.mem_cons.1 hb with rfl | hb; (· omega); (· have := unhide hex1 b hb; omega))
    (back_iter A1 P c1 (bd + 2 + 1) w4 (unhide hBs) (unhide hs4) (by omega)) (fun _ => rfl)
    (fun pre W => HtI P bd (bd + 2) w4 pre W) (fun _ _ _ => False)
    (fun tm pre p a1 W => HtI P bd (bd + 2) w4 pre W ∧ a1 = ⟨(((tm.setIfInBounds 23 (.int .i64 p.1)).setIfInBounds 24 (.int .i64 p.2)).setIfInBounds 10 (.int .i64 p.1)).setIfInBounds 11 (.int .i64 p.2), []⟩)
    (fun pre A1 A2 h hk => h.keep hk (by have := unhide hz4; omega)) (fun _ _ _ _ h => h.elim)
    (fun pre u a1 A1 A2 h hk => ⟨h.1.keep hk (by have := unhide hz4; omega), h.2⟩)
    ⟨by simpa using unhide hBd4, unhide hBm4, Keep.refl _ _⟩ ?_ ?_ ?_ (fun _ _ _ h => h.elim)
  · intro pre p W K hI hpre hsz hK
    have hK' := hide hK
    clear hK
    rw [zip2]
    simp only [List.setIfInBounds_toArray, List.set_cons_succ, List.set_cons_zero]
    try dsimp only
    repeat (first | (with_reducible refine wpI_reg (id := 5) (by kernel_rfl) ?_) | go_values | gi_step | gi_guarded | gi_upon | gi_in | gi_back | fail)
    refine wpO_want rfl ?_
    go_simp
    refine wpO_done ?_
    try go_frame
    try dsimp only
    repeat (first | (with_reducible refine wpI_reg (id := 6) (by kernel_rfl) ?_) | go_values | gi_step | gi_guarded | gi_upon | gi_in | gi_back | fail)
    refine wpO_want rfl ?_
    go_simp
    refine wpO_done ?_
    try go_frame
    exact unhide hK' _ _ ⟨hI, rfl⟩ (Same.refl _ _) (Nat.le_refl _)
  · rintro pre p a1 W ⟨⟨hD, hM, hkW⟩, rfl⟩ hpre hsz ⟨r, hr⟩
    simp only [List.setIfInBounds_toArray, List.set_cons_succ, List.set_cons_zero]
    obtain ⟨hk, hpl, hx⟩ := bw_at hpre
    have hlen : P.length - pre.length = P.length - 1 - pre.length + 1 := by omega
    have hlen2 : P.length - (pre ++ [p]).length = P.length - 1 - pre.length := by simp; omega
    have hmo : mostF P (pre ++ [p]) = max (mostF P pre) (dep P (P.length - 1 - pre.length)) := by
      unfold mostF
      rw [List.foldl_append, hx]
      simp
    have hup := unhide hP' _ hk
    have hd0 := dep_none hk
    have hd1 := dep_some (unhide hP') hk
    rw [hlen] at hD
    generalize P.length - 1 - pre.length = k at *
    generalize hu : P[k] = up at *
    subst hx
    have hfin : ∀ W', Blk W' bd 3 (dA P k) → Blk W' (bd + 2) 3 #[.int .i64 (max (mostF P pre) (dep P k))] → Keep [bd, bd + 2] W W' → rPost (privs w4.heap.size (2 + 0) ++ ((bd + 2 + 1) :: exA A1 P)) (fun pre W => HtI P bd (bd + 2) w4 pre W) (fun _ _ _ => False) (pre ++ [((k : Int), up)]) W .normal ⟨#[], []⟩ W' := fun W' h1 h2 h3 => by
      refine ⟨h3.size, Same.of_keep h3 fun z hz => ?_, ?_, ?_, hkW.trans h3⟩
      · have h4 := unhide hz4
        have h5 := unhide hz2
        simp only [List.mem_append, List.mem_cons, mem_privs, List.not_mem_nil, or_false] at hz ⊢
        rcases hz with hz | hz | hz
        · omega
        · omega
        · have := unhide hex1 z hz
          omega
      · rw [hlen2]; exact h1
      · rw [hmo]; exact h2
    have hfin' := hide hfin
    have hkl : (k : Int) < 100000 := by omega
    have hB8W := (unhide hB84).keep hkW (by simp)
    have c8 := hB8W.cell 0
    have c8e := hB8W.cells 0 (v := .slice (some ⟨bd, 0, none⟩) P.length P.length) rfl
    have cd := hD.cell k
    rw [dA_get P _ hk, if_neg (by omega)] at cd
    have fd := hD.frozen k
    have hself := Ext.refl W
    have hD' := hide hD
    have hM' := hide hM
    have hkW' := hide hkW
    have hB8' := hide hB8W
    clear hfin hD hM hkW hpre hsz hr hlen hlen2 hmo hpl hB8W c8 hn
    try dsimp only
    repeat (first | (with_reducible refine wpI_reg (id := 7) (by kernel_rfl) ?_) | go_values | gi_step | gi_guarded | gi_upon | gi_in | gi_back | fail)
    iterate 4
      refine wpO_want rfl ?_
      go_simp
    refine wpO_done ?_
    try go_frame
    have hD7 := hide ((unhide hD').set k (.int .i64 1))
    have hM7 := hide ((unhide hM').keep (Keep.setCell W bd k (.int .i64 1)) (by simp))
    have hB7 := hide ((unhide hB8').keep (Keep.setCell W bd k (.int .i64 1)) (by simp))
    have hk7 := hide ((Keep.setCell W bd k (.int .i64 1)).mono (S' := [bd, bd + 2]) (by simp))
    clear hD' hM' hB8' cd fd hself c8e
    generalize W.setCell ⟨bd, k, none⟩ (.int .i64 1) = W7 at *
    rcases hup with rfl | ⟨hu1, hu2⟩
    · rw [← hd0 (by omega), dA_set] at hD7
      clear hd0 hd1
      try dsimp only
      repeat (first | (with_reducible refine wpI_reg (id := 8) (by kernel_rfl) ?_) | go_values | gi_step | gi_guarded | gi_upon | gi_in | gi_back | fail)
      iterate 2
        refine wpO_want rfl ?_
        go_simp
      refine wpO_done ?_
      try go_frame
      have b7 := (unhide hB7).cells 0 (v := .slice (some ⟨bd, 0, none⟩) P.length P.length) rfl
      have e1 := (unhide hD7).cells k (v := .int .i64 (dep P k)) (by rw [dA_get P _ hk, if_pos (Nat.le_refl _)])
      have e2 := (unhide hM7).cells 0 (v := .int .i64 (mostF P pre)) rfl
      have hself := Ext.refl W7
      gi_wp2_with fail
      refine wpI_region_ext (P := Tryz.prog) [0,1,2,3,4,5] [6] 1 #[true,true,true,true,true,true,false] (by kernel_rfl) (by kernel_rfl) (by kernel_rfl) rfl (by rfl) ?_
      iterate 6
        refine ql_want (v := ?_) rfl (by rfl) (fun W hW => ?_) ?_
        rotate_left
        · go_simp
          first | done | rfl
        go_frame
      refine wpQL_nil (fun w10 hx10 => ?_)
      have hM10 := (unhide hM7).ext hx10
      have e3 := hM10.cell 0
      simp at e3
      have f3 := hM10.frozen 0
      refine lx_one (i := 6) (by kernel_rfl) rfl (by rfl) #[true,true,true,true,true,true,true] (by rfl) ?_
      go_simp
      intro w11 hx11
      refine wpX_done (by kernel_rfl) ?_
      try go_frame
      have hD11 := hide ((((unhide hD7).ext hx10).keep (Keep.setCell w10 (bd + 2) 0 (.int .i64 (max (mostF P pre) (dep P k)))) (by simp)).ext hx11)
      have hM11 := hide ((hM10.set 0 (.int .i64 (max (mostF P pre) (dep P k)))).ext hx11)
      have hk11 := hide ((((unhide hk7).trans (hx10.keep _)).trans ((Keep.setCell w10 (bd + 2) 0 (.int .i64 (max (mostF P pre) (dep P k)))).mono (S' := [bd, bd + 2]) (by simp))).trans (hx11.keep _))
      clear b7 e1 e2 hself hx10 hM10 e3 f3 hx11
      gi_wp2_with fail
      exact unhide hfin' _ (unhide hD11) (unhide hM11) (unhide hk11)
    · obtain ⟨m, rfl⟩ : ∃ m : Nat, up = (m : Int) := ⟨up.toNat, by omega⟩
      replace hd1 := hd1 (by omega)
      rw [Int.toNat_natCast] at hd1
      have hm1 : m < P.length := by omega
      have hkm : k ≠ m := by omega
      have b7 := (unhide hB7).cells 0 (v := .slice (some ⟨bd, 0, none⟩) P.length P.length) rfl
      have e1 := (unhide hD7).cells k (v := .int .i64 1) (by rw [Array.getElem?_setIfInBounds, dA_size, if_pos rfl, if_pos hk])
      have e2 := (unhide hD7).cells m (v := .int .i64 (dep P m)) (by rw [Array.getElem?_setIfInBounds, if_neg hkm, dA_get P _ hm1, if_pos (by omega)])
      have hdb := depF_bound P m
      have hself := Ext.refl W7
      have hn1 := unhide hn'
      have hd1' := hide hd1
      have hdw : IntKind.i64.wrap (1 + dep P m) = 1 + dep P m := IntWalk.i64_in _ (by omega)
      clear hd0 hd1 hkm
      try dsimp only
      repeat (first | (with_reducible refine wpI_reg (id := 8) (by kernel_rfl) ?_) | go_values | gi_step | gi_guarded | gi_upon | gi_in | gi_back | fail)
      iterate 2
        refine wpO_want rfl ?_
        go_simp
      refine wpO_done ?_
      try go_frame
      gi_wp2_with fail
      refine wpI_region_ext (P := Tryz.prog) [0,1,2,3,4,5,6,7,8,9] [10] 1 #[true,true,true,true,true,true,true,true,true,true,false] (by kernel_rfl) (by kernel_rfl) (by kernel_rfl) rfl (by rfl) ?_
      iterate 10
        refine ql_want (v := ?_) rfl (by rfl) (fun W hW => ?_) ?_
        rotate_left
        · go_simp
          first | done | rfl
        go_frame
      refine wpQL_nil (fun w8 hx8 => ?_)
      have hD8 := (unhide hD7).ext hx8
      have e3 := hD8.cell k
      rw [Array.getElem?_setIfInBounds, dA_size, if_pos rfl, if_pos hk] at e3
      have f3 := hD8.frozen k
      refine lx_one (i := 10) (by kernel_rfl) rfl (by rfl) #[true,true,true,true,true,true,true,true,true,true,true] (by rfl) ?_
      go_simp
      intro w9 hx9
      refine wpX_done (by kernel_rfl) ?_
      try go_frame
      have hD9 := (hD8.set k (.int .i64 (1 + dep P m))).ext hx9
      rw [← unhide hd1', set_set, dA_set] at hD9
      have hD9' := hide hD9
      have hM9 := hide ((((unhide hM7).ext hx8).keep (Keep.setCell w8 bd k (.int .i64 (1 + dep P m))) (by simp)).ext hx9)
      have hB9 := hide ((((unhide hB7).ext hx8).keep (Keep.setCell w8 bd k (.int .i64 (1 + dep P m))) (by simp)).ext hx9)
      have hk9 := hide ((((unhide hk7).trans (hx8.keep _)).trans ((Keep.setCell w8 bd k (.int .i64 (1 + dep P m))).mono (S' := [bd, bd + 2]) (by simp))).trans (hx9.keep _))
      clear hD7 hM7 hB7 hk7 b7 e1 e2 hself hx8 hD8 e3 f3 hx9 hD9
      clear W7 w8
      have hD7 := hD9'
      have hM7 := hM9
      have hB7 := hB9
      have hk7 := hk9
      clear hD9' hM9 hB9 hk9
      have b7 := (unhide hB7).cells 0 (v := .slice (some ⟨bd, 0, none⟩) P.length P.length) rfl
      have e1 := (unhide hD7).cells k (v := .int .i64 (dep P k)) (by rw [dA_get P _ hk, if_pos (Nat.le_refl _)])
      have e2 := (unhide hM7).cells 0 (v := .int .i64 (mostF P pre)) rfl
      have hself := Ext.refl w9
      gi_wp2_with fail
      refine wpI_region_ext (P := Tryz.prog) [0,1,2,3,4,5] [6] 1 #[true,true,true,true,true,true,false] (by kernel_rfl) (by kernel_rfl) (by kernel_rfl) rfl (by rfl) ?_
      iterate 6
        refine ql_want (v := ?_) rfl (by rfl) (fun W hW => ?_) ?_
        rotate_left
        · go_simp
          first | done | rfl
        go_frame
      refine wpQL_nil (fun w10 hx10 => ?_)
      have hM10 := (unhide hM7).ext hx10
      have e3 := hM10.cell 0
      simp at e3
      have f3 := hM10.frozen 0
      refine lx_one (i := 6) (by kernel_rfl) rfl (by rfl) #[true,true,true,true,true,true,true] (by rfl) ?_
      go_simp
      intro w11 hx11
      refine wpX_done (by kernel_rfl) ?_
      try go_frame
      have hD11 := hide ((((unhide hD7).ext hx10).keep (Keep.setCell w10 (bd + 2) 0 (.int .i64 (max (mostF P pre) (dep P k)))) (by simp)).ext hx11)
      have hM11 := hide ((hM10.set 0 (.int .i64 (max (mostF P pre) (dep P k)))).ext hx11)
      have hk11 := hide ((((unhide hk7).trans (hx10.keep _)).trans ((Keep.setCell w10 (bd + 2) 0 (.int .i64 (max (mostF P pre) (dep P k)))).mono (S' := [bd, bd + 2]) (by simp))).trans (hx11.keep _))
      clear b7 e1 e2 hself hx10 hM10 e3 f3 hx11
      gi_wp2_with fail
      exact unhide hfin' _ (unhide hD11) (unhide hM11) (unhide hk11)
  · intro W hI hDf
    obtain ⟨hD, hM, hkW⟩ := hI
    have c0 := hM.cells 0 (v := .int .i64 (mostF P (bwL P))) rfl
    have hself := Ext.refl W
    have hxW := hide ((((unhide hx1').trans (unhide hx4)).keep []).of_new hkW (by have := unhide hzw; intro z hz; simp at hz; omega))
    have hDf' := hide hDf
    have hzf := hide (show w.heap.size ≤ w4.heap.size by have := unhide hzw; have := unhide hz4; omega)
    clear hD hM hkW hDf
    go_wp2_with fail
    refine leaves_marks (B := w.heap.size) _ _ (.cons (unhide hzf) (unhide hDf') (by simp) (.nil _)) ?_
    rintro w' ⟨S, hS, hkS⟩
    refine ⟨_, results_tmp2 rfl _ _ _, rfl, ((unhide hxW).of_new hkS (fun x hx => ?_)).ext⟩
    obtain ⟨d, hd, e⟩ := hS x hx
    rw [List.mem_singleton] at hd
    subst hd
    injection e with e
    have := unhide hzf
    right; omega
end Go.Proofs.YtjehhilijeajnaaGreatDoor
/- elimination: WHERE THE ORDER IS WRONG every function answers walk's error. Conditions: see each theorem. -/
namespace Go.Proofs.YtjehhilijeajnaaGreatDoor
open Go Go.RowKit Go.Shelf
attribute [local go_sem] qUpon lUpon

def WErr (gv : Value) (A : Option Addr) (n cL : Nat) (er : Int) (w : World) : Prop := ∀ fd caps W, Ext w W → Calls Tryz.prog 40 #[gv, .slice A n cL, .func (.func fd) #[] caps] W fun e w' => e = .returned (.int .i64 er) ∧ Ext W w'
theorem werr_nil (A : Option Addr) (n cL : Nat) (w : World) : WErr (.pointer none) A n cL 1 w := fun fd caps W _ => walk_nil A n cL fd caps W
theorem werr_bad (A : Option Addr) (L : List Int) (cL : Nat) (g bv be : Nat) (V : List (Int × Thing)) (E : List ((Int × Int) × Thing)) (w : World) (hL : SlAt encI 1 w A L) (hl : L.length ≤ 4611686018427387904) (hg : IsG w g bv be V E) (hck : checkS L V = 3) : WErr (.pointer (some ⟨g, 0, none⟩)) A L.length cL 3 w := fun fd caps W hW => walk_bad A L cL g bv be V E W fd caps (hL.ext hW) hl (hg.ext hW) hck

set_option maxRecDepth 100000 in
set_option maxHeartbeats 4000000 in
theorem steps_err (gv : Value) (A : Option Addr) (n cL : Nat) (er : Int) (w : World) (hW : WErr gv A n cL er w) :
    Calls Tryz.prog 18 #[gv, .slice A n cL] w fun e w' => e = .returned (.tuple #[.slice none 0 0, .int .i64 er]) ∧ Ext w w' := by
  have hW' := hide hW
  clear hW
  go_enter Tryz.func18, Tryz.ntmps18
  try dsimp only
  repeat (first | (with_reducible refine wp_reg (id := 1) ?_) | go_values | go_step | go_guarded | go_upon | go_in | go_back | fail)
  refine wpO_want rfl ?_
  go_simp
  refine wpO_done ?_
  try go_frame
  have hB := hide (Blk.new w 43 #[.slice none 0 0])
  have hx1 := hide (ext_self1 w (.cells #[.slice none 0 0] 43))
  generalize w.alloc (.cells #[.slice none 0 0] 43) = w1 at *
  go_wp2_with fail
  refine (unhide hW' _ _ w1 (unhide hx1)).mono ?_
  rintro e w2 ⟨rfl, hx2⟩
  have hB2 := (unhide hB).ext hx2
  have c0 := hB2.cells 0 (v := .slice none 0 0) rfl
  have hx2' := hide ((unhide hx1).trans hx2)
  have hself := Ext.refl w2
  clear hx2 hB2
  go_wp2_with fail
  go_ret2
  exact ⟨rfl, unhide hx2'⟩

set_option maxRecDepth 100000 in
set_option maxHeartbeats 4000000 in
theorem high_err (gv : Value) (A : Option Addr) (n cL : Nat) (er : Int) (w : World) (hW : WErr gv A n cL er w) :
    Calls Tryz.prog 27 #[gv, .slice A n cL] w fun e w' => e = .returned (.tuple #[.slice none 0 0, .int .i64 er]) ∧ Ext w w' := by
  have hW' := hide hW
  clear hW
  go_enter Tryz.func27, Tryz.ntmps27
  try dsimp only
  repeat (first | (with_reducible refine wp_reg (id := 1) ?_) | go_values | go_step | go_guarded | go_upon | go_in | go_back | fail)
  refine wpO_want rfl ?_
  go_simp
  refine wpO_done ?_
  try go_frame
  have hB := hide (Blk.new w 67 #[.slice none 0 0])
  have hx1 := hide (ext_self1 w (.cells #[.slice none 0 0] 67))
  generalize w.alloc (.cells #[.slice none 0 0] 67) = w1 at *
  go_wp2_with fail
  refine (unhide hW' _ _ w1 (unhide hx1)).mono ?_
  rintro e w2 ⟨rfl, hx2⟩
  have hB2 := (unhide hB).ext hx2
  have c0 := hB2.cells 0 (v := .slice none 0 0) rfl
  have hx2' := hide ((unhide hx1).trans hx2)
  have hself := Ext.refl w2
  clear hx2 hB2
  go_wp2_with fail
  go_ret2
  exact ⟨rfl, unhide hx2'⟩

set_option maxRecDepth 100000 in
set_option maxHeartbeats 4000000 in
theorem fill_err (gv : Value) (A : Option Addr) (n cL : Nat) (er : Int) (w : World) (hW : WErr gv A n cL er w) :
    Calls Tryz.prog 20 #[gv, .slice A n cL] w fun e w' => e = .returned (.tuple #[.slice none 0 0, .int .i64 er]) ∧ Ext w w' := by
  have hW' := hide hW
  clear hW
  go_enter Tryz.func20, Tryz.ntmps20
  try dsimp only
  repeat (first | (with_reducible refine wp_reg (id := 1) ?_) | go_values | go_step | go_guarded | go_upon | go_in | go_back | fail)
  refine wpO_want rfl ?_
  go_simp
  refine wpO_done ?_
  try go_frame
  have hB := hide (Blk.new w 46 #[.slice none 0 0])
  have hx1 := hide (ext_self1 w (.cells #[.slice none 0 0] 46))
  generalize w.alloc (.cells #[.slice none 0 0] 46) = w1 at *
  go_wp2_with fail
  refine (unhide hW' _ _ w1 (unhide hx1)).mono ?_
  rintro e w2 ⟨rfl, hx2⟩
  have hB2 := (unhide hB).ext hx2
  have c0 := hB2.cells 0 (v := .slice none 0 0) rfl
  have hx2' := hide ((unhide hx1).trans hx2)
  have hself := Ext.refl w2
  clear hx2 hB2
  go_wp2_with fail
  refine (sortF_any 0 (.slice none 0 0) [] [] w2 (World.ownsRow_nil _ _ _ _) (List.Perm.refl _) .nil (by simp)).mono ?_
  rintro e w3 ⟨rfl, _, hg3⟩
  have hx3 : Ext w2 w3 := (Keep.of_grown hg3).ext
  have d0 := fun (W : World) (hW : Ext w3 W) => c0 W (hx3.trans hW)
  have hx3' := hide ((unhide hx2').trans hx3)
  have hself3 := Ext.refl w3
  clear c0 hself hg3 hx3
  go_wp2_with fail
  go_ret2
  exact ⟨rfl, unhide hx3'⟩

set_option maxRecDepth 100000 in
set_option maxHeartbeats 4000000 in
theorem width_err (gv : Value) (A : Option Addr) (n cL : Nat) (er : Int) (w : World) (hW : WErr gv A n cL er w) (her : er ≠ 0) :
    Calls Tryz.prog 19 #[gv, .slice A n cL] w fun e w' => e = .returned (.tuple #[.int .i64 0, .int .i64 er]) ∧ Ext w w' := by
  have hW' := hide hW
  have her' : (er != 0) = true := by simpa using her
  clear hW her
  go_enter Tryz.func19, Tryz.ntmps19
  try dsimp only
  repeat (first | (with_reducible refine wp_reg (id := 1) ?_) | go_values | go_step | go_guarded | go_upon | go_in | go_back | fail)
  iterate 2
    refine wpO_want rfl ?_
    go_simp
  refine wpO_done ?_
  try go_frame
  have hx1 := hide (ext_self1 w (.cells #[.int .i64 (-1)] 3))
  generalize w.alloc (.cells #[.int .i64 (-1)] 3) = w1 at *
  go_wp2_with fail
  refine (unhide hW' _ _ w1 (unhide hx1)).mono ?_
  rintro e w2 ⟨rfl, hx2⟩
  have hx2' := hide ((unhide hx1).trans hx2)
  clear hx2
  go_wp2_with fail
  go_ret2
  exact ⟨rfl, unhide hx2'⟩

set_option maxRecDepth 100000 in
set_option maxHeartbeats 4000000 in
theorem parents_err (gv : Value) (A : Option Addr) (L : List Int) (cL : Nat) (er : Int) (w : World) (hW : WErr gv A L.length cL er w) (hL : SlAt encI 1 w A L) (hl : L.length ≤ 9223372036854775807) (hLk : ∀ x ∈ L, i64ok x) :
    Calls Tryz.prog 12 #[gv, .slice A L.length cL] w fun e w' => e = .returned (.tuple #[.slice none 0 0, .int .i64 er]) ∧ Ext w w' := by
  have hW' := hide hW
  have hL' := hide hL
  have hLk' := hide hLk
  clear hW hL hLk
  go_enter Tryz.func12, Tryz.ntmps12
  try dsimp only
  repeat (first | (with_reducible refine wp_reg (id := 1) ?_) | go_values | go_step | go_guarded | go_upon | go_in | go_back | fail)
  have hmm := @run_makeMap Tryz.prog
  iterate 3
    refine wpO_want rfl ?_
    go_simp
  refine wpO_done ?_
  clear hmm
  have hB8 := hide (Blk.new (w.alloc (.map #[] 0)) 92 #[.map (some w.heap.size)])
  have hM8 := hide ((MapIs.made (ek := ekV) (ev := evI) (ok := i64ok) w).ext (ext_self1 _ (.cells #[.map (some w.heap.size)] 92)))
  have hx8 := hide (ext_self2 w (.map #[] 0) (.cells #[.map (some w.heap.size)] 92))
  simp only [World.size_alloc] at hB8
  generalize (w.alloc (.map #[] 0)).alloc (.cells #[.map (some w.heap.size)] 92) = W2 at *
  go_wp2_with fail
  go_loopw [14] (fun i wr => ∃ k : Nat, k ≤ L.length ∧ i = .int .i64 k ∧ Blk wr (w.heap.size + 1) 92 #[.map (some w.heap.size)] ∧ MapIs ekV evI i64ok wr w.heap.size (plK L k) ∧ Ext w wr) (fun i _ => L.length - (intOf i).toNat)
  case atStart => exact ⟨0, Nat.zero_le _, rfl, unhide hB8, unhide hM8, unhide hx8⟩
  case round =>
    obtain ⟨k, hk, rfl, hB, hM, hx⟩ := hrel
    have hB' := hide hB
    have hM' := hide hM
    have hx' := hide hx
    clear hB8 hM8 hx8
    by_cases hlt : k < L.length
    · obtain ⟨b, off, rfl, c0⟩ := atI ((unhide hL').ext hx) hlt
      have hnx := hide (plK_next L k hlt)
      have hxk := hide (unhide hLk' L[k] (List.getElem_mem hlt))
      generalize L[k] = x at c0 hnx hxk
      have hself := Ext.refl wr
      have q0 := hB.cells 0 (v := .map (some w.heap.size)) rfl
      clear hB hM hx
      try dsimp only
      repeat (first | (with_reducible refine wp_reg (id := 4) ?_) | go_values | go_step | go_guarded | go_upon | go_in | go_back | fail)
      iterate 5
        refine wpO_want rfl ?_
        go_simp
      refine wpO_done ?_
      try go_frame
      try dsimp only
      repeat (first | (with_reducible refine wp_reg (id := 5) ?_) | go_values | go_step | go_guarded | go_upon | go_in | go_back | fail)
      iterate 3
        refine wpO_want rfl ?_
        go_simp
      refine wpO_upd rfl keV Tryz.underlying92 (unhide hM') (unhide hxk) (k : Int) rfl rfl rfl rfl ?_
      intro w4 hm4 hk4 hs4
      refine wpO_done ?_
      try go_frame
      rw [← unhide hnx] at hm4
      have hM4 := hide hm4
      have hB4 := hide ((unhide hB').keep hk4 (by simp))
      have hx4 := hide ((unhide hx').of_new hk4 (by simp))
      clear hm4 hk4 hs4 hM' hB' hx' c0 q0 hself hnx
      go_wp2_with fail
      go_roundw
      case rel => exact ⟨k + 1, by omega, by go_num, unhide hB4, unhide hM4, unhide hx4⟩
      case measure => simp [intOf]; omega
    · have hke : k = L.length := by omega
      subst hke
      clear hB hM hx
      try dsimp only
      repeat (first | (with_reducible refine wp_reg (id := 7) ?_) | go_values | go_step | go_guarded | go_upon | go_in | go_back | fail)
      refine wpO_want rfl ?_
      go_simp
      refine wpO_done ?_
      try go_frame
      have hBl := hide (Blk.new wr 29 #[.slice none 0 0])
      have hx1 := hide ((unhide hx').trans (ext_self1 wr (.cells #[.slice none 0 0] 29)))
      generalize wr.alloc (.cells #[.slice none 0 0] 29) = w1 at *
      clear hB' hM' hx'
      go_wp2_with fail
      refine (unhide hW' _ _ w1 (unhide hx1)).mono ?_
      rintro e w2 ⟨rfl, hx2⟩
      have hB2 := (unhide hBl).ext hx2
      have c0 := hB2.cells 0 (v := .slice none 0 0) rfl
      have hx2' := hide ((unhide hx1).trans hx2)
      have hself := Ext.refl w2
      clear hx2 hB2
      go_wp2_with fail
      go_ret2
      exact ⟨rfl, unhide hx2'⟩
theorem height_err (gv : Value) (A : Option Addr) (L : List Int) (cL : Nat) (er : Int) (w : World) (hW : WErr gv A L.length cL er w) (hL : SlAt encI 1 w A L) (hl : L.length ≤ 9223372036854775807) (hLk : ∀ x ∈ L, i64ok x) :
    Calls Tryz.prog 13 #[gv, .slice A L.length cL] w fun e w' => e = .returned (.tuple #[.int .i64 0, .int .i64 er]) ∧ Ext w w' :=
  height_gen gv (.slice A L.length cL) [] er w (fun i h => by simp at h) (by simp) ((parents_err gv A L cL er w hW hL hl hLk).mono fun e w' ⟨h1, h2⟩ => ⟨none, 0, h1, SlAt.nil, h2⟩)

set_option maxRecDepth 100000 in
set_option maxHeartbeats 4000000 in
theorem filled_err (gv : Value) (A : Option Addr) (n cL : Nat) (er : Int) (w : World) (hW : WErr gv A n cL er w) (her : er ≠ 0) :
    Calls Tryz.prog 33 #[gv, .slice A n cL] w fun e w' => e = .returned (.tuple #[.pointer none, .int .i64 er]) ∧ Ext w w' := by
  have hW' := hide hW
  have her' : (er != 0) = true := by simpa using her
  clear hW her
  go_enter Tryz.func33, Tryz.ntmps33
  go_wp2_with fail
  refine (fill_err gv A n cL er w (unhide hW')).mono ?_
  rintro e w1 ⟨rfl, hx1⟩
  have hx1' := hide hx1
  clear hx1
  go_wp2_with fail
  go_ret2
  exact ⟨rfl, unhide hx1'⟩
end Go.Proofs.YtjehhilijeajnaaGreatDoor
/- append OF ANY SLICE; elimination.FilledGraph. Conditions: see each theorem. -/
namespace Go.Proofs.YtjehhilijeajnaaGreatDoor
open Go Go.RowKit Go.Shelf
attribute [local go_sem] qUpon lUpon

section
variable {α : Type} {enc : α → List Value} {T ST : TypeId} {k byt : Nat} {ρ : Operand → Value} {o : Oper} {s x : Operand} {W : World}
/-- 'append(s, news...)', the news lying anywhere, or nowhere -/
theorem run_apA (hi0 : (Tryz.prog.info? T).map (fun i => (i.zero.map (·.cells.size), i.size, i.bytes)) = some (some k, k, byt)) (hu : Tryz.prog.underlying ST = some (.slice T)) (hone : ∀ x, ∀ v ∈ enc x, v.oneCell' = true) (hlen : ∀ x, (enc x).length = k) (hk : 0 < k) (hby : byt ≤ 1000)
    (ho : o.op = .call { callee := .builtin .append, args := #[s, x], argTypes := #[ST, ST] }) {base : Nat} {v : Value} {n : Nat} {xs : List α} (ys : List α) {m c : Nat} {A : Option Addr} (hs : ρ s = v) (hx : ρ x = .slice A m c) (hm : ys.length = m) (hsrc : SlAt enc k W A ys)
    (hown : W.ownsRow base T k v n (xs.flatMap enc)) (hl : n + m ≤ 100000000) (hb : base ≤ W.heap.size) :
    ∃ A' c' w', (execOp ρ o).run Tryz.prog W = .ok (.value (.slice A' (n + m) c')) w' ∧ w'.ownsRow base T k (.slice A' (n + m) c') (n + m) ((xs ++ ys).flatMap enc) ∧ W.grownBy w' v.ownBlock ∧ (Value.ownBlock (.slice A' (n + m) c') = v.ownBlock ∨ Value.ownBlock (.slice A' (n + m) c') = some W.heap.size) := by
  cases ys with
  | cons y ys =>
    obtain ⟨b, off, rfl, _, _⟩ := hsrc (by simp)
    exact run_apS hi0 hu hone hlen hk hby ho (y :: ys) hs hx hm hsrc hown hl hb
  | nil =>
    obtain rfl : m = 0 := by simpa using hm.symm
    obtain ⟨i0, hi, hi1⟩ := Option.map_eq_some_iff.1 hi0
    simp only [Prod.mk.injEq] at hi1
    obtain ⟨hz1, hz2, hz3⟩ := hi1
    obtain ⟨A1, c1, rfl⟩ := own_slice hown
    have hle : n ≤ c1 := by
      rcases hown.2 with ⟨he, h0⟩ | ⟨g, cap, cur, he, _, _, hn, _⟩
      · omega
      · injection he with _ _ he
        omega
    have hsr : Src Tryz.prog i0.size ST (.slice A 0 c) 0 [] W := by
      cases A with
      | none => exact Src.ofNil W hu c
      | some a => exact Src.ofSlice W hu a 0 c [] (by simp) (by simp) (by simp)
    refine ⟨A1, c1, W, ?_, by simpa using hown, World.grownBy.refl _ _, .inl rfl⟩
    unfold execOp
    have := run_append_nothing (P := Tryz.prog) W ST ST o.type T i0 hu hi A1 n c1 hle (.slice A 0 c) hsr
    simp only [ho, resolve, invoke, builtin, Sem.run_bind, Sem.run_pure, Result.andThen_ok, List.map_toArray, List.map_cons, List.map_nil, hs, hx, this]
    simp
theorem wpO_apA {l : List Oper} {K : Act → World → Prop} {r : List Oper} {a : Act} (hw : Region.wanted o (yielded l.toArray a.tmps) = true) (hi0 : (Tryz.prog.info? T).map (fun i => (i.zero.map (·.cells.size), i.size, i.bytes)) = some (some k, k, byt)) (hu : Tryz.prog.underlying ST = some (.slice T)) (hone : ∀ x, ∀ v ∈ enc x, v.oneCell' = true) (hlen : ∀ x, (enc x).length = k) (hk : 0 < k) (hby : byt ≤ 1000)
    (ho : o.op = .call { callee := .builtin .append, args := #[s, x], argTypes := #[ST, ST] }) {base : Nat} {v : Value} {n : Nat} {xs : List α} (ys : List α) {m c : Nat} {A : Option Addr} (hs : a.eval s = v) (hx : a.eval x = .slice A m c) (hm : ys.length = m) (hsrc : SlAt enc k W A ys)
    (hown : W.ownsRow base T k v n (xs.flatMap enc)) (hl : n + m ≤ 100000000) (hb : base ≤ W.heap.size)
    (h : ∀ A' c' w', w'.ownsRow base T k (.slice A' (n + m) c') (n + m) ((xs ++ ys).flatMap enc) → W.grownBy w' v.ownBlock → (Value.ownBlock (.slice A' (n + m) c') = v.ownBlock ∨ Value.ownBlock (.slice A' (n + m) c') = some W.heap.size) → wpO Tryz.prog l K r (a.put o.dst (.slice A' (n + m) c')) w') : wpO Tryz.prog l K (o :: r) a W := by
  obtain ⟨A', c', w', h1, h2, h3, h4⟩ := run_apA hi0 hu hone hlen hk hby ho ys hs hx hm hsrc hown hl hb
  exact wpO_val hw h1 (h A' c' w' h2 h3 h4)
end

/-- edges added one by one -/
def addS (V : List (Int × Thing)) (E C : List ((Int × Int) × Thing)) : GS := C.foldl stE (V, E)
def addErr (V : List (Int × Thing)) (E C : List ((Int × Int) × Thing)) : Int := fe erE stE C (V, E)
theorem build_add {V : List (Int × Thing)} {E : List ((Int × Int) × Thing)} (h : GInv V E) (C : List ((Int × Int) × Thing)) : bErr V (E ++ C) = addErr V E C ∧ bS V (E ++ C) = addS V E C := by
  have h1 := redoV V [] (by simpa using h.sv) (by simpa using h.ids) (by simpa using h.wv)
  have h2 := redoE V E [] (by simpa using h)
  have e1 : bS1 V = (V, []) := h1.1
  unfold bErr bS addErr addS
  rw [e1, if_pos h1.2, fe_append, if_pos h2.2, List.foldl_append, h2.1]
  exact ⟨rfl, rfl⟩
def FlPost (V : List (Int × Thing)) (E C : List ((Int × Int) × Thing)) (w : World) (e : Ending) (w' : World) : Prop :=
  (addErr V E C = 0 ∧ ∃ g bv be, e = .returned (.tuple #[.pointer (some ⟨g, 0, none⟩), .int .i64 0]) ∧ IsG w' g bv be (addS V E C).1 (addS V E C).2 ∧ Ext w w' ∧ w.heap.size ≤ g ∧ w.heap.size ≤ bv ∧ w.heap.size ≤ be) ∨
  (addErr V E C ≠ 0 ∧ e = .returned (.tuple #[.pointer none, .int .i64 (addErr V E C)]) ∧ Ext w w')
theorem okEdP {p : Int × Int} (h1 : i64ok p.1) (h2 : i64ok p.2) : okEd (edgeP p) := ⟨h1, h2, by unfold i64ok; simp [edgeP]⟩

set_option maxRecDepth 100000 in
set_option maxHeartbeats 4000000 in
theorem filled_ok (A : Option Addr) (L : List Int) (cL : Nat) (g bv be : Nat) (V : List (Int × Thing)) (E : List ((Int × Int) × Thing)) (w : World) (hL : SlAt encI 1 w A L) (hl : L.length ≤ 100) (hg : IsG w g bv be V E) (hT : Tab w) (hck : checkS L V = 0) :
    Calls Tryz.prog 33 #[.pointer (some ⟨g, 0, none⟩), .slice A L.length cL] w (FlPost V E ((fillS (comeK E L L.length)).map edgeP) w) := by
  have hi := hg.inv
  have ho := check_ord hi hck
  have hC : ∀ d ∈ (fillS (comeK E L L.length)).map edgeP, okEd d := by
    intro d hd
    obtain ⟨p, hp, rfl⟩ := List.mem_map.1 hd
    have hp2 := (mem_comeK hi ho (Nat.le_refl _)).1 ((fillS_perm _).mem_iff.1 hp)
    obtain ⟨h1, h2⟩ := Adj.mem hi ho hp2.2.1
    exact okEdP (okK (ho.rng hi h1)) (okK (ho.rng hi h2))
  have hCl : ((fillS (comeK E L L.length)).map edgeP).length ≤ 1000000 := by
    have h1 := comeK_len hi ho hl (k := L.length) (Nat.le_refl _)
    have h3 : L.length * 10000 ≤ 100 * 10000 := Nat.mul_le_mul_right _ hl
    rw [List.length_map, (fillS_perm _).length_eq]
    omega
  have hfil := fill_ok A L cL g bv be V E w hL hl hg hT hck
  have hfil' := hide hfil
  obtain ⟨C, hCe⟩ : ∃ C, C = (fillS (comeK E L L.length)).map edgeP := ⟨_, rfl⟩
  rw [← hCe] at hC hCl hfil'
  rw [← hCe]
  have hg' := hide hg
  have hC' := hide hC
  have hCl' := hide hCl
  have hE' := hide hg.nE
  have hV' := hide hg.nV
  have hoE := hide hi.okE
  have hoV := hide hi.okV
  obtain ⟨hb1, hb2⟩ := build_add hi C
  have hb1' := hide hb1
  have hb2' := hide hb2
  clear hi ho hC hCl hfil hCe hL hl hg hT hck hb1 hb2
  go_enter Tryz.func33, Tryz.ntmps33
  go_wp2_with fail
  refine (unhide hfil').mono ?_
  rintro e w1 ⟨A1, c1, rfl, ho1, hx1⟩
  have hs1 := hide (own_at ho1 (fun _ => rfl))
  have hx1' := hide hx1
  clear ho1 hx1 hfil'
  try dsimp only
  repeat (first | (with_reducible refine wp_reg (id := 4) ?_) | go_values | go_step | go_guarded | go_upon | go_in | go_back | fail)
  refine wpO_want rfl ?_
  go_simp
  refine wpO_want rfl ?_
  go_simp
  refine (vertices_rel g bv be V E w1 ((unhide hg').ext (unhide hx1'))).mono ?_
  rintro e w2 ⟨A2, c2, rfl, ho2, hx2⟩
  refine ⟨_, rfl, ?_⟩
  have hs2 := hide (own_at ho2 (fun _ => rfl))
  have hx2' := hide ((unhide hx1').trans hx2)
  have hs12 := hide ((unhide hs1).ext hx2)
  clear ho2 hx2 hs1 hx1'
  refine wpO_want rfl ?_
  go_simp
  refine wpO_want rfl ?_
  go_simp
  refine (edges_rel g bv be V E w2 ((unhide hg').ext (unhide hx2'))).mono ?_
  rintro e w3 ⟨A3, c3, rfl, ho3, hx3⟩
  refine ⟨_, rfl, ?_⟩
  have ho3' := hide ho3
  have hx3' := hide ((unhide hx2').trans hx3)
  have hs13 := hide ((unhide hs12).ext hx3)
  have hx3w := hide hx3
  have hsz := hide (Below.size hx3)
  clear ho3 hx3 hs12
  refine wpO_want rfl ?_
  go_simp
  refine wpO_apA rfl infoGE Tryz.underlying46 one_encE (fun _ => rfl) (by decide) (by decide) rfl (v := .slice A3 E.length c3) C (A := A1) (c := c1) (m := C.length) rfl rfl rfl (unhide hs13) (unhide ho3') (by have := unhide hE'; have := unhide hCl'; omega) (unhide hsz) ?_
  intro A6 c6 w6 hown6 hg6 _
  have hsE := hide (own_at (enc := encE) (n := E.length + C.length) (xs := E ++ C) (by rw [List.length_append]; exact hown6) (fun _ => rfl))
  have hx6 := hide ((unhide hx3').of_new (Keep.of_grown hg6) (fun x hx => by have := (own_base (unhide ho3') (by simpa using hx)).1; have := Below.size (unhide hx2'); omega))
  have hx26 := (unhide hx3w).of_new (Keep.of_grown hg6) (fun x hx => (own_base (unhide ho3') (by simpa using hx)).1)
  have hs26 := hide ((unhide hs2).ext hx26)
  clear hown6 hg6 hs13 hs2 ho3' hsz hx26 hx3w
  try go_frame
  refine wpO_want rfl ?_
  go_simp
  obtain ⟨ne, hne⟩ : ∃ ne, ne = (E ++ C).length := ⟨_, rfl⟩
  have hbc := build_any A2 A6 V (E ++ C) c2 c6 w6 (unhide hs26) (unhide hsE) (unhide hoV) (fun d hd => by
    rcases List.mem_append.1 hd with h | h
    · exact unhide hoE d h
    · exact unhide hC' d h) (by have := unhide hV'; omega) (by have := unhide hE'; have := unhide hCl'; rw [List.length_append]; omega)
  rw [List.length_append] at hbc
  refine hbc.mono ?_
  rintro e w7 h7
  unfold BuildPost at h7
  rw [unhide hb1', unhide hb2'] at h7
  rcases h7 with ⟨h0, g', bv', be', rfl, hg7, hx7, n1, n2, n3⟩ | ⟨h0, rfl, hx7⟩
  · refine ⟨_, rfl, ?_⟩
    have hg7' := hide hg7
    have hx7' := hide ((unhide hx6).trans hx7)
    have h6 := Below.size (unhide hx6)
    have hn := hide (And.intro (Nat.le_trans h6 n1) (And.intro (Nat.le_trans h6 n2) (Nat.le_trans h6 n3)))
    have h0' := hide h0
    clear hg7 hx7 n1 n2 n3 h0 hbc h6
    iterate 4
      refine wpO_want rfl ?_
      go_simp
    refine wpO_done ?_
    try go_frame
    go_wp2_with fail
    go_ret2
    exact .inl ⟨unhide h0', g', bv', be', rfl, unhide hg7', unhide hx7', unhide hn⟩
  · refine ⟨_, rfl, ?_⟩
    have hx7' := hide ((unhide hx6).trans hx7)
    have h0' := hide h0
    clear hx7 h0 hbc
    iterate 4
      refine wpO_want rfl ?_
      go_simp
    refine wpO_done ?_
    try go_frame
    go_wp2_with fail
    go_ret2
    exact .inr ⟨unhide h0', rfl, unhide hx7'⟩
end Go.Proofs.YtjehhilijeajnaaGreatDoor
/- palmettelaw21.known: the example answers true. Conditions: none but the world's. -/
namespace Go.Proofs.YtjehhilijeajnaaGreatDoor
open Go Go.RowKit
attribute [local go_sem] qUpon lUpon

def k2V : List (Int × Thing) := [((0 : Int), ((0 : Int), (0 : Int))), (1, (0, 0)), (2, (0, 0)), (3, (0, 0))]
def k2E0 : List ((Int × Int) × Thing) := [(((0 : Int), (1 : Int)), ((0 : Int), (0 : Int))), ((1, 2), (0, 0)), ((2, 3), (0, 0)), ((0, 3), (0, 0))]
def k2E : List ((Int × Int) × Thing) := [(((0 : Int), (1 : Int)), ((0 : Int), (0 : Int))), ((0, 3), (0, 0)), ((1, 2), (0, 0)), ((2, 3), (0, 0))]
def k2L : List Int := [0, 1, 2, 3]
set_option maxRecDepth 100000 in
theorem k2_err : bErr k2V k2E0 = 0 := by decide +kernel
set_option maxRecDepth 100000 in
theorem k2_bs : bS k2V k2E0 = (k2V, k2E) := by decide +kernel
set_option maxRecDepth 100000 in
theorem k2_chk : checkS k2L k2V = 0 := by decide +kernel
set_option maxRecDepth 100000 in
theorem k2_wid : widK k2E k2L k2L.length = 2 := by decide +kernel
set_option maxRecDepth 100000 in
theorem k2_fil : fillS (comeK k2E k2L k2L.length) = [(1, 3)] := by decide +kernel
set_option maxRecDepth 100000 in
theorem k2_par : parK k2E k2L (plK k2L k2L.length) k2L.length = [1, 2, 3, -1] := by decide +kernel
theorem k2_up : UpOK [1, 2, 3, -1] := by
  intro i h
  have : i = 0 ∨ i = 1 ∨ i = 2 ∨ i = 3 := by simp at h; omega
  rcases this with rfl | rfl | rfl | rfl <;> simp
theorem k2_hgt : hgtM [1, 2, 3, -1] = 4 := by decide +kernel

set_option maxRecDepth 100000 in
set_option maxHeartbeats 8000000 in
theorem known21_any (w : World) (hT : Tab w) : Calls Tryz.prog 14 #[] w fun e w' => e = .returned (.bool true) ∧ Ext w w' := by
  have hT' := hide hT
  clear hT
  go_enter Tryz.func14, Tryz.ntmps14
  go_wp2_with fail
  have hv := own_ext (World.ownsRow_lit (base := w.heap.size) (e := 102) (size := 3) w (k2V.flatMap encV).toArray 4 (Nat.le_refl _) (by decide) rfl) (ext_self1 _ (.cells (k2E0.flatMap encE).toArray 62))
  have he := World.ownsRow_lit (base := w.heap.size) (e := 62) (size := 4) (w.alloc (.cells (k2V.flatMap encV).toArray 102)) (k2E0.flatMap encE).toArray 4 (by simp) (by decide) rfl
  rw [World.size_alloc] at he
  have hsv := hide (own_at (enc := encV) (xs := k2V) hv (fun _ => rfl))
  have hse := hide (own_at (enc := encE) (xs := k2E0) he (fun _ => rfl))
  have hx2 := hide (ext_self2 w (.cells (k2V.flatMap encV).toArray 102) (.cells (k2E0.flatMap encE).toArray 62))
  clear hv he
  refine (build_any (some ⟨w.heap.size, 0, none⟩) (some ⟨w.heap.size + 1, 0, none⟩) k2V k2E0 4 4 _ (unhide hsv) (unhide hse) (fun d hd => by
    simp [k2V] at hd
    rcases hd with rfl | rfl | rfl | rfl <;> (unfold okV i64ok; decide)) (fun d hd => by
    simp [k2E0] at hd
    rcases hd with rfl | rfl | rfl | rfl <;> (unfold okEd i64ok; decide)) (by decide) (by decide)).mono ?_
  rintro e w3 h3
  unfold BuildPost at h3
  rw [k2_err, k2_bs] at h3
  obtain ⟨_, g, bv, be, rfl, hg3, hx3, _, _, _⟩ := h3.resolve_right (fun h => h.1 rfl)
  have hg3' := hide hg3
  have hx3' := hide ((unhide hx2).trans hx3)
  clear hg3 hx3 hsv hse hx2
  go_wp2_with fail
  have hl3 := hide (own_at (enc := encI) (xs := k2L) (World.ownsRow_lit (base := w3.heap.size) (e := 3) (size := 1) w3 (k2L.flatMap encI).toArray 4 (Nat.le_refl _) (by decide) rfl) (fun _ => rfl))
  have hx4 := hide ((unhide hx3').trans (ext_self1 w3 (.cells (k2L.flatMap encI).toArray 3)))
  have hg4 := hide ((unhide hg3').ext (ext_self1 w3 (.cells (k2L.flatMap encI).toArray 3)))
  have hsz : k2L.length ≤ 100 := by decide
  clear hg3' hx3'
  refine (width_ok (some ⟨w3.heap.size, 0, none⟩) k2L 4 g bv be k2V k2E _ (unhide hl3) (by omega) (unhide hg4) ((unhide hT').ext (unhide hx4)) k2_chk).mono ?_
  rw [k2_wid]
  rintro e w5 ⟨rfl, hx5⟩
  have hl5 := hide ((unhide hl3).ext hx5)
  have hg5 := hide ((unhide hg4).ext hx5)
  have hx5' := hide ((unhide hx4).trans hx5)
  clear hx5 hl3 hg4 hx4
  generalize w3.heap.size = bl at *
  go_wp2_with fail
  refine (fill_ok (some ⟨bl, 0, none⟩) k2L 4 g bv be k2V k2E w5 (unhide hl5) hsz (unhide hg5) ((unhide hT').ext (unhide hx5')) k2_chk).mono ?_
  rw [k2_fil]
  rintro e w6 ⟨A6, c6, rfl, ho6, hx6⟩
  have hs6 := hide (own_at (enc := encE) (xs := [edgeP (1, 3)]) ho6 (fun _ => rfl))
  have hl6 := hide ((unhide hl5).ext hx6)
  have hg6 := hide ((unhide hg5).ext hx6)
  have hx6' := hide ((unhide hx5').trans hx6)
  clear ho6 hx6 hl5 hg5 hx5'
  go_wp2_with fail
  refine (height_gen (.pointer (some ⟨g, 0, none⟩)) (.slice (some ⟨bl, 0, none⟩) 4 4) [1, 2, 3, -1] 0 w6 k2_up (by decide) ((parents_ok (some ⟨bl, 0, none⟩) k2L 4 g bv be k2V k2E w6 (unhide hl6) (by omega) (unhide hg6) ((unhide hT').ext (unhide hx6')) k2_chk).mono (fun e w' h => by rw [k2_par] at h; exact h))).mono ?_
  rw [k2_hgt]
  rintro e w7 ⟨rfl, hx7⟩
  have hs7 := (unhide hs6).ext hx7
  have hx7' := hide ((unhide hx6').trans hx7)
  obtain ⟨b7, off7, rfl, c0, c1, _, _⟩ := atE hs7 (i := 0) (by decide)
  have hself := Ext.refl w7
  clear hs6 hs7 hx7 hl6 hg6 hx6'
  simp only [edgeP, List.getElem_cons_zero, Nat.zero_mul, Nat.add_zero] at c0 c1
  go_wp2_with fail
  go_ret
  exact ⟨rfl, unhide hx7'⟩
end Go.Proofs.YtjehhilijeajnaaGreatDoor
/- palmetteref21.in, palmetteref01.Has, palmetteref01.With. Conditions: see each theorem. -/
namespace Go.Proofs.YtjehhilijeajnaaGreatDoor
open Go Go.RowKit
attribute [local go_sem] qUpon lUpon

def inP (u v : Int) (p : Int × Int) : Bool := p.1 == u && p.2 == v || p.1 == v && p.2 == u
/-- a slice is answered that reads as a list -/
def SlPost {α : Type} (enc : α → List Value) (k : Nat) (w : World) (xs : List α) (e : Ending) (w' : World) : Prop := ∃ A' c', e = .returned (.slice A' xs.length c') ∧ SlAt enc k w' A' xs ∧ Ext w w'
theorem SlPost.mk {α : Type} {enc : α → List Value} {k : Nat} {w w' : World} {xs : List α} {A' : Option Addr} {n c' : Nat} (hn : n = xs.length) (h1 : SlAt enc k w' A' xs) (h2 : Ext w w') : SlPost enc k w xs (.returned (.slice A' n c')) w' := ⟨A', c', by rw [hn], h1, h2⟩
/-- the block where a slice lies has this type -/
def TAt (T : TypeId) (w : World) (A : Option Addr) {α : Type} (xs : List α) : Prop := xs ≠ [] → ∃ b off cs, A = some ⟨b, off, none⟩ ∧ w.heap[b]? = some (.cells cs T (0, 0))
theorem TAt.nil {T : TypeId} {w : World} {A : Option Addr} {α : Type} : TAt T w A ([] : List α) := fun h => absurd rfl h
theorem TAt.of_own {α : Type} {T k n c base : Nat} {w : World} {A : Option Addr} {xs : List α} {cs : List Value} (h : w.ownsRow base T k (.slice A n c) xs.length cs) : TAt T w A xs := fun hne => by
  rcases h.2 with ⟨_, h0⟩ | ⟨g, cap, cur, e, _, hg, _⟩
  · exact absurd (List.eq_nil_of_length_eq_zero h0) hne
  · injection e with e
    exact ⟨g, 0, cur, e, hg⟩
/-- none of these blocks has the type T -/
def OffT (T : TypeId) (w : World) (S : List Nat) : Prop := ∀ g ∈ S, ∃ cs T', w.heap[g]? = some (.cells cs T' (0, 0)) ∧ T' ≠ T
theorem TAt.keep {T : TypeId} {w w' : World} {A : Option Addr} {α : Type} {xs : List α} {S : List Nat} (h : TAt T w A xs) (hk : Keep S w w') (hS : OffT T w S) : TAt T w' A xs := fun hne => by
  obtain ⟨b, off, cs, e, hb⟩ := h hne
  refine ⟨b, off, cs, e, (hk.block b (Array.getElem?_eq_some_iff.1 hb).1 fun hm => ?_).trans hb⟩
  obtain ⟨cs', T', h1, h2⟩ := hS b hm
  rw [hb] at h1
  injection h1 with h1
  injection h1 with _ h1
  exact h2 h1.symm
theorem TAt.ext {T : TypeId} {w w' : World} {A : Option Addr} {α : Type} {xs : List α} (h : TAt T w A xs) (hk : Ext w w') : TAt T w' A xs := h.keep (hk.keep []) (fun _ hm => by simp at hm)
theorem SlAt.keepT {α : Type} {enc : α → List Value} {k : Nat} {T : TypeId} {w w' : World} {A : Option Addr} {xs : List α} {S : List Nat} (h : SlAt enc k w A xs) (ht : TAt T w A xs) (hk : Keep S w w') (hS : OffT T w S) : SlAt enc k w' A xs := by
  by_cases hne : xs = []
  · subst hne; exact SlAt.nil
  · refine h.keepS hk fun b off e hm => ?_
    obtain ⟨b', off', cs, e', hb⟩ := ht hne
    rw [e] at e'
    injection e' with e'
    injection e' with e1 _
    subst e1
    obtain ⟨cs', T', h1, h2⟩ := hS b hm
    rw [hb] at h1
    injection h1 with h1
    injection h1 with _ h1
    exact h2 h1.symm
theorem OffT.of_own {T T2 base k n : Nat} {w : World} {v : Value} {cs : List Value} (h : w.ownsRow base T2 k v n cs) (hne : T2 ≠ T) : OffT T w v.ownBlock.toList := fun g hg => by
  obtain ⟨_, _, cur, hc⟩ := own_base h (by simpa using hg)
  exact ⟨cur, T2, hc, hne⟩
/-- .. with its type -/
def SlPostT {α : Type} (enc : α → List Value) (k T : Nat) (w : World) (xs : List α) (e : Ending) (w' : World) : Prop := ∃ A' c', e = .returned (.slice A' xs.length c') ∧ SlAt enc k w' A' xs ∧ TAt T w' A' xs ∧ Ext w w'
theorem SlPostT.mk {α : Type} {enc : α → List Value} {k T : Nat} {w w' : World} {xs : List α} {A' : Option Addr} {n c' : Nat} (hn : n = xs.length) (h1 : SlAt enc k w' A' xs) (ht : TAt T w' A' xs) (h2 : Ext w w') : SlPostT enc k T w xs (.returned (.slice A' n c')) w' := ⟨A', c', by rw [hn], h1, ht, h2⟩
theorem ret_bl {a b : Bool} (h : a = b) : Ending.returned (Value.bool a) = Ending.returned (Value.bool b) := by rw [h]
theorem any_hit {α : Type} {q : α → Bool} {l : List α} {k : Nat} (hk : k < l.length) (h : q l[k] = true) : l.any q = true := List.any_eq_true.2 ⟨l[k], List.getElem_mem hk, h⟩
theorem any_miss {α : Type} {q : α → Bool} {l : List α} (h : ∀ j (hj : j < l.length), q l[j] = false) : l.any q = false := by
  rw [List.any_eq_false]
  intro x hx
  obtain ⟨j, hj, rfl⟩ := List.getElem_of_mem hx
  rw [h j hj]
  simp

set_option maxHeartbeats 4000000 in
theorem in21_any (A : Option Addr) (L : List (Int × Int)) (cL : Nat) (u v : Int) (w : World) (hL : SlAt encP 2 w A L) (hl : L.length ≤ 4611686018427387904) :
    Calls Tryz.prog 54 #[.slice A L.length cL, .int .i64 u, .int .i64 v] w fun e w' => e = .returned (.bool (L.any (inP u v))) ∧ Ext w w' := by
  generalize hq : inP u v = q
  have hq' : ∀ p, q p = inP u v p := fun p => by rw [hq]
  have hq'' := hide hq'
  have hself := Ext.refl w
  clear hq hq'
  go_enter Tryz.func54, Tryz.ntmps54
  go_wp2
  go_loop [7] (fun i => ∃ k : Nat, k ≤ L.length ∧ i = .int .i64 k ∧ ∀ j (hj : j < k) (hj' : j < L.length), q L[j] = false) (fun i => L.length - (intOf i).toNat)
  case atStart => exact ⟨0, Nat.zero_le _, rfl, fun j hj => by omega⟩
  case round =>
    obtain ⟨k, hk, rfl, hno⟩ := hrel
    have hno' := hide hno
    clear hno
    by_cases hlt : k < L.length
    · obtain ⟨b, off, rfl, c1, c2⟩ := atP hL hlt
      clear hL
      generalize hp : L[k] = p at c1 c2
      obtain ⟨a, b'⟩ := p
      have hp' := hide hp
      clear hp
      have no : q (a, b') = false → ∀ j (hj : j < k + 1) (hj' : j < L.length), q L[j] = false := fun h j hj hj' => by
        rcases Nat.lt_or_ge j k with h1 | h1
        · exact unhide hno' j h1 hj'
        · have : j = k := by omega
          subst this
          rw [unhide hp']
          exact h
      have yes : q (a, b') = true → L.any q = true := fun h => any_hit hlt (by rw [unhide hp']; exact h)
      have no' := hide no
      have yes' := hide yes
      clear no yes
      go_wp2
      all_goals first
        | (go_ret; exact ⟨ret_bl (unhide yes' (by rw [unhide hq'']; unfold inP; simp_all)).symm, hself⟩)
        | (go_round
           case rel => exact ⟨k + 1, by omega, by go_num, unhide no' (by rw [unhide hq'']; unfold inP; simp_all)⟩
           case measure => simp [intOf]; omega)
    · go_wp2
      go_ret
      exact ⟨ret_bl (any_miss (fun j hj => unhide hno' j (by omega) hj)).symm, hself⟩

set_option maxHeartbeats 4000000 in
theorem has01_any (A : Option Addr) (L : List Int) (cL : Nat) (n : Int) (w : World) (hL : SlAt encI 1 w A L) (hl : L.length ≤ 4611686018427387904) :
    Calls Tryz.prog 44 #[.slice A L.length cL, .int .i64 n] w fun e w' => e = .returned (.bool (L.any (· == n))) ∧ Ext w w' := by
  have hself := Ext.refl w
  go_enter Tryz.func44, Tryz.ntmps44
  go_wp2
  go_loop [5] (fun i => ∃ k : Nat, k ≤ L.length ∧ i = .int .i64 k ∧ ∀ j (hj : j < k) (hj' : j < L.length), (L[j] == n) = false) (fun i => L.length - (intOf i).toNat)
  case atStart => exact ⟨0, Nat.zero_le _, rfl, fun j hj => by omega⟩
  case round =>
    obtain ⟨k, hk, rfl, hno⟩ := hrel
    have hno' := hide hno
    clear hno
    by_cases hlt : k < L.length
    · obtain ⟨b, off, rfl, c1⟩ := atI hL hlt
      clear hL
      cases hh : L[k] == n
      · have hh' := hide hh
        go_wp2
        go_round
        case rel =>
          refine ⟨k + 1, by omega, by go_num, fun j hj hj' => ?_⟩
          rcases Nat.lt_or_ge j k with h | h
          · exact unhide hno' j h hj'
          · have : j = k := by omega
            subst this
            exact unhide hh'
        case measure => simp [intOf]; omega
      · have hh' := hide hh
        go_wp2
        go_ret
        exact ⟨ret_bl (any_hit hlt (unhide hh')).symm, hself⟩
    · go_wp2
      go_ret
      exact ⟨ret_bl (any_miss (fun j hj => unhide hno' j (by omega) hj)).symm, hself⟩

theorem own_n {w : World} {base T k n m : Nat} {v : Value} {xs : List Value} (h : w.ownsRow base T k v n xs) (e : m = n) : w.ownsRow base T k v m xs := by
  subst e
  exact h
theorem atI_at {w : World} {b off : Nat} {L : List Int} (h : SlAt encI 1 w (some ⟨b, off, none⟩) L) {i : Nat} (hi : i < L.length) : ∀ W, Ext w W → W.cell? ⟨b, off + i, none⟩ = some (.int .i64 L[i]) := by
  obtain ⟨b', off', e, hc⟩ := atI h hi
  injection e with e
  injection e with e1 e2
  subst e1
  subst e2
  exact hc
def withR (L : List Int) (n : Int) : List Int := if n < 0 ∨ 1023 < n ∨ L.any (· == n) = true then L else insF (fun x => decide (n < x)) n L
set_option maxRecDepth 100000 in
set_option maxHeartbeats 8000000 in
theorem with01_any (A : Option Addr) (L : List Int) (cL : Nat) (n : Int) (w : World) (hL : SlAt encI 1 w A L) (hTL : TAt 3 w A L) (hl : L.length ≤ 100000) :
    Calls Tryz.prog 55 #[.slice A L.length cL, .int .i64 n] w (SlPostT encI 1 3 w (withR L n)) := by
  have hL' := hide hL
  have hTL' := hide hTL
  clear hTL
  have hself := hide (Ext.refl w)
  clear hL
  obtain ⟨Z, hZ⟩ : ∃ Z, Z = withR L n := ⟨_, rfl⟩
  rw [← hZ]
  have hZ' := hide hZ
  clear hZ
  go_enter Tryz.func55, Tryz.ntmps55
  by_cases h1 : n < 0
  · have e : L = Z := by rw [unhide hZ']; unfold withR; rw [if_pos (.inl h1)]
    subst e
    go_wp2_with fail
    go_ret
    exact .mk rfl (unhide hL') (unhide hTL') (unhide hself)
  by_cases h2 : 1023 < n
  · have e : L = Z := by rw [unhide hZ']; unfold withR; rw [if_pos (.inr (.inl h2))]
    subst e
    go_wp2_with fail
    go_ret
    exact .mk rfl (unhide hL') (unhide hTL') (unhide hself)
  have d1 : decide (n < 0) = false := decide_eq_false h1
  have d2 : decide (1023 < n) = false := decide_eq_false h2
  cases h3 : L.any (· == n) with
  | true =>
    have e : L = Z := by rw [unhide hZ']; unfold withR; rw [if_pos (.inr (.inr h3))]
    subst e
    have h3' := hide h3
    clear h3
    go_wp2_with fail
    refine (has01_any A L cL n w (unhide hL') (by omega)).mono ?_
    rw [unhide h3']
    rintro e w1 ⟨rfl, hx1⟩
    have hx1' := hide hx1
    clear hx1
    go_wp2_with fail
    go_ret
    exact .mk rfl ((unhide hL').ext (unhide hx1')) ((unhide hTL').ext (unhide hx1')) (unhide hx1')
  | false =>
    have e : Z = insF (fun x => decide (n < x)) n L := by rw [unhide hZ']; unfold withR; rw [if_neg (by rw [h3]; simp; omega)]
    have e' := hide e
    have h3' := hide h3
    clear h3 hZ' e
    go_wp2_with fail
    refine (has01_any A L cL n w (unhide hL') (by omega)).mono ?_
    rw [unhide h3']
    rintro e w1 ⟨rfl, hx1⟩
    have ho1 := hide (World.ownsRow_made (base := w.heap.size) (e := 3) (size := 1) w1 #[] 0 (Below.size hx1) (by decide) rfl)
    have hx1' := hide (hx1.trans (ext_self1 w1 (.cells #[] 3)))
    clear hx1 h3'
    go_wp2_with fail
    generalize w1.alloc (.cells #[] 3) = W1 at *
    generalize w1.heap.size = b1 at *
    obtain ⟨gt, hgt⟩ : ∃ gt : Int → Bool, gt = fun x => decide (n < x) := ⟨_, rfl⟩
    rw [← hgt] at e'
    have hgt' := hide hgt
    clear hgt
    go_loopw [5, 6, 7] (fun l d i wr => ∃ (k : Nat) (dn : Bool) (o : List Int) (vs : Value), k ≤ L.length ∧ i = .int .i64 k ∧ d = .bool dn ∧ vs = l ∧ (L.take k).foldl (insS gt n) (false, []) = (dn, o) ∧ wr.ownsRow w.heap.size 3 1 vs o.length (o.flatMap encI) ∧ Ext w wr) (fun _ _ i _ => L.length - (intOf i).toNat)
    case atStart => exact ⟨0, false, [], _, Nat.zero_le _, rfl, rfl, rfl, by simp, unhide ho1, unhide hx1'⟩
    case round =>
      obtain ⟨k, dn, o, vs, hk, rfl, rfl, hv, hfold, hown, hx⟩ := hrel
      subst hv
      have hown' := hide hown
      have hx' := hide hx
      have hfold' := hide hfold
      have hol := hide (show o.length ≤ 1000000 from by have := ins_take_len hfold hk; omega)
      have hbs := hide (Below.size hx)
      clear hown hx ho1 hx1'
      by_cases hlt : k < L.length
      · obtain ⟨b, off, rfl, c0⟩ := atI ((unhide hL').ext (unhide hx')) hlt
        have st := hide (ins_take hlt hfold)
        generalize hy : L[k] = y at c0 st
        have hy' := hide hy
        have hself := Ext.refl wr
        clear hfold hy
        cases dn
        · by_cases hc : n < y
          · have st2 : insS gt n (false, o) y = (true, o ++ [n] ++ [y]) := by unfold insS; rw [unhide hgt']; simp [hc]
            have st2' := hide st2
            have hc' : decide (n < y) = true := decide_eq_true hc
            clear st2 hc
            try dsimp only
            repeat ((fail_if_success (with_reducible refine wp_reg (id := 9) ?_)); (first | go_values | go_skip | go_step | go_guarded | go_upon | go_in | go_back | fail))
            with_reducible refine wp_reg (id := 9) ?_
            iterate 3
              refine wpO_want rfl ?_
              go_simp
            refine wpO_ap1 (enc := _) rfl infoI Tryz.underlying60 one_encI (fun _ => rfl) (by decide) (by decide) rfl (v := vs) (xs := o) n rfl rfl (Blk.new wr 3 #[.int .i64 n]) (own_ext (unhide hown') (ext_self1 wr (.cells #[.int .i64 n] 3))) (by have := unhide hol; omega) (Nat.le_trans (unhide hbs) (Below.size (ext_self1 wr (.cells #[.int .i64 n] 3)))) ?_
            intro A_w6 c_w6 w6 ho6 hg6 _
            obtain ⟨n_w6, hlen6⟩ : ∃ n_w6, n_w6 = (o).length + 1 := ⟨_, rfl⟩
            rw [← hlen6] at ho6 ⊢
            have hx_w6 := hide (((unhide hx').trans (ext_self1 wr (.cells #[.int .i64 n] 3))).of_new (Keep.of_grown hg6) (fun z hz => Nat.le_trans (Nat.le_refl _) (own_base (unhide hown') (by simpa using hz)).1))
            have hown_w6 := hide (own_n ho6 (m := (o ++ [n]).length) (by rw [hlen6, List.length_append (bs := [_])]; rfl))
            have hn_w6 := hide hlen6
            clear ho6 hg6 hlen6
            try go_frame
            refine wpO_want rfl ?_
            go_simp
            refine wpO_done ?_
            try go_frame
            have c6 := atI_at ((unhide hL').ext (unhide hx_w6)) hlt
            rw [unhide hy'] at c6
            have hself6 := Ext.refl w6
            clear c0 hself
            try dsimp only
            repeat ((fail_if_success (with_reducible refine wp_reg (id := 11) ?_)); (first | go_values | go_skip | go_step | go_guarded | go_upon | go_in | go_back | fail))
            with_reducible refine wp_reg (id := 11) ?_
            iterate 6
              refine wpO_want rfl ?_
              go_simp
            refine wpO_ap1 (enc := _) rfl infoI Tryz.underlying60 one_encI (fun _ => rfl) (by decide) (by decide) rfl (v := .slice A_w6 n_w6 c_w6) (xs := o ++ [n]) y rfl rfl (Blk.new w6 3 #[.int .i64 y]) (own_ext (unhide hown_w6) (ext_self1 w6 (.cells #[.int .i64 y] 3))) (by have := unhide hol; simp; omega) (Nat.le_trans (Below.size (unhide hx_w6)) (Below.size (ext_self1 w6 (.cells #[.int .i64 y] 3)))) ?_
            intro A_w7 c_w7 w7 ho6 hg6 _
            obtain ⟨n_w7, hlen6⟩ : ∃ n_w7, n_w7 = (o ++ [n]).length + 1 := ⟨_, rfl⟩
            rw [← hlen6] at ho6 ⊢
            have hx_w7 := hide (((unhide hx_w6).trans (ext_self1 w6 (.cells #[.int .i64 y] 3))).of_new (Keep.of_grown hg6) (fun z hz => Nat.le_trans (Nat.le_refl _) (own_base (unhide hown_w6) (by simpa using hz)).1))
            have hown_w7 := hide (own_n ho6 (m := (o ++ [n] ++ [y]).length) (by rw [hlen6, List.length_append (bs := [_])]; rfl))
            have hn_w7 := hide hlen6
            clear ho6 hg6 hlen6
            try go_frame
            refine wpO_want rfl ?_
            go_simp
            refine wpO_done ?_
            try go_frame
            go_wp2_with fail
            go_roundw
            case rel => exact ⟨k + 1, true, o ++ [n] ++ [y], _, by omega, by go_num, rfl, rfl, by rw [unhide st]; exact unhide st2', unhide hown_w7, unhide hx_w7⟩
            case measure => simp [intOf]; omega
          · have st2 : insS gt n (false, o) y = (false, o ++ [y]) := by unfold insS; rw [unhide hgt']; simp [hc]
            have st2' := hide st2
            have hc' : decide (n < y) = false := decide_eq_false hc
            clear st2 hc
            try dsimp only
            repeat ((fail_if_success (with_reducible refine wp_reg (id := 11) ?_)); (first | go_values | go_skip | go_step | go_guarded | go_upon | go_in | go_back | fail))
            with_reducible refine wp_reg (id := 11) ?_
            iterate 6
              refine wpO_want rfl ?_
              go_simp
            refine wpO_ap1 (enc := _) rfl infoI Tryz.underlying60 one_encI (fun _ => rfl) (by decide) (by decide) rfl (v := vs) (xs := o) y rfl rfl (Blk.new wr 3 #[.int .i64 y]) (own_ext (unhide hown') (ext_self1 wr (.cells #[.int .i64 y] 3))) (by have := unhide hol; omega) (Nat.le_trans (unhide hbs) (Below.size (ext_self1 wr (.cells #[.int .i64 y] 3)))) ?_
            intro A_w7 c_w7 w7 ho6 hg6 _
            obtain ⟨n_w7, hlen6⟩ : ∃ n_w7, n_w7 = (o).length + 1 := ⟨_, rfl⟩
            rw [← hlen6] at ho6 ⊢
            have hx_w7 := hide (((unhide hx').trans (ext_self1 wr (.cells #[.int .i64 y] 3))).of_new (Keep.of_grown hg6) (fun z hz => Nat.le_trans (Nat.le_refl _) (own_base (unhide hown') (by simpa using hz)).1))
            have hown_w7 := hide (own_n ho6 (m := (o ++ [y]).length) (by rw [hlen6, List.length_append (bs := [_])]; rfl))
            have hn_w7 := hide hlen6
            clear ho6 hg6 hlen6
            try go_frame
            refine wpO_want rfl ?_
            go_simp
            refine wpO_done ?_
            try go_frame
            go_wp2_with fail
            go_roundw
            case rel => exact ⟨k + 1, false, o ++ [y], _, by omega, by go_num, rfl, rfl, by rw [unhide st]; exact unhide st2', unhide hown_w7, unhide hx_w7⟩
            case measure => simp [intOf]; omega
        · have st2 : insS gt n (true, o) y = (true, o ++ [y]) := by unfold insS; simp
          have st2' := hide st2
          clear st2
          try dsimp only
          repeat ((fail_if_success (with_reducible refine wp_reg (id := 11) ?_)); (first | go_values | go_skip | go_step | go_guarded | go_upon | go_in | go_back | fail))
          with_reducible refine wp_reg (id := 11) ?_
          iterate 6
            refine wpO_want rfl ?_
            go_simp
          refine wpO_ap1 (enc := _) rfl infoI Tryz.underlying60 one_encI (fun _ => rfl) (by decide) (by decide) rfl (v := vs) (xs := o) y rfl rfl (Blk.new wr 3 #[.int .i64 y]) (own_ext (unhide hown') (ext_self1 wr (.cells #[.int .i64 y] 3))) (by have := unhide hol; omega) (Nat.le_trans (unhide hbs) (Below.size (ext_self1 wr (.cells #[.int .i64 y] 3)))) ?_
          intro A_w7 c_w7 w7 ho6 hg6 _
          obtain ⟨n_w7, hlen6⟩ : ∃ n_w7, n_w7 = (o).length + 1 := ⟨_, rfl⟩
          rw [← hlen6] at ho6 ⊢
          have hx_w7 := hide (((unhide hx').trans (ext_self1 wr (.cells #[.int .i64 y] 3))).of_new (Keep.of_grown hg6) (fun z hz => Nat.le_trans (Nat.le_refl _) (own_base (unhide hown') (by simpa using hz)).1))
          have hown_w7 := hide (own_n ho6 (m := (o ++ [y]).length) (by rw [hlen6, List.length_append (bs := [_])]; rfl))
          have hn_w7 := hide hlen6
          clear ho6 hg6 hlen6
          try go_frame
          refine wpO_want rfl ?_
          go_simp
          refine wpO_done ?_
          try go_frame
          go_wp2_with fail
          go_roundw
          case rel => exact ⟨k + 1, true, o ++ [y], _, by omega, by go_num, rfl, rfl, by rw [unhide st]; exact unhide st2', unhide hown_w7, unhide hx_w7⟩
          case measure => simp [intOf]; omega
      · have hke : k = L.length := by omega
        subst hke
        rw [List.take_length] at hfold
        have hins : insF gt n L = if dn = true then o else o ++ [n] := by unfold insF; rw [hfold]
        have hins' := hide hins
        clear hfold hins
        cases dn
        · rw [if_neg (by simp)] at hins'
          try dsimp only
          repeat ((fail_if_success (with_reducible refine wp_reg (id := 13) ?_)); (first | go_values | go_skip | go_step | go_guarded | go_upon | go_in | go_back | fail))
          with_reducible refine wp_reg (id := 13) ?_
          iterate 3
            refine wpO_want rfl ?_
            go_simp
          refine wpO_ap1 (enc := _) rfl infoI Tryz.underlying60 one_encI (fun _ => rfl) (by decide) (by decide) rfl (v := vs) (xs := o) n rfl rfl (Blk.new wr 3 #[.int .i64 n]) (own_ext (unhide hown') (ext_self1 wr (.cells #[.int .i64 n] 3))) (by have := unhide hol; omega) (Nat.le_trans (unhide hbs) (Below.size (ext_self1 wr (.cells #[.int .i64 n] 3)))) ?_
          intro A_w7 c_w7 w7 ho6 hg6 _
          obtain ⟨n_w7, hlen6⟩ : ∃ n_w7, n_w7 = (o).length + 1 := ⟨_, rfl⟩
          rw [← hlen6] at ho6 ⊢
          have hx_w7 := hide (((unhide hx').trans (ext_self1 wr (.cells #[.int .i64 n] 3))).of_new (Keep.of_grown hg6) (fun z hz => Nat.le_trans (Nat.le_refl _) (own_base (unhide hown') (by simpa using hz)).1))
          have hown_w7 := hide (own_n ho6 (m := (o ++ [n]).length) (by rw [hlen6, List.length_append (bs := [_])]; rfl))
          have hn_w7 := hide hlen6
          clear ho6 hg6 hlen6
          try go_frame
          refine wpO_want rfl ?_
          go_simp
          refine wpO_done ?_
          try go_frame
          go_wp2_with fail
          go_ret
          rw [unhide e', unhide hins']
          exact .mk (by rw [unhide hn_w7]; simp) (own_at (enc := encI) (unhide hown_w7) (fun _ => rfl)) (TAt.of_own (unhide hown_w7)) (unhide hx_w7)
        · rw [if_pos rfl] at hins'
          obtain ⟨A7, c7, rfl⟩ := own_slice (unhide hown')
          go_wp2_with fail
          go_ret
          rw [unhide e', unhide hins']
          exact .mk rfl (own_at (enc := encI) (unhide hown') (fun _ => rfl)) (TAt.of_own (unhide hown')) (unhide hx')
end Go.Proofs.YtjehhilijeajnaaGreatDoor
/- palmetteref21.Near: what is left near each vertex, and the fill-in. Conditions: see each theorem. -/
namespace Go.Proofs.YtjehhilijeajnaaGreatDoor
open Go Go.RowKit
attribute [local go_sem] qUpon lUpon

def adjR (E : List ((Int × Int) × Thing)) (come : List (Int × Int)) (u v : Int) : Bool := decide (0 ≤ posI (isE u v) E) || come.any (inP u v)
def nearF21 (E : List ((Int × Int) × Thing)) (come : List (Int × Int)) (u : Int) (near : List Int) (v : Int) : List Int := if adjR E come u v = true then withR near v else near
/-- what is near L[i], of the positions up to k -/
def nearR (E : List ((Int × Int) × Thing)) (come : List (Int × Int)) (L : List Int) (i k : Nat) : List Int := ((L.take k).drop (i + 1)).foldl (nearF21 E come (L[i]?.getD 0)) []
def rowF (E : List ((Int × Int) × Thing)) (near : List Int) (a : Nat) (come : List (Int × Int)) (b : Nat) : List (Int × Int) := if adjR E come (near[a]?.getD 0) (near[b]?.getD 0) = true then come else come ++ [(near[b]?.getD 0, near[a]?.getD 0)]
def rowR (E : List ((Int × Int) × Thing)) (near : List Int) (a : Nat) (come : List (Int × Int)) (b : Nat) : List (Int × Int) := (List.range b).foldl (rowF E near a) come
def pairR (E : List ((Int × Int) × Thing)) (near : List Int) (come : List (Int × Int)) (a : Nat) : List (Int × Int) := (List.range a).foldl (fun come a => rowR E near a come a) come
/-- the fill-in before step i, and what is near -/
def comR (E : List ((Int × Int) × Thing)) (L : List Int) : Nat → List (Int × Int)
  | 0 => []
  | i + 1 => pairR E (nearR E (comR E L i) L i L.length) (comR E L i) (nearR E (comR E L i) L i L.length).length
def neaR (E : List ((Int × Int) × Thing)) (L : List Int) (i : Nat) : List Int := nearR E (comR E L i) L i L.length
def neasR (E : List ((Int × Int) × Thing)) (L : List Int) (k : Nat) : List (List Int) := (List.range k).map (neaR E L)
theorem rowR_next (E : List ((Int × Int) × Thing)) (near : List Int) (a : Nat) (come : List (Int × Int)) (b : Nat) : rowR E near a come (b + 1) = rowF E near a (rowR E near a come b) b := by
  unfold rowR
  rw [List.range_succ, List.foldl_append]; rfl
theorem pairR_next (E : List ((Int × Int) × Thing)) (near : List Int) (come : List (Int × Int)) (a : Nat) : pairR E near come (a + 1) = rowR E near a (pairR E near come a) a := by
  unfold pairR
  rw [List.range_succ, List.foldl_append]; rfl
theorem nearR_next (E : List ((Int × Int) × Thing)) (come : List (Int × Int)) (L : List Int) (i k : Nat) (hk : k < L.length) (hik : i < k) : nearR E come L i (k + 1) = nearF21 E come (L[i]?.getD 0) (nearR E come L i k) L[k] := by
  unfold nearR
  rw [List.take_succ_eq_append_getElem hk, List.drop_append_of_le_length (by rw [List.length_take]; omega), List.foldl_append, List.foldl_cons, List.foldl_nil]
theorem nearR_start (E : List ((Int × Int) × Thing)) (come : List (Int × Int)) (L : List Int) (i : Nat) : nearR E come L i (i + 1) = [] := by
  unfold nearR
  rw [List.drop_eq_nil_of_le (by rw [List.length_take]; omega)]
  rfl
theorem withR_len (L : List Int) (n : Int) : (withR L n).length ≤ L.length + 1 := by
  unfold withR
  split
  · omega
  · have h := ins_len (gt := fun x => decide (n < x)) (x := n) L (false, [])
    unfold insF
    split
    · have := h.1; simp at this; omega
    · rename_i hd
      have := h.2.1 (by simpa using hd)
      simp at this
      simp [this]
theorem nearR_len (E : List ((Int × Int) × Thing)) (come : List (Int × Int)) (L : List Int) (i k : Nat) : (nearR E come L i k).length ≤ L.length := by
  have key : ∀ (l near : List Int) (u : Int), (l.foldl (nearF21 E come u) near).length ≤ near.length + l.length := by
    intro l
    induction l with
    | nil => intro near u; simp
    | cons x r ih =>
      intro near u
      rw [List.foldl_cons]
      have h1 := ih (nearF21 E come u near x) u
      have h2 : (nearF21 E come u near x).length ≤ near.length + 1 := by
        unfold nearF21
        split
        · exact withR_len _ _
        · omega
      simp only [List.length_cons]
      omega
  have h := key ((L.take k).drop (i + 1)) [] (L[i]?.getD 0)
  have h2 : ((L.take k).drop (i + 1)).length ≤ L.length := by rw [List.length_drop, List.length_take]; omega
  unfold nearR
  simp only [List.length_nil, Nat.zero_add] at h
  omega
theorem rowR_len (E : List ((Int × Int) × Thing)) (near : List Int) (a : Nat) (come : List (Int × Int)) : ∀ b, (rowR E near a come b).length ≤ come.length + b
  | 0 => by simp [rowR]
  | b + 1 => by
    rw [rowR_next]
    have := rowR_len E near a come b
    unfold rowF
    split
    · omega
    · simp; omega
theorem pairR_len (E : List ((Int × Int) × Thing)) (near : List Int) (come : List (Int × Int)) : ∀ a, a ≤ 100 → (pairR E near come a).length ≤ come.length + a * 100
  | 0, _ => by simp [pairR]
  | a + 1, h => by
    rw [pairR_next]
    have h1 := rowR_len E near a (pairR E near come a) a
    have h2 := pairR_len E near come a (by omega)
    omega
theorem comR_len (E : List ((Int × Int) × Thing)) (L : List Int) (hl : L.length ≤ 100) : ∀ i, i ≤ 100 → (comR E L i).length ≤ i * 10000
  | 0, _ => by simp [comR]
  | i + 1, h => by
    have h1 := nearR_len E (comR E L i) L i L.length
    have h2 := pairR_len E (nearR E (comR E L i) L i L.length) (comR E L i) (nearR E (comR E L i) L i L.length).length (by omega)
    have h3 := comR_len E L hl i (by omega)
    have h4 : (nearR E (comR E L i) L i L.length).length * 100 ≤ 100 * 100 := Nat.mul_le_mul_right _ (by omega)
    show (pairR E (nearR E (comR E L i) L i L.length) (comR E L i) (nearR E (comR E L i) L i L.length).length).length ≤ (i + 1) * 10000
    omega

/-- lists of slices of ints: the values and what they read as -/
abbrev Sl3 := Option Addr × Nat × Nat
def encW (p : Sl3) : List Value := [.slice p.1 p.2.1 p.2.2]
theorem one_encW (p : Sl3) : ∀ v ∈ encW p, v.oneCell' = true := by
  intro v hv
  simp [encW] at hv
  subst hv
  rfl
def SlsAt (w : World) (vs : List Sl3) (xss : List (List Int)) : Prop := vs.length = xss.length ∧ ∀ i (h : i < xss.length), ∃ A c, vs[i]? = some (A, xss[i].length, c) ∧ SlAt encI 1 w A xss[i] ∧ TAt 3 w A xss[i]
theorem SlsAt.keep {w w' : World} {vs : List Sl3} {xss : List (List Int)} {S : List Nat} (h : SlsAt w vs xss) (hk : Keep S w w') (hS : OffT 3 w S) : SlsAt w' vs xss := ⟨h.1, fun i hi => by
  obtain ⟨A, c, h1, h2, h3⟩ := h.2 i hi
  exact ⟨A, c, h1, h2.keepT h3 hk hS, h3.keep hk hS⟩⟩
theorem SlsAt.ext {w w' : World} {vs : List Sl3} {xss : List (List Int)} (h : SlsAt w vs xss) (hk : Ext w w') : SlsAt w' vs xss := h.keep (hk.keep []) (fun _ hm => by simp at hm)
theorem SlsAt.push {w : World} {vs : List Sl3} {xss : List (List Int)} (h : SlsAt w vs xss) {A : Option Addr} {n c : Nat} {xs : List Int} (hn : n = xs.length) (h1 : SlAt encI 1 w A xs) (h2 : TAt 3 w A xs) : SlsAt w (vs ++ [(A, n, c)]) (xss ++ [xs]) := by
  subst hn
  refine ⟨by simp [h.1], fun i hi => ?_⟩
  by_cases hl : i < xss.length
  · obtain ⟨A', c', e1, e2, e3⟩ := h.2 i hl
    rw [List.getElem_append_left hl, List.getElem?_append_left (by rw [h.1]; exact hl)]
    exact ⟨A', c', e1, e2, e3⟩
  · have hie : i = xss.length := by simp at hi; omega
    subst hie
    rw [List.getElem_append_right (Nat.le_refl _), List.getElem?_append_right (by rw [h.1]; exact Nat.le_refl _)]
    exact ⟨A, c, by simp [h.1], by simpa using h1, by simpa using h2⟩

/-- between two steps -/
structure NrI (B : Nat) (w wr : World) (xss : List (List Int)) (vs : List Sl3) (vo vc : Value) (come : List (Int × Int)) : Prop where
  o : wr.ownsRow B 60 1 vo vs.length (vs.flatMap encW)
  c : wr.ownsRow B 64 2 vc come.length (come.flatMap encP)
  n : SlsAt wr vs xss
  x : Ext w wr
  lw : w.heap.size ≤ B
  lb : B ≤ wr.heap.size
theorem NrI.ext {B : Nat} {w wr W : World} {xss : List (List Int)} {vs : List Sl3} {vo vc : Value} {come : List (Int × Int)} (h : NrI B w wr xss vs vo vc come) (k : Ext wr W) : NrI B w W xss vs vo vc come :=
  ⟨own_ext h.o k, own_ext h.c k, h.n.ext k, h.x.trans k, h.lw, Nat.le_trans h.lb (Below.size k)⟩
theorem own_offT {B n1 n2 : Nat} {w : World} {v1 v2 : Value} {k1 k2 T1 T2 : Nat} {xs1 xs2 : List Value} (h1 : w.ownsRow B T1 k1 v1 n1 xs1) (h2 : w.ownsRow B T2 k2 v2 n2 xs2) (hne : T1 ≠ T2) : ∀ g ∈ v1.ownBlock.toList, v2.ownBlock ≠ some g := fun g hg e => by
  obtain ⟨_, _, c1, e1⟩ := own_base h1 (by simpa using hg)
  obtain ⟨_, _, c2, e2⟩ := own_base h2 e
  rw [e1] at e2
  injection e2 with e2
  injection e2 with _ e2
  exact hne e2
/-- the fill-in has grown -/
theorem NrI.pushC {B : Nat} {w wr W1 w6 : World} {xss : List (List Int)} {vs : List Sl3} {vo vc vc' : Value} {come come' : List (Int × Int)} (h : NrI B w wr xss vs vo vc come) (k : Ext wr W1) (hg : W1.grownBy w6 vc.ownBlock) (hown : w6.ownsRow B 64 2 vc' come'.length (come'.flatMap encP)) :
    NrI B w w6 xss vs vo vc' come' ∧ Keep vc.ownBlock.toList wr w6 ∧ OffT 3 wr vc.ownBlock.toList := by
  have h1 := h.ext k
  have hk := Keep.of_grown hg
  refine ⟨⟨own_keep h1.o hk (own_offT h1.c h1.o (by decide)), hown, h1.n.keep hk (OffT.of_own h1.c (by decide)), h1.x.of_new hk (fun x hx => Nat.le_trans h.lw (own_base h1.c (by simpa using hx)).1), h.lw, Nat.le_trans h1.lb hk.size⟩, (k.keep _).trans hk, OffT.of_own h.c (by decide)⟩
theorem NrI.pushO {B : Nat} {w wr W1 w6 : World} {xss : List (List Int)} {vs vs' : List Sl3} {vo vo' vc : Value} {come : List (Int × Int)} {A : Option Addr} {n c : Nat} {xs : List Int} (h : NrI B w wr xss vs vo vc come) (k : Ext wr W1) (hg : W1.grownBy w6 vo.ownBlock) (hvs : vs' = vs ++ [(A, n, c)]) (hown : w6.ownsRow B 60 1 vo' vs'.length (vs'.flatMap encW)) (hn : n = xs.length) (h1 : SlAt encI 1 wr A xs) (h2 : TAt 3 wr A xs) :
    NrI B w w6 (xss ++ [xs]) vs' vo' vc come := by
  subst hvs
  have hh := h.ext k
  have hk := Keep.of_grown hg
  have hS := OffT.of_own hh.o (T := 3) (by decide)
  exact ⟨hown, own_keep hh.c hk (own_offT hh.o hh.c (by decide)), (hh.n.keep hk hS).push hn ((h1.ext k).keepT (h2.ext k) hk hS) ((h2.ext k).keep hk hS), hh.x.of_new hk (fun x hx => Nat.le_trans h.lw (own_base hh.o (by simpa using hx)).1), h.lw, Nat.le_trans hh.lb hk.size⟩
theorem infoR : (Tryz.prog.info? 60).map (fun i => (i.zero.map (·.cells.size), i.size, i.bytes)) = some (some 1, 1, 24) := by kernel_rfl
theorem infoP21 : (Tryz.prog.info? 64).map (fun i => (i.zero.map (·.cells.size), i.size, i.bytes)) = some (some 2, 2, 16) := by kernel_rfl
def NearPost (w : World) (xss : List (List Int)) (come : List (Int × Int)) (e : Ending) (w' : World) : Prop := ∃ A1 c1 A2 c2 vs, e = .returned (.tuple #[.slice A1 xss.length c1, .slice A2 come.length c2]) ∧ SlAt encW 1 w' A1 vs ∧ SlsAt w' vs xss ∧ SlAt encP 2 w' A2 come ∧ Ext w w'
end Go.Proofs.YtjehhilijeajnaaGreatDoor
