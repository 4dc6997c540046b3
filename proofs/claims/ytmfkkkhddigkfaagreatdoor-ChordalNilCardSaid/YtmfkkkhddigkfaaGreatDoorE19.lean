/- Parts of a proof, laid together: Ls, Cs, Cq, Mx. Each part says its own conditions. -/
import Derived.Shelf.SlGeneric
import Derived.Shelf.SlSortCmp.NoneTotal
import Derived.Ground.SlsfProg
import Derived.Test.YtmfkkkhddigkfaaGreatDoorProg
import Derived.Test.YtmfkkkhddigkfaaGreatDoorSb
import Derived.Test.YtmfkkkhddigkfaaGreatDoorE5
import Derived.Test.YtmfkkkhddigkfaaGreatDoorE13
/-
  DERIVED: THE SHELF's CONTRACTS AT THIS DUMP, IN PLAIN WORDS (tools/lay-plain.mjs out of 'YtmfkkkhddigkfaaGreatDoorLsAtHome.lean', which tools/lay-shelf.mjs wrote): THE SAME DECLARATIONS UNDER THE SAME NAMES: 'import', 'namespace', 'open', 'def', 'theorem' AND NOTHING ELSE: no command of the shelf's: FOR A HAND-IN. Each laying: the table of numbers ('.._ren') and one theorem, a field a fact of the dump's own or the kernel's comparison; each contract: ONE APPLICATION.
-/
namespace Go.Proofs
open Go.Shelf
def Tryz.sortS_ren : Go.Shelf.Ren := ⟨fun | 6 => 68 | 15 => 91 | 14 => 90 | 28 => 113 | 29 => 114 | 20 => 105 | 21 => 106 | 22 => 107 | 23 => 108 | 24 => 109 | 25 => 110 | 26 => 111 | 27 => 112 | 46 => 147 | 47 => 148 | 48 => 149 | 49 => 150 | 50 => 151 | 57 => 165 | n => n, fun | 22 => 66 | 24 => 51 | 25 => 112 | 3 => 3 | 39 => 145 | 0 => 0 | 53 => 168 | 55 => 49 | 4 => 4 | 46 => 162 | 45 => 161 | 50 => 101 | 5 => 5 | 9 => 9 | 66 => 182 | 70 => 186 | 76 => 197 | 77 => 198 | n => n, fun | n => n⟩
theorem Tryz.sortS : Go.Proofs.SlLaysF0.n6 Tryz.prog Tryz.sortS_ren := {
  mixed := by kernel_rfl
  f6 := ⟨Tryz.f68.name, by decide, Tryz.func68.trans (congrArg some (by kernel_rfl))⟩
  f14 := ⟨Tryz.f90.name, by decide, Tryz.func90.trans (congrArg some (by kernel_rfl))⟩
  f15 := Tryz.func91.trans (congrArg some (by kernel_rfl))
  f20 := ⟨Tryz.f105.name, by decide, Tryz.func105.trans (congrArg some (by kernel_rfl))⟩
  f21 := ⟨Tryz.f106.name, by decide, Tryz.func106.trans (congrArg some (by kernel_rfl))⟩
  f22 := ⟨Tryz.f107.name, by decide, Tryz.func107.trans (congrArg some (by kernel_rfl))⟩
  f23 := ⟨Tryz.f108.name, by decide, Tryz.func108.trans (congrArg some (by kernel_rfl))⟩
  f24 := ⟨Tryz.f109.name, by decide, Tryz.func109.trans (congrArg some (by kernel_rfl))⟩
  f25 := ⟨Tryz.f110.name, by decide, Tryz.func110.trans (congrArg some (by kernel_rfl))⟩
  f26 := ⟨Tryz.f111.name, by decide, Tryz.func111.trans (congrArg some (by kernel_rfl))⟩
  f27 := ⟨Tryz.f112.name, by decide, Tryz.func112.trans (congrArg some (by kernel_rfl))⟩
  f28 := Tryz.func113.trans (congrArg some (by kernel_rfl))
  f29 := Tryz.func114.trans (congrArg some (by kernel_rfl))
  f46 := ⟨Tryz.f147.name, by decide, Tryz.func147.trans (congrArg some (by kernel_rfl))⟩
  f47 := Tryz.func148.trans (congrArg some (by kernel_rfl))
  f48 := Tryz.func149.trans (congrArg some (by kernel_rfl))
  f49 := ⟨Tryz.f150.name, by decide, Tryz.func150.trans (congrArg some (by kernel_rfl))⟩
  f50 := ⟨Tryz.f151.name, by decide, Tryz.func151.trans (congrArg some (by kernel_rfl))⟩
  f57 := ⟨Tryz.f165.name, by decide, Tryz.func165.trans (congrArg some (by kernel_rfl))⟩
  t0 := Tryz.underlying0
  a0 := Tryz.isAgg0
  z0 := Tryz.sizeOf0
  v0 := Tryz.zeroValue0
  t3 := Tryz.underlying3
  a3 := Tryz.isAgg3
  z3 := Tryz.sizeOf3
  v3 := Tryz.zeroValue3
  t4 := Tryz.underlying4
  a4 := Tryz.isAgg4
  z4 := Tryz.sizeOf4
  v4 := Tryz.zeroValue4
  t5 := Tryz.underlying5
  a5 := Tryz.isAgg5
  z5 := Tryz.sizeOf5
  v5 := Tryz.zeroValue5
  t9 := Tryz.underlying9
  a9 := Tryz.isAgg9
  z9 := Tryz.sizeOf9
  v9 := Tryz.zeroValue9
  t22 := Tryz.underlying66
  a22 := Tryz.isAgg66
  z22 := Tryz.sizeOf66
  v22 := Tryz.zeroValue66
  t25 := Tryz.underlying112
  a25 := Tryz.isAgg112
  z25 := Tryz.sizeOf112
  v25 := Tryz.zeroValue112
  t39 := Tryz.underlying145
  a39 := Tryz.isAgg145
  z39 := Tryz.sizeOf145
  v39 := Tryz.zeroValue145
  t45 := Tryz.underlying161
  a45 := Tryz.isAgg161
  z45 := Tryz.sizeOf161
  v45 := Tryz.zeroValue161
  t46 := Tryz.underlying162
  a46 := Tryz.isAgg162
  z46 := Tryz.sizeOf162
  v46 := Tryz.zeroValue162
  t50 := Tryz.underlying101
  a50 := Tryz.isAgg101
  z50 := Tryz.sizeOf101
  v50 := Tryz.zeroValue101
  t53 := Tryz.underlying168
  a53 := Tryz.isAgg168
  z53 := Tryz.sizeOf168
  v53 := Tryz.zeroValue168
  t55 := Tryz.underlying49
  a55 := Tryz.isAgg49
  z55 := Tryz.sizeOf49
  v55 := Tryz.zeroValue49
  t66 := Tryz.underlying182
  a66 := Tryz.isAgg182
  z66 := Tryz.sizeOf182
  v66 := Tryz.zeroValue182
  t70 := Tryz.underlying186
  a70 := Tryz.isAgg186
  z70 := Tryz.sizeOf186
  v70 := Tryz.zeroValue186
  t76 := Tryz.underlying197
  a76 := Tryz.isAgg197
  z76 := Tryz.sizeOf197
  v76 := Tryz.zeroValue197
  t77 := Tryz.underlying198
  a77 := Tryz.isAgg198
  z77 := Tryz.sizeOf198
  v77 := Tryz.zeroValue198 }
end Go.Proofs
/- SETS COMPARED, and slices of sets sorted. Conditions: see each theorem. -/
namespace Go.Proofs.YtmfkkkhddigkfaaGreatDoor
open Go Go.RowKit Go.Sort
attribute [local go_sem] qUpon lUpon
attribute [local irreducible] wpO wpX wpQL

/-- the words below k compared, the highest first -/
def cmpW (N M : Nat) : Nat → Int
  | 0 => 0
  | k + 1 => if wdN N k < wdN M k then -1 else if wdN M k < wdN N k then 1 else cmpW N M k
def lowN (N k : Nat) : Nat := N % 2 ^ (64 * k)
theorem lowN_next (N k : Nat) : lowN N (k + 1) = wdN N k * 2 ^ (64 * k) + lowN N k := by
  unfold lowN wdN
  rw [show 64 * (k + 1) = 64 * k + 64 by omega, Nat.pow_add, Nat.mod_mul, Nat.shiftRight_eq_div_pow, Nat.add_comm, Nat.mul_comm]
theorem lowN_lt (N k : Nat) : lowN N k < 2 ^ (64 * k) := Nat.mod_lt _ (Nat.two_pow_pos _)
theorem mul_lt {a b p x y : Nat} (h : a < b) (hx : x < p) : a * p + x < b * p + y := by
  have h1 : (a + 1) * p ≤ b * p := Nat.mul_le_mul_right p h
  rw [Nat.add_mul, Nat.one_mul] at h1
  omega
theorem cmpW_eq (N M : Nat) : ∀ k, cmpW N M k = cmpI (lowN N k : Nat) (lowN M k : Nat)
  | 0 => by
    have h1 : lowN N 0 = 0 := by unfold lowN; rw [Nat.mul_zero, Nat.pow_zero, Nat.mod_one]
    have h2 : lowN M 0 = 0 := by unfold lowN; rw [Nat.mul_zero, Nat.pow_zero, Nat.mod_one]
    rw [h1, h2]; rfl
  | k + 1 => by
    have ih := cmpW_eq N M k
    have hx := lowN_lt N k
    have hy := lowN_lt M k
    unfold cmpW
    rw [lowN_next, lowN_next, ih]
    generalize lowN N k = x at *
    generalize lowN M k = y at *
    generalize 2 ^ (64 * k) = p at *
    generalize wdN N k = a at *
    generalize wdN M k = b at *
    unfold cmpI
    by_cases h1 : a < b
    · have := mul_lt (y := y) h1 hx
      rw [if_pos h1, if_pos (by omega)]
    · by_cases h2 : b < a
      · have := mul_lt (y := x) h2 hy
        rw [if_neg h1, if_pos h2, if_neg (by omega), if_pos (by omega)]
      · have : a = b := by omega
        subst this
        rw [if_neg h1, if_neg h1]
        generalize a * p = q
        have e1 : (((q + x : Nat) : Int) < ((q + y : Nat) : Int)) ↔ ((x : Int) < (y : Int)) := by omega
        have e2 : (((q + y : Nat) : Int) < ((q + x : Nat) : Int)) ↔ ((y : Int) < (x : Int)) := by omega
        by_cases h3 : (x : Int) < (y : Int)
        · rw [if_pos h3, if_pos (e1.2 h3)]
        · rw [if_neg h3, if_neg (fun h => h3 (e1.1 h))]
          by_cases h4 : (y : Int) < (x : Int)
          · rw [if_pos h4, if_pos (e2.2 h4)]
          · rw [if_neg h4, if_neg (fun h => h4 (e2.1 h))]
theorem cmpW_step {N M k : Nat} : cmpW N M (k + 1) = if cmpI (wd N k) (wd M k) = 0 then cmpW N M k else cmpI (wd N k) (wd M k) := by
  have e : cmpI (wd N k) (wd M k) = if wdN N k < wdN M k then -1 else if wdN M k < wdN N k then 1 else 0 := by
    unfold cmpI wd
    by_cases h1 : wdN N k < wdN M k
    · rw [if_pos h1, if_pos (by omega)]
    · rw [if_neg h1, if_neg (by omega)]
      by_cases h2 : wdN M k < wdN N k
      · rw [if_pos h2, if_pos (by omega)]
      · rw [if_neg h2, if_neg (by omega)]
  rw [e]
  show (if wdN N k < wdN M k then _ else _) = _
  by_cases h1 : wdN N k < wdN M k
  · rw [if_pos h1, if_pos h1, if_neg (by omega)]
  · rw [if_neg h1, if_neg h1]
    by_cases h2 : wdN M k < wdN N k
    · rw [if_pos h2, if_pos h2, if_neg (by omega)]
    · rw [if_neg h2, if_neg h2, if_pos rfl]
/-- the order of sets -/
def ltS (N M : Nat) : Prop := lowN N 16 < lowN M 16
theorem ltOf_S (x y : Nat) : ltOf (fun x y : Nat => cmpW x y 16) x y = true ↔ ltS x y := by
  unfold ltOf ltS
  show decide (cmpW x y 16 < 0) = true ↔ _
  rw [cmpW_eq]
  unfold cmpI
  simp only [decide_eq_true_eq]
  split
  · simp; omega
  · split <;> simp <;> omega
theorem swoS : SWO (ltOf fun x y : Nat => cmpW x y 16) where
  irrefl x := by
    rw [Bool.eq_false_iff]
    intro h
    have := (ltOf_S x x).1 h
    unfold ltS at this
    omega
  trans x y z h1 h2 := by
    rw [ltOf_S] at *
    unfold ltS at *
    omega
  ntrans x y z h1 h2 := by
    rw [Bool.eq_false_iff] at *
    simp only [ne_eq, ltOf_S] at *
    unfold ltS at *
    omega

theorem nanu_any (a : Int) (w : World) : Calls Tryz.prog 115 #[.int .u64 a] w fun e w' => e = .returned (.bool false) ∧ w' = w := by
  go_enter Tryz.func115, Tryz.ntmps115
  go_wp2
  go_ret
  exact ⟨rfl, rfl⟩
theorem cmpu_any (a b : Int) (w : World) : Calls Tryz.prog 92 #[.int .u64 a, .int .u64 b] w fun e w' => e = .returned (.int .i64 (cmpI a b)) ∧ w' = w := by
  go_enter Tryz.func92, Tryz.ntmps92
  go_wp2_with (go_at_call 115; refine (nanu_any _ _).mono ?_; rintro e w' ⟨rfl, rfl⟩)
  all_goals (go_ret; exact ⟨ret_int (by unfold cmpI; first | (rw [if_pos (by omega)]) | (rw [if_neg (by omega), if_pos (by omega)]) | (rw [if_neg (by omega), if_neg (by omega)])), rfl⟩)
theorem cmpI_rng (a b : Int) : -1 ≤ cmpI a b ∧ cmpI a b ≤ 1 := by
  unfold cmpI
  split
  · omega
  · split <;> omega

set_option maxRecDepth 100000 in
set_option maxHeartbeats 4000000 in
theorem cmpw_any (N M : Nat) (w : World) : Calls Tryz.prog 69 #[.agg (setC N), .agg (setC M)] w fun e w' => e = .returned (.int .i64 (cmpW N M 16)) ∧ Gr w w' := by
  obtain ⟨R, hR⟩ : ∃ R, R = cmpW N M 16 := ⟨_, rfl⟩
  rw [← hR]
  have hR' := hide hR
  clear hR
  have hB2 := hide ((Blk.new w 51 (setC N)).ext (ext_self1 _ (.cells (setC M) 51)))
  have hB3 := hide (Blk.new (w.alloc (.cells (setC N) 51)) 51 (setC M))
  have hx1 := hide (((Gr.refl w).alloc (.cells (setC N) 51)).alloc (.cells (setC M) 51))
  simp only [World.size_alloc] at hB3
  go_enter Tryz.func69, Tryz.ntmps69
  go_wp2_with fail
  generalize (w.alloc (.cells (setC N) 51)).alloc (.cells (setC M) 51) = W1 at *
  generalize w.heap.size + 1 = b3 at *
  generalize w.heap.size = b2 at *
  go_loopw [5] (fun i wr => ∃ k : Nat, k ≤ 16 ∧ i = .int .i64 ((k : Int) - 1) ∧ R = cmpW N M k ∧ Blk wr b2 51 (setC N) ∧ Blk wr b3 51 (setC M) ∧ Gr w wr) (fun i _ => (intOf i + 1).toNat)
  case atStart => exact ⟨16, Nat.le_refl _, rfl, unhide hR', unhide hB2, unhide hB3, unhide hx1⟩
  case round =>
    obtain ⟨k, hk, rfl, hRk, hB, hC, hx⟩ := hrel
    have hRk' := hide hRk
    have hB' := hide hB
    have hC' := hide hC
    have hx' := hide hx
    clear hB2 hB3 hx1 hRk
    cases k with
    | zero =>
      clear hB hC hx
      go_wp2_with fail
      go_ret
      exact ⟨ret_int (by rw [unhide hRk']; rfl), unhide hx'⟩
    | succ k =>
      have hk16 : k < 16 := by omega
      have hki : (k : Int) < 16 := by omega
      have c0 := hB.cells k (setC_get N hk16)
      have c1 := hC.cells k (setC_get M hk16)
      have hself := Ext.refl wr
      clear hB hC hx
      obtain ⟨z, hz⟩ : ∃ z, z = cmpI (wd N k) (wd M k) := ⟨_, rfl⟩
      have hz' := hide hz
      have e1 : ((k + 1 : Nat) : Int) - 1 = (k : Int) := by omega
      rw [e1]
      clear hz e1
      go_wp2_with fail
      refine wp_region_ql (P := Tryz.prog) (fun a b => b = a) (Gr wr) [0, 1, 2, 3, 4, 5, 6, 7] [] 0 #[true, true, true, true, true, true, true, true] (by kernel_rfl) (by kernel_rfl) rfl (by rfl) (fun _ => rfl) (fun _ _ _ h1 h2 => h2.trans h1) (fun _ _ h e => by rw [e]; exact h) (Gr.refl wr).drew ?_
      have c0' : ∀ W, Gr wr W → W.cell? ⟨b2, k, none⟩ = some (.int .u64 (wd N k)) := fun W h => c0 W h.ext
      have c1' : ∀ W, Gr wr W → W.cell? ⟨b3, k, none⟩ = some (.int .u64 (wd M k)) := fun W h => c1 W h.ext
      clear c0 c1 hself
      iterate 8
        refine ql_want (v := ?_) rfl (by rfl) (fun W hW => ?_) ?_
        rotate_left
        · go_simp
          first | done | rfl | (go_at_call 92; refine (cmpu_any _ _ _).mono ?_; rintro _ _ ⟨h1, h2⟩; refine ⟨_, h1, ?_, h2⟩; rfl)
        go_frame
      refine wpQL_nil (fun w3 hx3 => ?_)
      refine wpX_done (by kernel_rfl) ?_
      try go_frame
      have hx3' := hide ((unhide hx').trans hx3)
      have hB3 := hide ((unhide hB').ext hx3.ext)
      have hC3 := hide ((unhide hC').ext hx3.ext)
      rw [← unhide hz']
      have hst : cmpW N M (k + 1) = if z = 0 then cmpW N M k else z := by rw [unhide hz']; exact cmpW_step
      have hst' := hide hst
      clear c0' c1' hx3 hst hx' hB' hC'
      by_cases hz0 : z = 0
      · subst hz0
        have hw : IntKind.i64.wrap ((k : Int) - 1) = (k : Int) - 1 := IntWalk.i64_in _ (by omega)
        go_wp2_with fail
        go_roundw
        case rel => exact ⟨k, by omega, by first | rfl | go_num, by rw [unhide hRk', unhide hst', if_pos rfl], unhide hB3, unhide hC3, unhide hx3'⟩
        case measure => first | (simp [intOf]; done) | (simp [intOf]; omega)
      · have hzn : (z != 0) = true := by simp [hz0]
        replace hz0 := hide hz0
        go_wp2_with fail
        go_ret
        exact ⟨ret_int (by rw [unhide hRk', unhide hst', if_neg (unhide hz0)]), unhide hx3'⟩
end Go.Proofs.YtmfkkkhddigkfaaGreatDoor
/- MAXIMAL CLIQUES as the reference finds them, plain. No program in sight. Conditions: see each theorem. -/
namespace Go.Proofs.YtmfkkkhddigkfaaGreatDoor
open Go

/-- all subsets, in the order of sets -/
def subsR (l : List Int) : List (List Int) := l.foldl (fun out x => out ++ out.map fun K => K ++ [x]) [[]]
theorem subsR_snoc (l : List Int) (x : Int) : subsR (l ++ [x]) = subsR l ++ (subsR l).map fun K => K ++ [x] := by
  unfold subsR
  rw [List.foldl_append]; rfl
theorem mem_subsR {K : List Int} (l : List Int) : K ∈ subsR l ↔ K.Sublist l := by
  suffices h : ∀ (m : List Int) (K : List Int), K ∈ subsR m.reverse ↔ K.Sublist m.reverse by
    have := h l.reverse K
    rwa [List.reverse_reverse] at this
  intro m
  induction m with
  | nil => intro K; simp [subsR]
  | cons x m ih =>
    intro K
    rw [List.reverse_cons, subsR_snoc, List.mem_append, ih, List.mem_map, List.sublist_append_iff]
    constructor
    · rintro (h | ⟨K', h, rfl⟩)
      · exact ⟨K, [], by simp, h, List.nil_sublist _⟩
      · exact ⟨K', [x], rfl, (ih K').1 h, List.Sublist.refl _⟩
    · rintro ⟨l1, l2, rfl, h1, h2⟩
      have h3 : l2 = [] ∨ l2 = [x] := by
        cases h2 with
        | cons _ h => left; exact List.sublist_nil.1 h
        | cons_cons _ h => right; rw [List.sublist_nil.1 h]
      rcases h3 with rfl | rfl
      · left; simpa using h1
      · right; exact ⟨l1, (ih l1).2 h1, rfl⟩
theorem subsR_len (l : List Int) : (subsR l).length = 2 ^ l.length := by
  suffices h : ∀ m : List Int, (subsR m.reverse).length = 2 ^ m.length by
    have := h l.reverse
    rwa [List.reverse_reverse, List.length_reverse] at this
  intro m
  induction m with
  | nil => rfl
  | cons x m ih =>
    rw [List.reverse_cons, subsR_snoc, List.length_append, List.length_map, ih, List.length_cons, Nat.pow_succ]
    omega
section
open Classical
/-- a maximal clique -/
def MaxR (V : List (Int × Thing)) (E : List ((Int × Int) × Thing)) (K : List Int) : Prop := K ≠ [] ∧ ClqR V E K ∧ ∀ v ∈ V.map (·.1), v ∈ K ∨ ¬ ClqR V E (K ++ [v])
noncomputable def cliquesR (V : List (Int × Thing)) (E : List ((Int × Int) × Thing)) : List (List Int) := (subsR (V.map (·.1))).filter fun K => decide (MaxR V E K)
variable {V : List (Int × Thing)} {E : List ((Int × Int) × Thing)}
theorem mem_cliques {K : List Int} : K ∈ cliquesR V E ↔ K.Sublist (V.map (·.1)) ∧ MaxR V E K := by
  unfold cliquesR
  rw [List.mem_filter, mem_subsR, decide_eq_true_eq]
theorem clq_snoc (hi : GInv V E) {K : List Int} (hn : K.Nodup) (hm : ∀ x ∈ K, x ∈ V.map (·.1)) (hc : Clq E K) {v : Int} (hv : v ∈ V.map (·.1)) (hvk : v ∉ K) : ClqR V E (K ++ [v]) ↔ ∀ x ∈ K, hasE x v E = true := by
  rw [clqR_any hi]
  constructor
  · rintro ⟨_, _, h⟩ x hx
    exact h x (by simp [hx]) v (by simp) (fun e => hvk (e ▸ hx))
  · intro h
    refine ⟨List.nodup_append.2 ⟨hn, by simp, fun a ha b hb e => ?_⟩, fun x hx => ?_, fun x hx y hy hne => ?_⟩
    · rw [List.mem_singleton] at hb
      exact hvk (hb ▸ e ▸ ha)
    · rcases List.mem_append.1 hx with hx | hx
      · exact hm x hx
      · rw [List.mem_singleton] at hx; rw [hx]; exact hv
    · rcases List.mem_append.1 hx with hx | hx
      · rcases List.mem_append.1 hy with hy | hy
        · exact hc x hx y hy hne
        · rw [List.mem_singleton] at hy; rw [hy]; exact h x hx
      · rw [List.mem_singleton] at hx
        rcases List.mem_append.1 hy with hy | hy
        · rw [hx]; exact hasE_symm (h y hy)
        · rw [List.mem_singleton] at hy
          exact absurd (hx.trans hy.symm) hne
/-- every clique lies in a maximal one -/
theorem clique_in (hi : GInv V E) : ∀ (n : Nat) (K : List Int), (V.map (·.1)).length ≤ K.length + n → K ≠ [] → K.Nodup → (∀ x ∈ K, x ∈ V.map (·.1)) → Clq E K → ∃ M ∈ cliquesR V E, ∀ x ∈ K, x ∈ M
  | n, K, hl, hne, hn, hm, hc => by
    by_cases hex : ∃ v ∈ V.map (·.1), v ∉ K ∧ ∀ x ∈ K, hasE x v E = true
    · obtain ⟨v, hv, hvk, hx⟩ := hex
      have h1 := (clqR_any hi).1 ((clq_snoc hi hn hm hc hv hvk).2 hx)
      cases n with
      | zero =>
        have := len_le_sub (K ++ [v]) (V.map (·.1)) h1.1 h1.2.1
        rw [List.length_append, List.length_singleton] at this
        omega
      | succ n =>
        obtain ⟨M, hM, hs⟩ := clique_in hi n (K ++ [v]) (by rw [List.length_append, List.length_singleton]; omega) (by simp) h1.1 h1.2.1 h1.2.2
        exact ⟨M, hM, fun x hx => hs x (by simp [hx])⟩
    · have hIn := sv_nodup hi.sv
      have hmem : ∀ x, x ∈ (V.map (·.1)).filter (fun x => decide (x ∈ K)) ↔ x ∈ K := fun x => by
        rw [List.mem_filter, decide_eq_true_eq]
        exact ⟨fun h => h.2, fun h => ⟨hm x h, h⟩⟩
      refine ⟨(V.map (·.1)).filter (fun x => decide (x ∈ K)), mem_cliques.2 ⟨List.filter_sublist, ?_, ?_, ?_⟩, fun x hx => (hmem x).2 hx⟩
      · obtain ⟨x, hx⟩ := List.exists_mem_of_ne_nil K hne
        exact List.ne_nil_of_mem ((hmem x).2 hx)
      · exact (clqR_any hi).2 ⟨hIn.filter _, fun x hx => (List.mem_filter.1 hx).1, fun x hx y hy => hc x ((hmem x).1 hx) y ((hmem y).1 hy)⟩
      · intro v hv
        rw [hmem]
        by_cases hvk : v ∈ K
        · exact .inl hvk
        · right
          intro h
          have h2 := (clq_snoc hi (hIn.filter _) (fun x hx => (List.mem_filter.1 hx).1) (fun x hx y hy => hc x ((hmem x).1 hx) y ((hmem y).1 hy)) hv (fun h => hvk ((hmem v).1 h))).1 h
          exact hex ⟨v, hv, hvk, fun x hx => h2 x ((hmem x).2 hx)⟩
/-- the size of the largest clique -/
noncomputable def mostR (V : List (Int × Thing)) (E : List ((Int × Int) × Thing)) : Int := (cliquesR V E).foldl (fun m K => max m (K.length : Int)) 0
theorem fold_len_ge : ∀ (l : List (List Int)) (m : Int), m ≤ l.foldl (fun m K => max m (K.length : Int)) m ∧ ∀ K ∈ l, (K.length : Int) ≤ l.foldl (fun m K => max m (K.length : Int)) m
  | [], m => ⟨Int.le_refl _, fun x hx => by cases hx⟩
  | a :: r, m => by
    obtain ⟨h1, h2⟩ := fold_len_ge r (max m (a.length : Int))
    rw [List.foldl_cons]
    refine ⟨by omega, fun K hK => ?_⟩
    rcases List.mem_cons.1 hK with rfl | hK
    · omega
    · exact h2 K hK
theorem fold_len_le {c : Int} : ∀ (l : List (List Int)) (m : Int), m ≤ c → (∀ K ∈ l, (K.length : Int) ≤ c) → l.foldl (fun m K => max m (K.length : Int)) m ≤ c
  | [], m, h, _ => h
  | a :: r, m, h, h2 => by
    rw [List.foldl_cons]
    have := h2 a (by simp)
    exact fold_len_le r _ (by omega) (fun K hK => h2 K (by simp [hK]))
/-- as many colors as the largest clique has vertices -/
theorem most_col (hi : GInv V E) {o : List Int} (hn : o.Nodup) (hm : ∀ x, x ∈ o ↔ x ∈ V.map (·.1)) (hp : Peo E o) : mostR V E = (colS E o).2 := by
  have h1 : mostR V E ≤ (colS E o).2 := fold_len_le _ _ (colS_inv hi o hn).many fun K hK => by
    obtain ⟨hs, _, hc, _⟩ := mem_cliques.1 hK
    obtain ⟨h1, h2, h3⟩ := (clqR_any hi).1 hc
    exact clique_col hi hn h1 (fun x hx => (hm x).2 (h2 x hx)) h3
  obtain ⟨K, k1, k2, k3, k4⟩ := col_clique hi o hn hp
  have h2 := fold_len_ge (cliquesR V E) 0
  have h3 : (colS E o).2 ≤ mostR V E := by
    by_cases hK : K = []
    · subst hK
      have : (0 : Int) ≤ mostR V E := h2.1
      simp at k4
      omega
    · obtain ⟨M, hM, hs⟩ := clique_in hi (V.map (·.1)).length K (by omega) hK k1 (fun x hx => (hm x).1 (k2 x hx)) k3
      have h5 := len_le_sub K M k1 hs
      have h6 := h2.2 M hM
      unfold mostR
      omega
  omega
end
end Go.Proofs.YtmfkkkhddigkfaaGreatDoor
/- THE MAXIMAL CLIQUES as package chordal finds them are the reference's, plain. No program in sight. Conditions: see each theorem. -/
namespace Go.Proofs.YtmfkkkhddigkfaaGreatDoor
open Go

variable {V : List (Int × Thing)} {E : List ((Int × Int) × Thing)}
/-- a set below 2^1024 is told by its elements -/
def InR (c : Nat) : Prop := ∀ k, 1024 ≤ k → c.testBit k = false
theorem InR.ext {c d : Nat} (hc : InR c) (hd : InR d) (h : ∀ x, x ∈ toL c ↔ x ∈ toL d) : c = d := by
  refine Nat.eq_of_testBit_eq fun k => ?_
  by_cases hk : k < 1024
  · have h1 := h (k : Int)
    rw [mem_toL', mem_toL', Int.toNat_natCast] at h1
    cases hc1 : c.testBit k <;> cases hd1 : d.testBit k <;> simp [hc1, hd1] at h1 ⊢ <;> omega
  · rw [hc k (by omega), hd k (by omega)]
theorem InR.from (l : List Int) : InR (fromS l) := fun k hk => by
  rw [fromS_bit, show decide (k < 1024) = false from decide_eq_false (by omega), Bool.false_and]
theorem InR.with {c : Nat} (h : InR c) (v : Int) : InR (withS c v) := fun k hk => by
  rw [withS_bit, h k hk, show decide (k < 1024) = false from decide_eq_false (by omega), Bool.false_and, Bool.false_or]
theorem InR.near (v : Int) (E : List ((Int × Int) × Thing)) : InR (nearS v E) := by rw [nearS_eq]; exact InR.from _
theorem InR.and {c d : Nat} (h : InR c) : InR (c &&& d) := fun k hk => by rw [Nat.testBit_and, h k hk, Bool.false_and]
theorem InR.lt {c : Nat} (h : InR c) {K : Nat} (hK : K = 1024) : c < 2 ^ K := by
  exact Nat.lt_pow_two_of_testBit c fun k hk => h k (by omega)
theorem mem_with {c : Nat} {v x : Int} (hv : 0 ≤ v ∧ v < 1024) : x ∈ toL (withS c v) ↔ x = v ∨ x ∈ toL c := by
  rw [mem_toL', mem_toL', withS_bit]
  constructor
  · rintro ⟨h1, h2, h3⟩
    rw [Bool.or_eq_true, Bool.and_eq_true, decide_eq_true_eq, decide_eq_true_eq] at h3
    rcases h3 with h3 | ⟨_, h3⟩
    · exact .inr ⟨h1, h2, h3⟩
    · left; omega
  · rintro (rfl | ⟨h1, h2, h3⟩)
    · refine ⟨hv.1, hv.2, ?_⟩
      rw [Bool.or_eq_true, Bool.and_eq_true, decide_eq_true_eq, decide_eq_true_eq]
      right; omega
    · exact ⟨h1, h2, by rw [h3, Bool.true_or]⟩
/-- each vertex with its later neighbors -/
def allC (E : List ((Int × Int) × Thing)) : List Int → Nat → List Nat
  | [], _ => []
  | v :: o, N => withS (nearS v E &&& withoutS N v) v :: allC E o (withoutS N v)
theorem allC_len (E : List ((Int × Int) × Thing)) : ∀ (o : List Int) (N : Nat), (allC E o N).length = o.length
  | [], _ => rfl
  | v :: o, N => by unfold allC; rw [List.length_cons, List.length_cons, allC_len E o]
theorem allC_inR (E : List ((Int × Int) × Thing)) : ∀ (o : List Int) (N : Nat), ∀ c ∈ allC E o N, InR c
  | [], _, c, h => by cases h
  | v :: o, N, c, h => by
    unfold allC at h
    rcases List.mem_cons.1 h with rfl | h
    · exact ((InR.near v E).and).with v
    · exact allC_inR E o _ c h
theorem allC_mem (hi : GInv V E) (o : List Int) : ∀ (N : Nat), o.Nodup → (∀ x ∈ o, 0 ≤ x ∧ x < 1024) → (∀ x, x ∈ toL N ↔ x ∈ o) → ∀ (k : Nat) (h : k < o.length) (h2 : k < (allC E o N).length) (x : Int), x ∈ toL (allC E o N)[k] ↔ x = o[k] ∨ (x ∈ o.drop (k + 1) ∧ hasE o[k] x E = true) := by
  induction o with
  | nil => intro _ _ _ _ k h; simp at h
  | cons v o ih =>
    intro N hn hr hm k h h2 x
    obtain ⟨hn1, hn2⟩ := List.nodup_cons.1 hn
    have hm2 : ∀ x, x ∈ toL (withoutS N v) ↔ x ∈ o := fun x => by
      rw [mem_without, hm, List.mem_cons]
      constructor
      · rintro ⟨h1 | h1, h2⟩
        · exact absurd h1 h2
        · exact h1
      · intro h; exact ⟨.inr h, fun e => hn1 (e ▸ h)⟩
    cases k with
    | zero =>
      show x ∈ toL (withS (nearS v E &&& withoutS N v) v) ↔ x = v ∨ (x ∈ (v :: o).drop 1 ∧ hasE v x E = true)
      rw [mem_with (hr v (by simp)), mem_and, mem_near hi, hm2, List.drop_one, List.tail_cons]
      exact or_congr Iff.rfl And.comm
    | succ k =>
      have ih := ih (withoutS N v) hn2 (fun x hx => hr x (by simp [hx])) hm2 k (by simpa using h) (by simpa [allC] using h2) x
      simpa [allC] using ih
/-- the sets that lie in no other of the list -/
def innerS (l : List Nat) (i : Nat) : Bool := (List.range l.length).any fun k => decide (i ≠ k) && subS (l.getD i 0) (l.getD k 0)
def outC (l : List Nat) : List Nat := ((List.range l.length).filter fun i => !innerS l i).map (l.getD · 0)
theorem getD_get {l : List Nat} {i : Nat} (h : i < l.length) : l.getD i 0 = l[i] := by simp [List.getD, h]
theorem mem_outC {l : List Nat} {c : Nat} : c ∈ outC l ↔ ∃ (i : Nat) (h : i < l.length), l[i] = c ∧ ∀ (k : Nat) (h2 : k < l.length), i ≠ k → subS l[i] l[k] = false := by
  unfold outC
  rw [List.mem_map]
  constructor
  · rintro ⟨i, hi, rfl⟩
    obtain ⟨h1, h2⟩ := List.mem_filter.1 hi
    have h1 := List.mem_range.1 h1
    refine ⟨i, h1, (getD_get h1).symm, fun k hk hne => ?_⟩
    rw [Bool.not_eq_true', innerS, List.any_eq_false] at h2
    have h3 := h2 k (List.mem_range.2 hk)
    rw [getD_get h1, getD_get hk, decide_eq_true hne, Bool.true_and, Bool.not_eq_true] at h3
    exact h3
  · rintro ⟨i, h, rfl, h2⟩
    refine ⟨i, List.mem_filter.2 ⟨List.mem_range.2 h, ?_⟩, getD_get h⟩
    rw [Bool.not_eq_true', innerS, List.any_eq_false]
    intro k hk
    have hk := List.mem_range.1 hk
    rw [getD_get h, getD_get hk]
    by_cases hne : i ≠ k
    · rw [h2 k hk hne]; simp
    · simp [hne]
theorem sub_refl (c : Nat) : subS c c = true := subS_iff.2 fun _ h => h
theorem outC_nodup (l : List Nat) : (outC l).Nodup := by
  unfold outC
  rw [List.Nodup, List.pairwise_map]
  have h : ((List.range l.length).filter fun i => !innerS l i).Pairwise (fun a b => a ≠ b) := (List.nodup_range).filter _
  refine List.Pairwise.imp_of_mem (fun {a b} ha hb hne he => ?_) h
  obtain ⟨a1, a2⟩ := List.mem_filter.1 ha
  have a1 := List.mem_range.1 a1
  have b1 := List.mem_range.1 (List.mem_filter.1 hb).1
  rw [Bool.not_eq_true', innerS, List.any_eq_false] at a2
  have h3 := a2 b (List.mem_range.2 b1)
  rw [← he, decide_eq_true hne, Bool.true_and, sub_refl] at h3
  exact h3 rfl
theorem drop_tail {o : List Int} : ∀ {k : Nat} (h : k < o.length), o.drop k = o[k] :: o.drop (k + 1) := fun h => List.drop_eq_getElem_cons h
theorem peo_at : ∀ {o : List Int}, Peo E o → ∀ (k : Nat) (h : k < o.length), Smp E o[k] (o.drop (k + 1))
  | [], _, k, h => by simp at h
  | v :: o, hp, 0, h => by simpa using hp.1
  | v :: o, hp, k + 1, h => by simpa using peo_at hp.2 k (by simpa using h)
/-- such a set is a clique -/
theorem allC_clq (hi : GInv V E) {o : List Int} {N : Nat} (hn : o.Nodup) (hr : ∀ x ∈ o, 0 ≤ x ∧ x < 1024) (hm : ∀ x, x ∈ toL N ↔ x ∈ o) (hp : Peo E o) {k : Nat} (h : k < o.length) (h2 : k < (allC E o N).length) : Clq E (toL (allC E o N)[k]) := by
  intro x hx y hy hne
  have hx := (allC_mem hi o N hn hr hm k h h2 x).1 hx
  have hy := (allC_mem hi o N hn hr hm k h h2 y).1 hy
  rcases hx with rfl | ⟨h3, h4⟩
  · rcases hy with rfl | ⟨h5, h6⟩
    · exact absurd rfl hne
    · exact h6
  · rcases hy with rfl | ⟨h5, h6⟩
    · exact hasE_symm h4
    · exact peo_at hp k h x h3 y h5 h4 h6 hne
theorem first_in {P : Int → Prop} : ∀ (o : List Int), (∃ x ∈ o, P x) → ∃ (k : Nat) (h : k < o.length), P o[k] ∧ ∀ x ∈ o, P x → x = o[k] ∨ x ∈ o.drop (k + 1)
  | [], ⟨x, hx, _⟩ => by cases hx
  | v :: o, ⟨x, hx, hP⟩ => by
    by_cases hv : P v
    · exact ⟨0, by simp, hv, fun y hy _ => by simpa using hy⟩
    · have hx : x ∈ o := by
        rcases List.mem_cons.1 hx with rfl | h
        · exact absurd hP hv
        · exact h
      obtain ⟨k, h, h1, h2⟩ := first_in o ⟨x, hx, hP⟩
      refine ⟨k + 1, by simpa using h, by simpa using h1, fun y hy hPy => ?_⟩
      rcases List.mem_cons.1 hy with rfl | hy
      · exact absurd hPy hv
      · simpa using h2 y hy hPy
/-- each clique lies in one of them -/
theorem clq_in (hi : GInv V E) {o : List Int} {N : Nat} (hn : o.Nodup) (hr : ∀ x ∈ o, 0 ≤ x ∧ x < 1024) (hm : ∀ x, x ∈ toL N ↔ x ∈ o) {K : List Int} (hK : K ≠ []) (hs : ∀ x ∈ K, x ∈ o) (hc : Clq E K) : ∃ (k : Nat) (h1 : k < o.length) (h2 : k < (allC E o N).length), o[k] ∈ K ∧ ∀ x ∈ K, x ∈ toL (allC E o N)[k] := by
  obtain ⟨y, hy⟩ := List.exists_mem_of_ne_nil K hK
  obtain ⟨k, h, h1, h2⟩ := first_in (P := fun x => x ∈ K) o ⟨y, hs y hy, hy⟩
  have h3 : k < (allC E o N).length := by rw [allC_len]; exact h
  refine ⟨k, h, h3, h1, fun x hx => (allC_mem hi o N hn hr hm k h h3 x).2 ?_⟩
  rcases h2 x (hs x hx) hx with e | h4
  · exact .inl e
  · by_cases e : x = o[k]
    · exact .inl e
    · exact .inr ⟨h4, hc _ h1 _ hx (fun e2 => e e2.symm)⟩
theorem drop_not {o : List Int} (hn : o.Nodup) {i k : Nat} (hi : i < o.length) (hk : i ≤ k) : o[i] ∉ o.drop (k + 1) := fun hm => by
  obtain ⟨j, hj, he⟩ := List.getElem_of_mem hm
  rw [List.getElem_drop] at he
  have hj2 : k + 1 + j < o.length := by rw [List.length_drop] at hj; omega
  have := (List.getElem_inj hn).1 he
  omega
theorem allC_sub_ne (hi : GInv V E) {o : List Int} {N : Nat} (hn : o.Nodup) (hr : ∀ x ∈ o, 0 ≤ x ∧ x < 1024) (hm : ∀ x, x ∈ toL N ↔ x ∈ o) {i k : Nat} (h1 : i < o.length) (h2 : k < o.length) (h3 : i < (allC E o N).length) (h4 : k < (allC E o N).length) (hne : i ≠ k) (he : ∀ x, x ∈ toL (allC E o N)[i] ↔ x ∈ toL (allC E o N)[k]) : False := by
  rcases Nat.lt_or_gt_of_ne hne with h | h
  · have h5 := (allC_mem hi o N hn hr hm k h2 h4 o[i]).1 ((he o[i]).1 ((allC_mem hi o N hn hr hm i h1 h3 o[i]).2 (.inl rfl)))
    rcases h5 with h5 | ⟨h5, _⟩
    · exact hne ((List.getElem_inj hn).1 h5)
    · exact drop_not hn h1 (by omega) h5
  · have h5 := (allC_mem hi o N hn hr hm i h1 h3 o[k]).1 ((he o[k]).2 ((allC_mem hi o N hn hr hm k h2 h4 o[k]).2 (.inl rfl)))
    rcases h5 with h5 | ⟨h5, _⟩
    · exact hne ((List.getElem_inj hn).1 h5).symm
    · exact drop_not hn h2 (by omega) h5
theorem sub_sorted {l : List Int} (hl : l.Pairwise (· < ·)) {K : List Int} (hk : K.Pairwise (· < ·)) (hs : ∀ x ∈ K, x ∈ l) : K.Sublist l := by
  have h : K = l.filter fun x => decide (x ∈ K) := sorted_ext hk (hl.filter _) fun x => by
    rw [List.mem_filter, decide_eq_true_eq]
    exact ⟨fun h => ⟨hs x h, h⟩, fun h => h.2⟩
  rw [h]
  exact List.filter_sublist
/-- what is left is what the reference finds -/
theorem mem_outC_cliques (hi : GInv V E) {o : List Int} {N : Nat} (hn : o.Nodup) (ho : ∀ x, x ∈ o ↔ x ∈ V.map (·.1)) (hm : ∀ x, x ∈ toL N ↔ x ∈ o) (hp : Peo E o) {c : Nat} : c ∈ outC (allC E o N) ↔ ∃ K ∈ cliquesR V E, fromS K = c := by
  have hr : ∀ x ∈ o, 0 ≤ x ∧ x < 1024 := fun x hx => ids_rng hi ((ho x).1 hx)
  have hsV := sv_map.1 hi.sv
  rw [mem_outC]
  constructor
  · rintro ⟨i, h, rfl, hmax⟩
    have h1 : i < o.length := by rw [allC_len] at h; exact h
    have hin := allC_mem hi o N hn hr hm i h1 h
    have hsub : ∀ x ∈ toL (allC E o N)[i], x ∈ o := fun x hx => by
      rcases (hin x).1 hx with rfl | ⟨h2, _⟩
      · exact List.getElem_mem h1
      · exact (List.drop_sublist _ _).subset h2
    have hc := allC_clq hi hn hr hm hp h1 h
    refine ⟨toL (allC E o N)[i], mem_cliques.2 ⟨sub_sorted hsV (toL_sorted _) fun x hx => (ho x).1 (hsub x hx), ?_, ?_, ?_⟩, ?_⟩
    · intro e
      have := (hin o[i]).2 (.inl rfl)
      rw [e] at this
      cases this
    · exact (clqR_any hi).2 ⟨toL_nodup _, fun x hx => (ho x).1 (hsub x hx), hc⟩
    · intro v hv
      by_cases hvc : v ∈ toL (allC E o N)[i]
      · exact .inl hvc
      · refine .inr fun hbig => ?_
        obtain ⟨b1, b2, b3⟩ := (clqR_any hi).1 hbig
        obtain ⟨k, hk, hk2, _, hsk⟩ := clq_in (N := N) hi hn hr hm (by simp) (fun x hx => (ho x).2 (b2 x hx)) b3
        by_cases hik : i = k
        · subst hik
          exact hvc (hsk v (by simp))
        · have := hmax k hk2 hik
          rw [subS_iff.2 fun x hx => hsk x (by simp [hx])] at this
          cases this
    · refine InR.ext (InR.from _) (allC_inR E o N _ (List.getElem_mem h)) fun x => ?_
      rw [mem_from]
      constructor
      · rintro ⟨_, _, h⟩; exact h
      · intro h; exact ⟨(hr x (hsub x h)).1, (hr x (hsub x h)).2, h⟩
  · rintro ⟨K, hK, rfl⟩
    obtain ⟨hs, hne, hcl, hmx⟩ := mem_cliques.1 hK
    obtain ⟨k1, k2, k3⟩ := (clqR_any hi).1 hcl
    obtain ⟨k, hk, hk2, _, hsk⟩ := clq_in (N := N) hi hn hr hm hne (fun x hx => (ho x).2 (k2 x hx)) k3
    have hin := allC_mem hi o N hn hr hm k hk hk2
    -- any larger clique of the kind is the same
    have hall : ∀ (j : Nat) (hj : j < o.length) (hj2 : j < (allC E o N).length), (∀ x ∈ K, x ∈ toL (allC E o N)[j]) → ∀ x ∈ toL (allC E o N)[j], x ∈ K := by
      intro j hj hj2 hsj x hx
      have hxo : x ∈ o := by
        rcases (allC_mem hi o N hn hr hm j hj hj2 x).1 hx with rfl | ⟨h2, _⟩
        · exact List.getElem_mem hj
        · exact (List.drop_sublist _ _).subset h2
      rcases hmx x ((ho x).1 hxo) with h | h
      · exact h
      · by_cases hxK : x ∈ K
        · exact hxK
        · exact absurd ((clq_snoc hi k1 k2 k3 ((ho x).1 hxo) hxK).2 fun y hy => allC_clq hi hn hr hm hp hj hj2 y (hsj y hy) x hx (fun e => hxK (e ▸ hy))) h
    refine ⟨k, hk2, ?_, fun j hj2 hne2 => ?_⟩
    · refine InR.ext (allC_inR E o N _ (List.getElem_mem hk2)) (InR.from _) fun x => ?_
      rw [mem_from]
      constructor
      · intro h
        have h2 := hall k hk hk2 hsk x h
        have h3 := ids_rng hi (k2 x h2)
        exact ⟨h3.1, h3.2, h2⟩
      · rintro ⟨_, _, h⟩; exact hsk x h
    · have hj : j < o.length := by rw [allC_len] at hj2; exact hj2
      rw [Bool.eq_false_iff]
      intro hsub
      have hsub := subS_iff.1 hsub
      exact allC_sub_ne hi hn hr hm hk hj hk2 hj2 hne2 fun x => ⟨hsub x, fun hx => hsk x (hall j hj hj2 (fun y hy => hsub y (hsk y hy)) x hx)⟩
theorem fromS_snoc (K : List Int) (x : Int) : fromS (K ++ [x]) = withS (fromS K) x := by unfold fromS; rw [List.foldl_append]; rfl
theorem fromS_small {K : List Int} {n : Nat} (h : ∀ x ∈ K, 0 ≤ x ∧ x < n) : fromS K < 2 ^ n := by
  refine Nat.lt_pow_two_of_testBit _ fun k hk => ?_
  rw [fromS_bit]
  by_cases hm : (k : Int) ∈ K
  · have := h _ hm
    omega
  · simp [hm]
theorem withS_add {c n : Nat} (hc : c < 2 ^ n) (hn : n < 1024) : withS c (n : Int) = c + 2 ^ n := by
  unfold withS
  rw [if_pos (by unfold fitB; simp; omega), Int.toNat_natCast, Nat.or_comm, show (2 : Nat) ^ n = 2 ^ n * 1 from (Nat.mul_one _).symm, ← Nat.two_pow_add_eq_or_of_lt hc, Nat.mul_one, Nat.add_comm]
/-- the subsets come in the order of sets -/
theorem subsR_sorted (l : List Int) (hl : l.Pairwise (· < ·)) (hr : ∀ x ∈ l, 0 ≤ x ∧ x < 1024) : ((subsR l).map fromS).Pairwise (· < ·) := by
  suffices h : ∀ m : List Int, m.reverse.Pairwise (· < ·) → (∀ x ∈ m, 0 ≤ x ∧ x < 1024) → ((subsR m.reverse).map fromS).Pairwise (· < ·) by
    have := h l.reverse
    rw [List.reverse_reverse] at this
    exact this hl fun x hx => hr x (List.mem_reverse.1 hx)
  intro m
  induction m with
  | nil => intro _ _; simp [subsR]
  | cons x m ih =>
    intro hs hr
    rw [List.reverse_cons] at hs ⊢
    obtain ⟨h1, _, h3⟩ := List.pairwise_append.1 hs
    obtain ⟨n, rfl⟩ : ∃ n : Nat, x = (n : Int) := ⟨x.toNat, by have := hr x (by simp); omega⟩
    have hn : n < 1024 := by have := hr n (by simp); omega
    have ih := ih h1 fun y hy => hr y (by simp [hy])
    have hlt : ∀ K ∈ subsR m.reverse, fromS K < 2 ^ n := fun K hK => fromS_small fun y hy => by
      have hy := ((mem_subsR _).1 hK).subset hy
      have := h3 y hy n (by simp)
      have := hr y (by simp [List.mem_reverse.1 hy])
      omega
    rw [subsR_snoc, List.map_append, List.map_map]
    have e : ∀ K ∈ subsR m.reverse, fromS (K ++ [(n : Int)]) = fromS K + 2 ^ n := fun K hK => by rw [fromS_snoc, withS_add (hlt K hK) hn]
    refine List.pairwise_append.2 ⟨ih, ?_, ?_⟩
    · rw [List.pairwise_map] at ih ⊢
      refine List.Pairwise.imp_of_mem (fun {a b} ha hb hab => ?_) ih
      show fromS (a ++ [(n : Int)]) < fromS (b ++ [(n : Int)])
      rw [e a ha, e b hb]
      omega
    · intro a ha b hb
      obtain ⟨a', ha', rfl⟩ := List.mem_map.1 ha
      obtain ⟨b', hb', rfl⟩ := List.mem_map.1 hb
      have := hlt a' ha'
      show fromS a' < fromS (b' ++ [(n : Int)])
      rw [e b' hb']
      omega
theorem cliques_sorted (hi : GInv V E) : ((cliquesR V E).map fromS).Pairwise (· < ·) := by
  have h := subsR_sorted (V.map (·.1)) (sv_map.1 hi.sv) fun x hx => ids_rng hi hx
  unfold cliquesR
  exact h.sublist (List.Sublist.map _ List.filter_sublist)
/-- the sorted list of what is left is the reference's -/
theorem cliques_perm (hi : GInv V E) {o : List Int} {N : Nat} (hn : o.Nodup) (ho : ∀ x, x ∈ o ↔ x ∈ V.map (·.1)) (hm : ∀ x, x ∈ toL N ↔ x ∈ o) (hp : Peo E o) : ((cliquesR V E).map fromS).Perm (outC (allC E o N)) := by
  refine (List.perm_ext_iff_of_nodup ((cliques_sorted hi).imp fun {a b} h => Nat.ne_of_lt h) (outC_nodup _)).2 fun c => ?_
  rw [mem_outC_cliques hi hn ho hm hp, List.mem_map]
end Go.Proofs.YtmfkkkhddigkfaaGreatDoor
