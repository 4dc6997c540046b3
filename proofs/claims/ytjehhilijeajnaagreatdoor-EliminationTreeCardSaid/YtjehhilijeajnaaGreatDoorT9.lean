/- Parts of a proof, laid together: Sg, Si, Sh, Er, Fl, Sl, Md. Each part says its own conditions. -/
import Derived.Test.YtjehhilijeajnaaGreatDoorT8
import Derived.Test.YtjehhilijeajnaaGreatDoorT7
import Derived.Test.YtjehhilijeajnaaGreatDoorT3
import Derived.Deep.Upon
/- elimination.Steps, HigherNeighbors, Width: what they answer. Conditions: see each theorem. -/
namespace Go.Proofs.YtjehhilijeajnaaGreatDoor
open Go Go.RowKit Go.Shelf
attribute [local go_sem] qUpon lUpon

set_option maxRecDepth 100000 in
theorem walk_nil (A : Option Addr) (n cL fd : Nat) (caps : Array Value) (w : World) : Calls Tryz.prog 40 #[.pointer none, .slice A n cL, .func (.func fd) #[] caps] w fun e w' => e = .returned (.int .i64 1) ∧ Ext w w' := by
  go_enter Tryz.func40, Tryz.ntmps40
  go_wp2_with fail
  refine (check_nil A n cL w).mono ?_
  rintro e w1 ⟨rfl, hx1⟩
  have hx1' := hide hx1
  clear hx1
  go_wp2_with fail
  go_ret
  exact ⟨rfl, unhide hx1'⟩
theorem check_cases (L : List Int) (V : List (Int × Thing)) : checkS L V = 0 ∨ checkS L V = 3 := by
  unfold checkS
  split
  · exact .inl rfl
  · exact .inr rfl
set_option maxRecDepth 100000 in
theorem walk_bad (A : Option Addr) (L : List Int) (cL : Nat) (g bv be : Nat) (V : List (Int × Thing)) (E : List ((Int × Int) × Thing)) (w : World) (fd : Nat) (caps : Array Value) (hL : SlAt encI 1 w A L) (hl : L.length ≤ 4611686018427387904) (hg : IsG w g bv be V E) (hck : checkS L V = 3) : Calls Tryz.prog 40 #[.pointer (some ⟨g, 0, none⟩), .slice A L.length cL, .func (.func fd) #[] caps] w fun e w' => e = .returned (.int .i64 3) ∧ Ext w w' := by
  have hL' := hide hL
  have hg' := hide hg
  have hck' := hide hck
  clear hL hg hck
  go_enter Tryz.func40, Tryz.ntmps40
  go_wp2_with fail
  refine (check_any A L cL g bv be V E w (unhide hL') hl (unhide hg')).mono ?_
  rw [unhide hck']
  rintro e w1 ⟨rfl, hx1⟩
  have hx1' := hide hx1
  clear hx1
  go_wp2_with fail
  go_ret
  exact ⟨rfl, unhide hx1'⟩

set_option maxRecDepth 100000 in
set_option maxHeartbeats 4000000 in
theorem steps_ok (A : Option Addr) (L : List Int) (cL : Nat) (g bv be : Nat) (V : List (Int × Thing)) (E : List ((Int × Int) × Thing)) (w : World) (hL : SlAt encI 1 w A L) (hl : L.length ≤ 1024) (hg : IsG w g bv be V E) (hT : Tab w) (hck : checkS L V = 0) :
    Calls Tryz.prog 18 #[.pointer (some ⟨g, 0, none⟩), .slice A L.length cL] w fun e w' => ∃ A' c', e = .returned (.tuple #[.slice A' (stepsK E L L.length).length c', .int .i64 0]) ∧ SlAt encSt 17 w' A' (stepsK E L L.length) ∧ Ext w w' := by
  have ho := check_ord hg.inv hck
  have hrng : ∀ x ∈ L, 0 ≤ x ∧ x < 1024 := fun x hx => ho.rng hg.inv hx
  have hL' := hide hL
  have hg' := hide hg
  have hT' := hide hT
  have hck' := hide hck
  have hr' := hide hrng
  have hltA : ∀ b off, A = some ⟨b, off, none⟩ → L ≠ [] → b < w.heap.size := fun b off e hne => by
    obtain ⟨b', off', e', h, _⟩ := hL hne
    rw [e] at e'
    injection e' with e'
    injection e' with e1
    omega
  have hlt' := hide hltA
  clear hL hg hT hck ho hrng hltA
  go_enter Tryz.func18, Tryz.ntmps18
  try dsimp only
  repeat (first | (with_reducible refine wp_reg (id := 1) ?_) | go_values | go_step | go_guarded | go_upon | go_in | go_back | fail)
  refine wpO_want rfl ?_
  go_simp
  refine wpO_done ?_
  try go_frame
  have hA0 := hide (Acc.new (enc := encSt) (T := 58) (ST := 43) (k := 17) w)
  have hx1 := hide (ext_self1 w (.cells #[.slice none 0 0] 43))
  generalize w.alloc (.cells #[.slice none 0 0] 43) = w1 at *
  go_wp2_with fail
  refine (walk_any A L cL g bv be V E _ _ _ (accT w.heap.size (.slice none 0 0)) w1 ((unhide hL').ext (unhide hx1)) hl ((unhide hg').ext (unhide hx1)) ((unhide hT').ext (unhide hx1)) (unhide hck') (unhide hr') (steps_clo _ w.heap.size hl) ⟨_, unhide hA0, rfl⟩ (by have := (unhide hT').lt; simp [accT, Value.ownBlock]; omega) (fun hne b off e hm => by have := unhide hlt' b off e hne; simp [accT, Value.ownBlock] at hm; omega)).mono ?_
  rintro e w2 ⟨rfl, T2, ⟨v2, hA2, rfl⟩, hk2, _⟩
  obtain ⟨A', c', rfl, hs2⟩ := hA2.slice (fun _ => rfl)
  have c0 := hA2.cell.cells 0 (v := .slice A' (stepsK E L L.length).length c') rfl
  have hs2' := hide hs2
  have hx2 := hide ((unhide hx1).of_new hk2 (by simp [accT, Value.ownBlock]))
  have hself := Ext.refl w2
  clear hA2 hs2 hk2
  go_wp2_with fail
  go_ret2
  exact ⟨A', c', rfl, unhide hs2', unhide hx2⟩

set_option maxRecDepth 100000 in
set_option maxHeartbeats 4000000 in
theorem high_ok (A : Option Addr) (L : List Int) (cL : Nat) (g bv be : Nat) (V : List (Int × Thing)) (E : List ((Int × Int) × Thing)) (w : World) (hL : SlAt encI 1 w A L) (hl : L.length ≤ 1024) (hg : IsG w g bv be V E) (hT : Tab w) (hck : checkS L V = 0) :
    Calls Tryz.prog 27 #[.pointer (some ⟨g, 0, none⟩), .slice A L.length cL] w fun e w' => ∃ A' c', e = .returned (.tuple #[.slice A' (highK E L L.length).length c', .int .i64 0]) ∧ SlAt encS 16 w' A' (highK E L L.length) ∧ Ext w w' := by
  have ho := check_ord hg.inv hck
  have hrng : ∀ x ∈ L, 0 ≤ x ∧ x < 1024 := fun x hx => ho.rng hg.inv hx
  have hL' := hide hL
  have hg' := hide hg
  have hT' := hide hT
  have hck' := hide hck
  have hr' := hide hrng
  have hltA : ∀ b off, A = some ⟨b, off, none⟩ → L ≠ [] → b < w.heap.size := fun b off e hne => by
    obtain ⟨b', off', e', h, _⟩ := hL hne
    rw [e] at e'
    injection e' with e'
    injection e' with e1
    omega
  have hlt' := hide hltA
  clear hL hg hT hck ho hrng hltA
  go_enter Tryz.func27, Tryz.ntmps27
  try dsimp only
  repeat (first | (with_reducible refine wp_reg (id := 1) ?_) | go_values | go_step | go_guarded | go_upon | go_in | go_back | fail)
  refine wpO_want rfl ?_
  go_simp
  refine wpO_done ?_
  try go_frame
  have hA0 := hide (Acc.new (enc := encS) (T := 56) (ST := 67) (k := 16) w)
  have hx1 := hide (ext_self1 w (.cells #[.slice none 0 0] 67))
  generalize w.alloc (.cells #[.slice none 0 0] 67) = w1 at *
  go_wp2_with fail
  refine (walk_any A L cL g bv be V E _ _ _ (accT w.heap.size (.slice none 0 0)) w1 ((unhide hL').ext (unhide hx1)) hl ((unhide hg').ext (unhide hx1)) ((unhide hT').ext (unhide hx1)) (unhide hck') (unhide hr') (high_clo _ w.heap.size hl) ⟨_, unhide hA0, rfl⟩ (by have := (unhide hT').lt; simp [accT, Value.ownBlock]; omega) (fun hne b off e hm => by have := unhide hlt' b off e hne; simp [accT, Value.ownBlock] at hm; omega)).mono ?_
  rintro e w2 ⟨rfl, T2, ⟨v2, hA2, rfl⟩, hk2, _⟩
  obtain ⟨A', c', rfl, hs2⟩ := hA2.slice encS_len
  have c0 := hA2.cell.cells 0 (v := .slice A' (highK E L L.length).length c') rfl
  have hs2' := hide hs2
  have hx2 := hide ((unhide hx1).of_new hk2 (by simp [accT, Value.ownBlock]))
  have hself := Ext.refl w2
  clear hA2 hs2 hk2
  go_wp2_with fail
  go_ret2
  exact ⟨A', c', rfl, unhide hs2', unhide hx2⟩

set_option maxRecDepth 100000 in
set_option maxHeartbeats 4000000 in
theorem width_ok (A : Option Addr) (L : List Int) (cL : Nat) (g bv be : Nat) (V : List (Int × Thing)) (E : List ((Int × Int) × Thing)) (w : World) (hL : SlAt encI 1 w A L) (hl : L.length ≤ 1024) (hg : IsG w g bv be V E) (hT : Tab w) (hck : checkS L V = 0) :
    Calls Tryz.prog 19 #[.pointer (some ⟨g, 0, none⟩), .slice A L.length cL] w fun e w' => e = .returned (.tuple #[.int .i64 (widK E L L.length), .int .i64 0]) ∧ Ext w w' := by
  have ho := check_ord hg.inv hck
  have hrng : ∀ x ∈ L, 0 ≤ x ∧ x < 1024 := fun x hx => ho.rng hg.inv hx
  have hi' := hide hg.inv
  have ho' := hide ho
  have hL' := hide hL
  have hg' := hide hg
  have hT' := hide hT
  have hck' := hide hck
  have hr' := hide hrng
  have hltA : ∀ b off, A = some ⟨b, off, none⟩ → L ≠ [] → b < w.heap.size := fun b off e hne => by
    obtain ⟨b', off', e', h, _⟩ := hL hne
    rw [e] at e'
    injection e' with e'
    injection e' with e1
    omega
  have hlt' := hide hltA
  clear hL hg hT hck ho hrng hltA
  go_enter Tryz.func19, Tryz.ntmps19
  try dsimp only
  repeat (first | (with_reducible refine wp_reg (id := 1) ?_) | go_values | go_step | go_guarded | go_upon | go_in | go_back | fail)
  iterate 2
    refine wpO_want rfl ?_
    go_simp
  refine wpO_done ?_
  try go_frame
  have hB0 := hide (Blk.new w 3 #[.int .i64 (-1)])
  have hx1 := hide (ext_self1 w (.cells #[.int .i64 (-1)] 3))
  generalize w.alloc (.cells #[.int .i64 (-1)] 3) = w1 at *
  go_wp2_with fail
  refine (walk_any A L cL g bv be V E _ _ _ [w.heap.size] w1 ((unhide hL').ext (unhide hx1)) hl ((unhide hg').ext (unhide hx1)) ((unhide hT').ext (unhide hx1)) (unhide hck') (unhide hr') (width_clo w.heap.size) ⟨unhide hB0, rfl⟩ (by have := (unhide hT').lt; rw [List.mem_singleton]; omega) (fun hne b off e hm => by have := unhide hlt' b off e hne; rw [List.mem_singleton] at hm; omega)).mono ?_
  rintro e w2 ⟨rfl, T2, ⟨hB2, rfl⟩, hk2, _⟩
  have c0 := hB2.cells 0 (v := .int .i64 (widK E L L.length)) rfl
  have hx2 := hide ((unhide hx1).of_new hk2 (by intro x hx; rw [List.mem_singleton] at hx; omega))
  have hself := Ext.refl w2
  clear hB2 hk2
  go_wp2_with fail
  go_ret2
  exact ⟨rfl, unhide hx2⟩
end Go.Proofs.YtjehhilijeajnaaGreatDoor
/- elimination.Parents. Conditions: see each theorem. -/
namespace Go.Proofs.YtjehhilijeajnaaGreatDoor
open Go Go.RowKit Go.Shelf
attribute [local go_sem] qUpon lUpon

/-- the place of each vertex, after k rounds -/
def plK (L : List Int) (k : Nat) : List (Int × Int) := (List.range k).foldl (fun M (i : Nat) => putM M (L[i]?.getD 0) (i : Int)) []
theorem plK_next (L : List Int) (k : Nat) (h : k < L.length) : plK L (k + 1) = putM (plK L k) L[k] (k : Int) := by
  unfold plK
  rw [List.range_succ, List.foldl_append, List.foldl_cons, List.foldl_nil, get_D h]
/-- a map's update as a step -/
theorem wpO_upd {P : Program} {κ τ : Type} [DecidableEq κ] {ek : κ → Value} {ev : τ → Value} {ok : κ → Prop} {kt et t : TypeId} {w : World} {b : Nat} {m : List (κ × τ)} {l : List Oper} {K : Act → World → Prop} {r : List Oper} {a : Act} {o : Oper} {p q s : Operand} (hw : Region.wanted o (yielded l.toArray a.tmps) = true)
    (KK : KE P kt ek ok) (ht : P.underlying t = some (.map kt et)) (h : MapIs ek ev ok w b m) {x : κ} (hx : ok x) (v : τ) (ho : o.op = .mapUpdate t p q s) (hp : a.eval p = .map (some b)) (hq : a.eval q = ek x) (hs : a.eval s = ev v)
    (hk : ∀ w', MapIs ek ev ok w' b (putM m x v) → Keep [b] w w' → w'.heap.size = w.heap.size → wpO P l K r (a.put o.dst undef) w') : wpO P l K (o :: r) a w := by
  obtain ⟨w', h1, h2, h3, h4⟩ := run_update_op KK ht h hx v ho hp hq hs
  exact wpO_skip hw h1 (hk w' h2 h3 h4)

set_option maxRecDepth 100000 in
set_option maxHeartbeats 4000000 in
theorem parents_ok (A : Option Addr) (L : List Int) (cL : Nat) (g bv be : Nat) (V : List (Int × Thing)) (E : List ((Int × Int) × Thing)) (w : World) (hL : SlAt encI 1 w A L) (hl : L.length ≤ 1024) (hg : IsG w g bv be V E) (hT : Tab w) (hck : checkS L V = 0) :
    Calls Tryz.prog 12 #[.pointer (some ⟨g, 0, none⟩), .slice A L.length cL] w fun e w' => ∃ A' c', e = .returned (.tuple #[.slice A' (parK E L (plK L L.length) L.length).length c', .int .i64 0]) ∧ SlAt encI 1 w' A' (parK E L (plK L L.length) L.length) ∧ Ext w w' := by
  have ho := check_ord hg.inv hck
  have hrng : ∀ x ∈ L, 0 ≤ x ∧ x < 1024 := fun x hx => ho.rng hg.inv hx
  have hLk' := hide (fun x hx => okK (hrng x hx))
  have hL' := hide hL
  have hg' := hide hg
  have hT' := hide hT
  have hck' := hide hck
  have hr' := hide hrng
  have hltA : ∀ b off, A = some ⟨b, off, none⟩ → L ≠ [] → b < w.heap.size := fun b off e hne => by
    obtain ⟨b', off', e', h, _⟩ := hL hne
    rw [e] at e'
    injection e' with e'
    injection e' with e1
    omega
  have hlt' := hide hltA
  obtain ⟨R, hR⟩ : ∃ R, R = parK E L (plK L L.length) L.length := ⟨_, rfl⟩
  rw [← hR]
  have hR' := hide hR
  clear hL hg hT hck ho hrng hltA hR
  go_enter Tryz.func12, Tryz.ntmps12
  try dsimp only
  repeat (first | (with_reducible refine wp_reg (id := 1) ?_) | go_values | go_step | go_guarded | go_upon | go_in | go_back | fail)
  have hmm := @run_makeMap Tryz.prog
  iterate 3
    refine wpO_want rfl ?_
    go_simp
  refine wpO_done ?_
  clear hmm
  have hB8 := hide (Blk.new (w.alloc (.map #[] 0)) 92 #[.map (some w.heap.size)])
  have hM8 := hide ((MapIs.made (ek := ekV) (ev := evI) (ok := i64ok) w).ext (ext_self1 _ (.cells #[.map (some w.heap.size)] 92)))
  have hx8 := hide (ext_self2 w (.map #[] 0) (.cells #[.map (some w.heap.size)] 92))
  simp only [World.size_alloc] at hB8
  generalize (w.alloc (.map #[] 0)).alloc (.cells #[.map (some w.heap.size)] 92) = W2 at *
  go_wp2_with fail
  go_loopw [14] (fun i wr => ∃ k : Nat, k ≤ L.length ∧ i = .int .i64 k ∧ Blk wr (w.heap.size + 1) 92 #[.map (some w.heap.size)] ∧ MapIs ekV evI i64ok wr w.heap.size (plK L k) ∧ Ext w wr) (fun i _ => L.length - (intOf i).toNat)
  case atStart => exact ⟨0, Nat.zero_le _, rfl, unhide hB8, unhide hM8, unhide hx8⟩
  case round =>
    obtain ⟨k, hk, rfl, hB, hM, hx⟩ := hrel
    have hB' := hide hB
    have hM' := hide hM
    have hx' := hide hx
    clear hB8 hM8 hx8
    by_cases hlt : k < L.length
    · obtain ⟨b, off, rfl, c0⟩ := atI ((unhide hL').ext hx) hlt
      have hnx := hide (plK_next L k hlt)
      have hxk := hide (unhide hLk' L[k] (List.getElem_mem hlt))
      generalize L[k] = x at c0 hnx hxk
      have hself := Ext.refl wr
      have q0 := hB.cells 0 (v := .map (some w.heap.size)) rfl
      clear hB hM hx
      try dsimp only
      repeat (first | (with_reducible refine wp_reg (id := 4) ?_) | go_values | go_step | go_guarded | go_upon | go_in | go_back | fail)
      iterate 5
        refine wpO_want rfl ?_
        go_simp
      refine wpO_done ?_
      try go_frame
      try dsimp only
      repeat (first | (with_reducible refine wp_reg (id := 5) ?_) | go_values | go_step | go_guarded | go_upon | go_in | go_back | fail)
      iterate 3
        refine wpO_want rfl ?_
        go_simp
      refine wpO_upd rfl keV Tryz.underlying92 (unhide hM') (unhide hxk) (k : Int) rfl rfl rfl rfl ?_
      intro w4 hm4 hk4 hs4
      refine wpO_done ?_
      try go_frame
      rw [← unhide hnx] at hm4
      have hM4 := hide hm4
      have hB4 := hide ((unhide hB').keep hk4 (by simp))
      have hx4 := hide ((unhide hx').of_new hk4 (by simp))
      clear hm4 hk4 hs4 hM' hB' hx' c0 q0 hself hnx
      go_wp2_with fail
      go_roundw
      case rel => exact ⟨k + 1, by omega, by go_num, unhide hB4, unhide hM4, unhide hx4⟩
      case measure => simp [intOf]; omega
    · have hke : k = L.length := by omega
      subst hke
      clear hB hM hx
      try dsimp only
      repeat (first | (with_reducible refine wp_reg (id := 7) ?_) | go_values | go_step | go_guarded | go_upon | go_in | go_back | fail)
      refine wpO_want rfl ?_
      go_simp
      refine wpO_done ?_
      try go_frame
      have hA0 := hide (Acc.new (enc := encI) (T := 3) (ST := 29) (k := 1) wr)
      have hx1 := hide ((unhide hx').trans (ext_self1 wr (.cells #[.slice none 0 0] 29)))
      have hB1 := hide ((unhide hB').ext (ext_self1 wr (.cells #[.slice none 0 0] 29)))
      have hM1 := hide ((unhide hM').ext (ext_self1 wr (.cells #[.slice none 0 0] 29)))
      have hz1 := hide ((unhide hB').lt)
      have hzx := hide (Below.size (unhide hx'))
      generalize wr.alloc (.cells #[.slice none 0 0] 29) = w1 at *
      generalize wr.heap.size = bl at *
      clear hB' hM' hx'
      go_wp2_with fail
      refine (walk_any A L cL g bv be V E _ _ _ ((w.heap.size + 1) :: w.heap.size :: accT bl (.slice none 0 0)) w1 ((unhide hL').ext (unhide hx1)) hl ((unhide hg').ext (unhide hx1)) ((unhide hT').ext (unhide hx1)) (unhide hck') (unhide hr') (par_clo (bl + 1) bl (w.heap.size + 1) w.heap.size (plK L L.length) hl (unhide hz1) (by have := unhide hz1; omega)) ⟨_, unhide hA0, unhide hB1, unhide hM1, rfl⟩ (by have := (unhide hT').lt; have := unhide hz1; simp [accT, Value.ownBlock]; omega) (fun hne b off e hm => by have := unhide hlt' b off e hne; have := unhide hz1; simp [accT, Value.ownBlock] at hm; omega)).mono ?_
      rintro e w2 ⟨rfl, T2, ⟨v2, hA2, _, _, rfl⟩, hk2, _⟩
      rw [← unhide hR'] at hA2
      obtain ⟨A', c', rfl, hs2⟩ := hA2.slice (fun _ => rfl)
      have c0 := hA2.cell.cells 0 (v := .slice A' R.length c') rfl
      have hs2' := hide hs2
      have hx2 := hide ((unhide hx1).of_new hk2 (by have := unhide hz1; simp [accT, Value.ownBlock]; omega))
      have hself := Ext.refl w2
      clear hA2 hs2 hk2
      go_wp2_with fail
      go_ret2
      exact ⟨A', c', rfl, unhide hs2', unhide hx2⟩
end Go.Proofs.YtjehhilijeajnaaGreatDoor
/- elimination.Fill: the fill-in, in ascending order. Conditions: see each theorem. -/
namespace Go.Proofs.YtjehhilijeajnaaGreatDoor
open Go Go.RowKit Go.Shelf Go.Sort
attribute [local go_sem] qUpon lUpon

set_option maxHeartbeats 1000000 in
theorem fill2_any (a b la wa c d lb wb : Int) (w : World) :
    Calls Tryz.prog 50 #[.agg #[.int .i64 a, .int .i64 b, .int .u8 la, .int .i64 wa], .agg #[.int .i64 c, .int .i64 d, .int .u8 lb, .int .i64 wb]] w fun e w' => e = .returned (.int .i64 (cmpE (a, b) (c, d))) ∧ Gr w w' := by
  go_enter Tryz.func50, Tryz.ntmps50
  go_wp2
  refine wp_abs (fun W => Gr w W ∧ Blk W w.heap.size 62 #[.int .i64 a, .int .i64 b, .int .u8 la, .int .i64 wa] ∧ Blk W (w.heap.size + 1) 62 #[.int .i64 c, .int .i64 d, .int .u8 lb, .int .i64 wb]) ⟨((Gr.refl w).alloc _).alloc _, (Blk.new w _ _).ext (ext_self1 _ _), by have := Blk.new (w.alloc (.cells #[.int .i64 a, .int .i64 b, .int .u8 la, .int .i64 wa] 62)) 62 #[.int .i64 c, .int .i64 d, .int .u8 lb, .int .i64 wb]; simpa using this⟩ ?_
  rintro w1 ⟨hx1, hb0, hb1⟩
  have c0 : ∀ W, Gr w1 W → W.cell? ⟨w.heap.size, 0, none⟩ = some (.int .i64 a) := fun W h => hb0.cells 0 rfl W h.ext
  have c1 : ∀ W, Gr w1 W → W.cell? ⟨w.heap.size, 1, none⟩ = some (.int .i64 b) := fun W h => hb0.cells 1 rfl W h.ext
  have c2 : ∀ W, Gr w1 W → W.cell? ⟨w.heap.size + 1, 0, none⟩ = some (.int .i64 c) := fun W h => hb1.cells 0 rfl W h.ext
  have c3 : ∀ W, Gr w1 W → W.cell? ⟨w.heap.size + 1, 1, none⟩ = some (.int .i64 d) := fun W h => hb1.cells 1 rfl W h.ext
  clear hb0 hb1
  refine wp_region_ql (P := Tryz.prog) (fun a b => b = a) (Gr w1) [0, 1, 2, 3, 4, 5, 6, 7, 8, 9] [] 3 #[true, true, true, true, true, true, true, true, true, true, false, false, false] (by kernel_rfl) (by kernel_rfl) rfl (by rfl) (fun _ => rfl) (fun _ _ _ h1 h2 => h2.trans h1) (fun _ _ h e => by rw [e]; exact h) (Gr.refl w1).drew ?_
  iterate 10
    refine ql_want (v := ?_) rfl (by rfl) (fun W hW => ?_) ?_
    rotate_left
    · go_simp
      first | done | rfl | (go_at_call 52; refine (cmp_any _ _ _).mono ?_; rintro _ _ ⟨h1, h2⟩; refine ⟨_, h1, ?_, h2⟩; rfl)
    go_frame
  refine wpQL_nil (fun w2 hx2 => ?_)
  refine lx_one (i := 10) (by kernel_rfl) rfl (by rfl) #[true, true, true, true, true, true, true, true, true, true, true, false, false] (by rfl) ?_
  go_simp
  refine ⟨hx2.alloc _, ?_⟩
  try go_frame
  refine lx_one (i := 11) (by kernel_rfl) rfl (by rfl) #[true, true, true, true, true, true, true, true, true, true, true, true, false] (by rfl) ?_
  go_simp
  refine (or_any (cmpI a c) (cmpI b d) w2.heap.size 2 _ (by go_simp) (by go_simp)).mono ?_
  rintro e w3 ⟨rfl, rfl⟩
  refine ⟨_, rfl, hx2.alloc _, ?_⟩
  try go_frame
  refine lx_one (i := 12) (by kernel_rfl) rfl (by rfl) #[true, true, true, true, true, true, true, true, true, true, true, true, true] (by rfl) ?_
  go_simp
  refine ⟨hx2.alloc _, ?_⟩
  refine wpX_done (by kernel_rfl) ?_
  try go_frame
  go_wp2
  go_ret
  exact ⟨rfl, (hx1.trans hx2).alloc _⟩


theorem sortF_any (base : Nat) (v : Value) (xs S : List ((Int × Int) × Thing)) (w : World) (hown : w.ownsRow base 62 4 v xs.length (xs.flatMap encE)) (hp : S.Perm xs) (hS : S.Pairwise ltE) (hsz : xs.length ≤ 10000000) :
    Calls Tryz.prog 49 #[v, .func (.func 50) #[] #[]] w fun e w' => e = .returned (.tuple #[]) ∧ w'.ownsRow base 62 4 v xs.length (S.flatMap encE) ∧ w.grownBy w' v.ownBlock := by
  have h := sortRow_any Tryz.sortE 4 (by omega) Tryz.isAgg62 Tryz.sizeOf62 encE (fun _ => rfl) one_encE (fun x y => cmpE x.1 y.1) swoE 50 (Go.Proofs.enters_of Tryz.func50 (by kernel_rfl) rfl) (fun x y W => fill2_any _ _ _ _ _ _ _ _ _)
    base 62 v xs S w hown hp (hS.imp fun h => (ltOf_E _ _).2 h) (by omega)
  exact h

/-- an insertion sort, as the reference has it -/
def ltP (p q : Int × Int) : Bool := decide (p.1 < q.1 ∨ p.1 = q.1 ∧ p.2 < q.2)
def insK (a : List (Int × Int)) (p : Int × Int) : List (Int × Int) := a.takeWhile (ltP · p) ++ p :: a.dropWhile (ltP · p)
def fillS (C : List (Int × Int)) : List (Int × Int) := C.foldl insK []
theorem mem_tw {α : Type} {p : α → Bool} : ∀ {l : List α} {x : α}, x ∈ l.takeWhile p → p x = true
  | a :: r, x, h => by
    rw [List.takeWhile_cons] at h
    split at h
    · rename_i ha
      rcases List.mem_cons.1 h with rfl | h
      · exact ha
      · exact mem_tw h
    · simp at h
theorem insK_perm (a : List (Int × Int)) (p : Int × Int) : (insK a p).Perm (p :: a) := by
  unfold insK
  have h := @List.takeWhile_append_dropWhile _ (ltP · p) a
  have h2 := @List.perm_middle _ p (a.takeWhile (ltP · p)) (a.dropWhile (ltP · p))
  rw [h] at h2
  exact h2
theorem fold_perm : ∀ (C a : List (Int × Int)), (C.foldl insK a).Perm (a ++ C)
  | [], a => by simp
  | p :: r, a => by
    rw [List.foldl_cons]
    refine (fold_perm r (insK a p)).trans ?_
    refine ((insK_perm a p).append_right r).trans ?_
    exact (List.perm_middle (a := p) (l₁ := a) (l₂ := r)).symm
theorem fillS_perm (C : List (Int × Int)) : (fillS C).Perm C := by unfold fillS; simpa using fold_perm C []
theorem insK_sorted {a : List (Int × Int)} {p : Int × Int} (h : a.Pairwise fun x y => ltP x y = true) (hp : p ∉ a) : (insK a p).Pairwise fun x y => ltP x y = true := by
  have hd : ∀ y ∈ a.dropWhile (ltP · p), ltP p y = true := by
    intro y hy
    have hs : (a.dropWhile (ltP · p)).Pairwise fun x y => ltP x y = true := h.sublist (List.dropWhile_sublist _)
    have hne : y ≠ p := fun e => hp (e ▸ (List.dropWhile_sublist _).subset hy)
    cases hw : a.dropWhile (ltP · p) with
    | nil => rw [hw] at hy; simp at hy
    | cons z r =>
      have hz : ltP z p = false := by
        have := List.head_dropWhile_not (p := (ltP · p)) (l := a) (by rw [hw]; simp)
        simpa [hw] using this
      have hzp : z ≠ p := fun e => hp (e ▸ (List.dropWhile_sublist _).subset (by rw [hw]; simp))
      have h1 : ltP p z = true := by
        obtain ⟨z1, z2⟩ := z
        obtain ⟨p1, p2⟩ := p
        simp only [ltP, decide_eq_false_iff_not, decide_eq_true_eq, ne_eq, Prod.mk.injEq] at hz hzp ⊢
        omega
      rw [hw] at hy hs
      rcases List.mem_cons.1 hy with rfl | hy
      · exact h1
      · have h2 := List.rel_of_pairwise_cons hs hy
        simp only [ltP, decide_eq_true_eq] at h1 h2 ⊢
        omega
  unfold insK
  rw [List.pairwise_append]
  refine ⟨h.sublist (List.takeWhile_sublist _), List.pairwise_cons.2 ⟨fun y hy => hd y hy, h.sublist (List.dropWhile_sublist _)⟩, fun x hx y hy => ?_⟩
  have hxp : ltP x p = true := mem_tw (p := (ltP · p)) hx
  rcases List.mem_cons.1 hy with rfl | hy
  · exact hxp
  · have h2 := hd y hy
    simp only [ltP, decide_eq_true_eq] at hxp h2 ⊢
    omega
theorem fold_sorted : ∀ (C a : List (Int × Int)), (a ++ C).Nodup → (a.Pairwise fun x y => ltP x y = true) → (C.foldl insK a).Pairwise fun x y => ltP x y = true
  | [], a, _, h => h
  | p :: r, a, hn, h => by
    rw [List.foldl_cons]
    have hm : (p :: (a ++ r)).Nodup := (List.perm_middle (a := p) (l₁ := a) (l₂ := r)).nodup_iff.1 hn
    obtain ⟨h1, h2⟩ := List.nodup_cons.1 hm
    refine fold_sorted r _ ?_ (insK_sorted h fun hp => h1 (by simp [hp]))
    refine (((insK_perm a p).append_right r).nodup_iff).2 hm
theorem fillS_sorted {C : List (Int × Int)} (h : C.Nodup) : (fillS C).Pairwise fun x y => ltP x y = true := fold_sorted C [] (by simpa using h) .nil
/-- the order of what came is irrelevant -/
theorem fillS_congr {C D : List (Int × Int)} (hC : C.Nodup) (hD : D.Nodup) (h : ∀ p, p ∈ C ↔ p ∈ D) : fillS C = fillS D := by
  have hp : (fillS C).Perm (fillS D) := (fillS_perm C).trans (((List.perm_ext_iff_of_nodup hC hD).2 h).trans (fillS_perm D).symm)
  refine sorted_unique (lt := ltP) (fillS D) (fillS C) hp (fillS_sorted hD) ((fillS_sorted hC).imp fun {x y} hxy => ?_)
  simp only [ltP, decide_eq_true_eq, decide_eq_false_iff_not] at hxy ⊢
  omega
theorem fillS_ltE {C : List (Int × Int)} (h : C.Nodup) : ((fillS C).map edgeP).Pairwise ltE := by
  rw [List.pairwise_map]
  refine (fillS_sorted h).imp fun {x y} hxy => ?_
  simpa [ltP, ltE, edgeP] using hxy

set_option maxRecDepth 100000 in
set_option maxHeartbeats 4000000 in
theorem fill_ok (A : Option Addr) (L : List Int) (cL : Nat) (g bv be : Nat) (V : List (Int × Thing)) (E : List ((Int × Int) × Thing)) (w : World) (hL : SlAt encI 1 w A L) (hl : L.length ≤ 100) (hg : IsG w g bv be V E) (hT : Tab w) (hck : checkS L V = 0) :
    Calls Tryz.prog 20 #[.pointer (some ⟨g, 0, none⟩), .slice A L.length cL] w fun e w' => ∃ A' c', e = .returned (.tuple #[.slice A' ((fillS (comeK E L L.length)).map edgeP).length c', .int .i64 0]) ∧ w'.ownsRow (w.heap.size + 1) 62 4 (.slice A' ((fillS (comeK E L L.length)).map edgeP).length c') ((fillS (comeK E L L.length)).map edgeP).length (((fillS (comeK E L L.length)).map edgeP).flatMap encE) ∧ Ext w w' := by
  have ho := check_ord hg.inv hck
  have hrng : ∀ x ∈ L, 0 ≤ x ∧ x < 1024 := fun x hx => ho.rng hg.inv hx
  have hi' := hide hg.inv
  have ho' := hide ho
  have hL' := hide hL
  have hg' := hide hg
  have hT' := hide hT
  have hck' := hide hck
  have hr' := hide hrng
  have hltA : ∀ b off, A = some ⟨b, off, none⟩ → L ≠ [] → b < w.heap.size := fun b off e hne => by
    obtain ⟨b', off', e', h, _⟩ := hL hne
    rw [e] at e'
    injection e' with e'
    injection e' with e1
    omega
  have hlt' := hide hltA
  clear hL hg hT hck ho hrng hltA
  obtain ⟨S, hS⟩ : ∃ S, S = (fillS (comeK E L L.length)).map edgeP := ⟨_, rfl⟩
  rw [← hS]
  have hS' := hide hS
  clear hS
  go_enter Tryz.func20, Tryz.ntmps20
  try dsimp only
  repeat (first | (with_reducible refine wp_reg (id := 1) ?_) | go_values | go_step | go_guarded | go_upon | go_in | go_back | fail)
  refine wpO_want rfl ?_
  go_simp
  refine wpO_done ?_
  try go_frame
  have hA0 := hide (Acc.new (enc := encE) (T := 62) (ST := 46) (k := 4) w)
  have hx1 := hide (ext_self1 w (.cells #[.slice none 0 0] 46))
  generalize w.alloc (.cells #[.slice none 0 0] 46) = w1 at *
  go_wp2_with fail
  refine (walk_any A L cL g bv be V E _ _ _ (accT w.heap.size (.slice none 0 0)) w1 ((unhide hL').ext (unhide hx1)) (by omega) ((unhide hg').ext (unhide hx1)) ((unhide hT').ext (unhide hx1)) (unhide hck') (unhide hr') (fill_clo _ w.heap.size (unhide hi') (unhide ho') hl) ⟨Nat.zero_le _, _, unhide hA0, rfl⟩ (by have := (unhide hT').lt; simp [accT, Value.ownBlock]; omega) (fun hne b off e hm => by have := unhide hlt' b off e hne; simp [accT, Value.ownBlock] at hm; omega)).mono ?_
  rintro e w2 ⟨rfl, T2, ⟨_, v2, hA2, rfl⟩, hk2, _⟩
  have hC : ((comeK E L L.length).map edgeP).length ≤ 10000000 := by
    have h1 := comeK_len (unhide hi') (unhide ho') hl (k := L.length) (Nat.le_refl _)
    have h3 : L.length * 10000 ≤ 100 * 10000 := Nat.mul_le_mul_right _ hl
    rw [List.length_map]
    omega
  have hnd := comeK_nodup (unhide hi') (unhide ho') (k := L.length) (Nat.le_refl _)
  have hperm : ((fillS (comeK E L L.length)).map edgeP).Perm ((comeK E L L.length).map edgeP) := (fillS_perm _).map _
  have hsort := fillS_ltE hnd
  obtain ⟨D, hD⟩ : ∃ D, D = (comeK E L L.length).map edgeP := ⟨_, rfl⟩
  rw [← hD] at hA2 hC hperm
  rw [← unhide hS'] at hperm hsort
  clear hnd hD
  have c0 := hA2.cell.cells 0 (v := v2) rfl
  have hA2' := hide hA2
  have hC' := hide hC
  have hp' := hide hperm
  have hs' := hide hsort
  have hx2 := hide ((unhide hx1).of_new hk2 (by simp [accT, Value.ownBlock]))
  have hself := Ext.refl w2
  clear hA2 hk2 hC hperm hsort
  go_wp2_with fail
  refine (sortF_any _ v2 D S w2 (unhide hA2').own (unhide hp') (unhide hs') (unhide hC')).mono ?_
  rintro e w3 ⟨rfl, ho3, hg3⟩
  have hne : w.heap.size ∉ v2.ownBlock.toList := fun hm => by
    have h1 := (own_base (unhide hA2').own (by simpa using hm)).1
    have := (unhide hA2').lt
    omega
  have hB3 := (unhide hA2').cell.keep (Keep.of_grown hg3) hne
  have hlen := (unhide hp').length_eq
  obtain ⟨A', c', rfl⟩ := own_slice ho3
  rw [← hlen] at ho3 hB3
  have d0 := hB3.cells 0 (v := .slice A' S.length c') rfl
  have ho3' := hide ho3
  have hx3 := hide ((unhide hx2).of_new (Keep.of_grown hg3) (fun x hx => by have h1 := (own_base (unhide hA2').own (by simpa using hx)).1; omega))
  have hself3 := Ext.refl w3
  clear c0 hself ho3 hg3 hB3 hlen hne
  go_wp2_with fail
  go_ret2
  exact ⟨A', c', rfl, unhide ho3', unhide hx3⟩
end Go.Proofs.YtjehhilijeajnaaGreatDoor
/- elimination: WHERE THE ORDER IS WRONG every function answers walk's error. Conditions: see each theorem. -/
namespace Go.Proofs.YtjehhilijeajnaaGreatDoor
open Go Go.RowKit Go.Shelf
attribute [local go_sem] qUpon lUpon

def WErr (gv : Value) (A : Option Addr) (n cL : Nat) (er : Int) (w : World) : Prop := ∀ fd caps W, Ext w W → Calls Tryz.prog 40 #[gv, .slice A n cL, .func (.func fd) #[] caps] W fun e w' => e = .returned (.int .i64 er) ∧ Ext W w'
theorem werr_nil (A : Option Addr) (n cL : Nat) (w : World) : WErr (.pointer none) A n cL 1 w := fun fd caps W _ => walk_nil A n cL fd caps W
theorem werr_bad (A : Option Addr) (L : List Int) (cL : Nat) (g bv be : Nat) (V : List (Int × Thing)) (E : List ((Int × Int) × Thing)) (w : World) (hL : SlAt encI 1 w A L) (hl : L.length ≤ 4611686018427387904) (hg : IsG w g bv be V E) (hck : checkS L V = 3) : WErr (.pointer (some ⟨g, 0, none⟩)) A L.length cL 3 w := fun fd caps W hW => walk_bad A L cL g bv be V E W fd caps (hL.ext hW) hl (hg.ext hW) hck

set_option maxRecDepth 100000 in
set_option maxHeartbeats 4000000 in
theorem steps_err (gv : Value) (A : Option Addr) (n cL : Nat) (er : Int) (w : World) (hW : WErr gv A n cL er w) :
    Calls Tryz.prog 18 #[gv, .slice A n cL] w fun e w' => e = .returned (.tuple #[.slice none 0 0, .int .i64 er]) ∧ Ext w w' := by
  have hW' := hide hW
  clear hW
  go_enter Tryz.func18, Tryz.ntmps18
  try dsimp only
  repeat (first | (with_reducible refine wp_reg (id := 1) ?_) | go_values | go_step | go_guarded | go_upon | go_in | go_back | fail)
  refine wpO_want rfl ?_
  go_simp
  refine wpO_done ?_
  try go_frame
  have hB := hide (Blk.new w 43 #[.slice none 0 0])
  have hx1 := hide (ext_self1 w (.cells #[.slice none 0 0] 43))
  generalize w.alloc (.cells #[.slice none 0 0] 43) = w1 at *
  go_wp2_with fail
  refine (unhide hW' _ _ w1 (unhide hx1)).mono ?_
  rintro e w2 ⟨rfl, hx2⟩
  have hB2 := (unhide hB).ext hx2
  have c0 := hB2.cells 0 (v := .slice none 0 0) rfl
  have hx2' := hide ((unhide hx1).trans hx2)
  have hself := Ext.refl w2
  clear hx2 hB2
  go_wp2_with fail
  go_ret2
  exact ⟨rfl, unhide hx2'⟩

set_option maxRecDepth 100000 in
set_option maxHeartbeats 4000000 in
theorem high_err (gv : Value) (A : Option Addr) (n cL : Nat) (er : Int) (w : World) (hW : WErr gv A n cL er w) :
    Calls Tryz.prog 27 #[gv, .slice A n cL] w fun e w' => e = .returned (.tuple #[.slice none 0 0, .int .i64 er]) ∧ Ext w w' := by
  have hW' := hide hW
  clear hW
  go_enter Tryz.func27, Tryz.ntmps27
  try dsimp only
  repeat (first | (with_reducible refine wp_reg (id := 1) ?_) | go_values | go_step | go_guarded | go_upon | go_in | go_back | fail)
  refine wpO_want rfl ?_
  go_simp
  refine wpO_done ?_
  try go_frame
  have hB := hide (Blk.new w 67 #[.slice none 0 0])
  have hx1 := hide (ext_self1 w (.cells #[.slice none 0 0] 67))
  generalize w.alloc (.cells #[.slice none 0 0] 67) = w1 at *
  go_wp2_with fail
  refine (unhide hW' _ _ w1 (unhide hx1)).mono ?_
  rintro e w2 ⟨rfl, hx2⟩
  have hB2 := (unhide hB).ext hx2
  have c0 := hB2.cells 0 (v := .slice none 0 0) rfl
  have hx2' := hide ((unhide hx1).trans hx2)
  have hself := Ext.refl w2
  clear hx2 hB2
  go_wp2_with fail
  go_ret2
  exact ⟨rfl, unhide hx2'⟩

set_option maxRecDepth 100000 in
set_option maxHeartbeats 4000000 in
theorem fill_err (gv : Value) (A : Option Addr) (n cL : Nat) (er : Int) (w : World) (hW : WErr gv A n cL er w) :
    Calls Tryz.prog 20 #[gv, .slice A n cL] w fun e w' => e = .returned (.tuple #[.slice none 0 0, .int .i64 er]) ∧ Ext w w' := by
  have hW' := hide hW
  clear hW
  go_enter Tryz.func20, Tryz.ntmps20
  try dsimp only
  repeat (first | (with_reducible refine wp_reg (id := 1) ?_) | go_values | go_step | go_guarded | go_upon | go_in | go_back | fail)
  refine wpO_want rfl ?_
  go_simp
  refine wpO_done ?_
  try go_frame
  have hB := hide (Blk.new w 46 #[.slice none 0 0])
  have hx1 := hide (ext_self1 w (.cells #[.slice none 0 0] 46))
  generalize w.alloc (.cells #[.slice none 0 0] 46) = w1 at *
  go_wp2_with fail
  refine (unhide hW' _ _ w1 (unhide hx1)).mono ?_
  rintro e w2 ⟨rfl, hx2⟩
  have hB2 := (unhide hB).ext hx2
  have c0 := hB2.cells 0 (v := .slice none 0 0) rfl
  have hx2' := hide ((unhide hx1).trans hx2)
  have hself := Ext.refl w2
  clear hx2 hB2
  go_wp2_with fail
  refine (sortF_any 0 (.slice none 0 0) [] [] w2 (World.ownsRow_nil _ _ _ _) (List.Perm.refl _) .nil (by simp)).mono ?_
  rintro e w3 ⟨rfl, _, hg3⟩
  have hx3 : Ext w2 w3 := (Keep.of_grown hg3).ext
  have d0 := fun (W : World) (hW : Ext w3 W) => c0 W (hx3.trans hW)
  have hx3' := hide ((unhide hx2').trans hx3)
  have hself3 := Ext.refl w3
  clear c0 hself hg3 hx3
  go_wp2_with fail
  go_ret2
  exact ⟨rfl, unhide hx3'⟩

set_option maxRecDepth 100000 in
set_option maxHeartbeats 4000000 in
theorem width_err (gv : Value) (A : Option Addr) (n cL : Nat) (er : Int) (w : World) (hW : WErr gv A n cL er w) (her : er ≠ 0) :
    Calls Tryz.prog 19 #[gv, .slice A n cL] w fun e w' => e = .returned (.tuple #[.int .i64 0, .int .i64 er]) ∧ Ext w w' := by
  have hW' := hide hW
  have her' : (er != 0) = true := by simpa using her
  clear hW her
  go_enter Tryz.func19, Tryz.ntmps19
  try dsimp only
  repeat (first | (with_reducible refine wp_reg (id := 1) ?_) | go_values | go_step | go_guarded | go_upon | go_in | go_back | fail)
  iterate 2
    refine wpO_want rfl ?_
    go_simp
  refine wpO_done ?_
  try go_frame
  have hx1 := hide (ext_self1 w (.cells #[.int .i64 (-1)] 3))
  generalize w.alloc (.cells #[.int .i64 (-1)] 3) = w1 at *
  go_wp2_with fail
  refine (unhide hW' _ _ w1 (unhide hx1)).mono ?_
  rintro e w2 ⟨rfl, hx2⟩
  have hx2' := hide ((unhide hx1).trans hx2)
  clear hx2
  go_wp2_with fail
  go_ret2
  exact ⟨rfl, unhide hx2'⟩

set_option maxRecDepth 100000 in
set_option maxHeartbeats 4000000 in
theorem parents_err (gv : Value) (A : Option Addr) (L : List Int) (cL : Nat) (er : Int) (w : World) (hW : WErr gv A L.length cL er w) (hL : SlAt encI 1 w A L) (hl : L.length ≤ 4611686018427387904) (hLk : ∀ x ∈ L, i64ok x) :
    Calls Tryz.prog 12 #[gv, .slice A L.length cL] w fun e w' => e = .returned (.tuple #[.slice none 0 0, .int .i64 er]) ∧ Ext w w' := by
  have hW' := hide hW
  have hL' := hide hL
  have hLk' := hide hLk
  clear hW hL hLk
  go_enter Tryz.func12, Tryz.ntmps12
  try dsimp only
  repeat (first | (with_reducible refine wp_reg (id := 1) ?_) | go_values | go_step | go_guarded | go_upon | go_in | go_back | fail)
  have hmm := @run_makeMap Tryz.prog
  iterate 3
    refine wpO_want rfl ?_
    go_simp
  refine wpO_done ?_
  clear hmm
  have hB8 := hide (Blk.new (w.alloc (.map #[] 0)) 92 #[.map (some w.heap.size)])
  have hM8 := hide ((MapIs.made (ek := ekV) (ev := evI) (ok := i64ok) w).ext (ext_self1 _ (.cells #[.map (some w.heap.size)] 92)))
  have hx8 := hide (ext_self2 w (.map #[] 0) (.cells #[.map (some w.heap.size)] 92))
  simp only [World.size_alloc] at hB8
  generalize (w.alloc (.map #[] 0)).alloc (.cells #[.map (some w.heap.size)] 92) = W2 at *
  go_wp2_with fail
  go_loopw [14] (fun i wr => ∃ k : Nat, k ≤ L.length ∧ i = .int .i64 k ∧ Blk wr (w.heap.size + 1) 92 #[.map (some w.heap.size)] ∧ MapIs ekV evI i64ok wr w.heap.size (plK L k) ∧ Ext w wr) (fun i _ => L.length - (intOf i).toNat)
  case atStart => exact ⟨0, Nat.zero_le _, rfl, unhide hB8, unhide hM8, unhide hx8⟩
  case round =>
    obtain ⟨k, hk, rfl, hB, hM, hx⟩ := hrel
    have hB' := hide hB
    have hM' := hide hM
    have hx' := hide hx
    clear hB8 hM8 hx8
    by_cases hlt : k < L.length
    · obtain ⟨b, off, rfl, c0⟩ := atI ((unhide hL').ext hx) hlt
      have hnx := hide (plK_next L k hlt)
      have hxk := hide (unhide hLk' L[k] (List.getElem_mem hlt))
      generalize L[k] = x at c0 hnx hxk
      have hself := Ext.refl wr
      have q0 := hB.cells 0 (v := .map (some w.heap.size)) rfl
      clear hB hM hx
      try dsimp only
      repeat (first | (with_reducible refine wp_reg (id := 4) ?_) | go_values | go_step | go_guarded | go_upon | go_in | go_back | fail)
      iterate 5
        refine wpO_want rfl ?_
        go_simp
      refine wpO_done ?_
      try go_frame
      try dsimp only
      repeat (first | (with_reducible refine wp_reg (id := 5) ?_) | go_values | go_step | go_guarded | go_upon | go_in | go_back | fail)
      iterate 3
        refine wpO_want rfl ?_
        go_simp
      refine wpO_upd rfl keV Tryz.underlying92 (unhide hM') (unhide hxk) (k : Int) rfl rfl rfl rfl ?_
      intro w4 hm4 hk4 hs4
      refine wpO_done ?_
      try go_frame
      rw [← unhide hnx] at hm4
      have hM4 := hide hm4
      have hB4 := hide ((unhide hB').keep hk4 (by simp))
      have hx4 := hide ((unhide hx').of_new hk4 (by simp))
      clear hm4 hk4 hs4 hM' hB' hx' c0 q0 hself hnx
      go_wp2_with fail
      go_roundw
      case rel => exact ⟨k + 1, by omega, by go_num, unhide hB4, unhide hM4, unhide hx4⟩
      case measure => simp [intOf]; omega
    · have hke : k = L.length := by omega
      subst hke
      clear hB hM hx
      try dsimp only
      repeat (first | (with_reducible refine wp_reg (id := 7) ?_) | go_values | go_step | go_guarded | go_upon | go_in | go_back | fail)
      refine wpO_want rfl ?_
      go_simp
      refine wpO_done ?_
      try go_frame
      have hBl := hide (Blk.new wr 29 #[.slice none 0 0])
      have hx1 := hide ((unhide hx').trans (ext_self1 wr (.cells #[.slice none 0 0] 29)))
      generalize wr.alloc (.cells #[.slice none 0 0] 29) = w1 at *
      clear hB' hM' hx'
      go_wp2_with fail
      refine (unhide hW' _ _ w1 (unhide hx1)).mono ?_
      rintro e w2 ⟨rfl, hx2⟩
      have hB2 := (unhide hBl).ext hx2
      have c0 := hB2.cells 0 (v := .slice none 0 0) rfl
      have hx2' := hide ((unhide hx1).trans hx2)
      have hself := Ext.refl w2
      clear hx2 hB2
      go_wp2_with fail
      go_ret2
      exact ⟨rfl, unhide hx2'⟩
theorem height_err (gv : Value) (A : Option Addr) (L : List Int) (cL : Nat) (er : Int) (w : World) (hW : WErr gv A L.length cL er w) (hL : SlAt encI 1 w A L) (hl : L.length ≤ 4611686018427387904) (hLk : ∀ x ∈ L, i64ok x) :
    Calls Tryz.prog 13 #[gv, .slice A L.length cL] w fun e w' => e = .returned (.tuple #[.int .i64 0, .int .i64 er]) ∧ Ext w w' :=
  height_gen gv (.slice A L.length cL) [] er w (fun i h => by simp at h) (by simp) ((parents_err gv A L cL er w hW hL hl hLk).mono fun e w' ⟨h1, h2⟩ => ⟨none, 0, h1, SlAt.nil, h2⟩)

set_option maxRecDepth 100000 in
set_option maxHeartbeats 4000000 in
theorem filled_err (gv : Value) (A : Option Addr) (n cL : Nat) (er : Int) (w : World) (hW : WErr gv A n cL er w) (her : er ≠ 0) :
    Calls Tryz.prog 33 #[gv, .slice A n cL] w fun e w' => e = .returned (.tuple #[.pointer none, .int .i64 er]) ∧ Ext w w' := by
  have hW' := hide hW
  have her' : (er != 0) = true := by simpa using her
  clear hW her
  go_enter Tryz.func33, Tryz.ntmps33
  go_wp2_with fail
  refine (fill_err gv A n cL er w (unhide hW')).mono ?_
  rintro e w1 ⟨rfl, hx1⟩
  have hx1' := hide hx1
  clear hx1
  go_wp2_with fail
  go_ret2
  exact ⟨rfl, unhide hx1'⟩
end Go.Proofs.YtjehhilijeajnaaGreatDoor
/- append OF ANY SLICE; elimination.FilledGraph. Conditions: see each theorem. -/
namespace Go.Proofs.YtjehhilijeajnaaGreatDoor
open Go Go.RowKit Go.Shelf
attribute [local go_sem] qUpon lUpon

section
variable {α : Type} {enc : α → List Value} {T ST : TypeId} {k byt : Nat} {ρ : Operand → Value} {o : Oper} {s x : Operand} {W : World}
/-- 'append(s, news...)', the news lying anywhere, or nowhere -/
theorem run_apA (hi0 : (Tryz.prog.info? T).map (fun i => (i.zero.map (·.cells.size), i.size, i.bytes)) = some (some k, k, byt)) (hu : Tryz.prog.underlying ST = some (.slice T)) (hone : ∀ x, ∀ v ∈ enc x, v.oneCell' = true) (hlen : ∀ x, (enc x).length = k) (hk : 0 < k) (hby : byt ≤ 1000)
    (ho : o.op = .call { callee := .builtin .append, args := #[s, x], argTypes := #[ST, ST] }) {base : Nat} {v : Value} {n : Nat} {xs : List α} (ys : List α) {m c : Nat} {A : Option Addr} (hs : ρ s = v) (hx : ρ x = .slice A m c) (hm : ys.length = m) (hsrc : SlAt enc k W A ys)
    (hown : W.ownsRow base T k v n (xs.flatMap enc)) (hl : n + m ≤ 100000000) (hb : base ≤ W.heap.size) :
    ∃ A' c' w', (execOp ρ o).run Tryz.prog W = .ok (.value (.slice A' (n + m) c')) w' ∧ w'.ownsRow base T k (.slice A' (n + m) c') (n + m) ((xs ++ ys).flatMap enc) ∧ W.grownBy w' v.ownBlock ∧ (Value.ownBlock (.slice A' (n + m) c') = v.ownBlock ∨ Value.ownBlock (.slice A' (n + m) c') = some W.heap.size) := by
  cases ys with
  | cons y ys =>
    obtain ⟨b, off, rfl, _, _⟩ := hsrc (by simp)
    exact run_apS hi0 hu hone hlen hk hby ho (y :: ys) hs hx hm hsrc hown hl hb
  | nil =>
    obtain rfl : m = 0 := by simpa using hm.symm
    obtain ⟨i0, hi, hi1⟩ := Option.map_eq_some_iff.1 hi0
    simp only [Prod.mk.injEq] at hi1
    obtain ⟨hz1, hz2, hz3⟩ := hi1
    obtain ⟨A1, c1, rfl⟩ := own_slice hown
    have hle : n ≤ c1 := by
      rcases hown.2 with ⟨he, h0⟩ | ⟨g, cap, cur, he, _, _, hn, _⟩
      · omega
      · injection he with _ _ he
        omega
    have hsr : Src Tryz.prog i0.size ST (.slice A 0 c) 0 [] W := by
      cases A with
      | none => exact Src.ofNil W hu c
      | some a => exact Src.ofSlice W hu a 0 c [] (by simp) (by simp) (by simp)
    refine ⟨A1, c1, W, ?_, by simpa using hown, World.grownBy.refl _ _, .inl rfl⟩
    unfold execOp
    have := run_append_nothing (P := Tryz.prog) W ST ST o.type T i0 hu hi A1 n c1 hle (.slice A 0 c) hsr
    simp only [ho, resolve, invoke, builtin, Sem.run_bind, Sem.run_pure, Result.andThen_ok, List.map_toArray, List.map_cons, List.map_nil, hs, hx, this]
    simp
theorem wpO_apA {l : List Oper} {K : Act → World → Prop} {r : List Oper} {a : Act} (hw : Region.wanted o (yielded l.toArray a.tmps) = true) (hi0 : (Tryz.prog.info? T).map (fun i => (i.zero.map (·.cells.size), i.size, i.bytes)) = some (some k, k, byt)) (hu : Tryz.prog.underlying ST = some (.slice T)) (hone : ∀ x, ∀ v ∈ enc x, v.oneCell' = true) (hlen : ∀ x, (enc x).length = k) (hk : 0 < k) (hby : byt ≤ 1000)
    (ho : o.op = .call { callee := .builtin .append, args := #[s, x], argTypes := #[ST, ST] }) {base : Nat} {v : Value} {n : Nat} {xs : List α} (ys : List α) {m c : Nat} {A : Option Addr} (hs : a.eval s = v) (hx : a.eval x = .slice A m c) (hm : ys.length = m) (hsrc : SlAt enc k W A ys)
    (hown : W.ownsRow base T k v n (xs.flatMap enc)) (hl : n + m ≤ 100000000) (hb : base ≤ W.heap.size)
    (h : ∀ A' c' w', w'.ownsRow base T k (.slice A' (n + m) c') (n + m) ((xs ++ ys).flatMap enc) → W.grownBy w' v.ownBlock → (Value.ownBlock (.slice A' (n + m) c') = v.ownBlock ∨ Value.ownBlock (.slice A' (n + m) c') = some W.heap.size) → wpO Tryz.prog l K r (a.put o.dst (.slice A' (n + m) c')) w') : wpO Tryz.prog l K (o :: r) a W := by
  obtain ⟨A', c', w', h1, h2, h3, h4⟩ := run_apA hi0 hu hone hlen hk hby ho ys hs hx hm hsrc hown hl hb
  exact wpO_val hw h1 (h A' c' w' h2 h3 h4)
end

/-- edges added one by one -/
def addS (V : List (Int × Thing)) (E C : List ((Int × Int) × Thing)) : GS := C.foldl stE (V, E)
def addErr (V : List (Int × Thing)) (E C : List ((Int × Int) × Thing)) : Int := fe erE stE C (V, E)
theorem build_add {V : List (Int × Thing)} {E : List ((Int × Int) × Thing)} (h : GInv V E) (C : List ((Int × Int) × Thing)) : bErr V (E ++ C) = addErr V E C ∧ bS V (E ++ C) = addS V E C := by
  have h1 := redoV V [] (by simpa using h.sv) (by simpa using h.ids) (by simpa using h.wv)
  have h2 := redoE V E [] (by simpa using h)
  have e1 : bS1 V = (V, []) := h1.1
  unfold bErr bS addErr addS
  rw [e1, if_pos h1.2, fe_append, if_pos h2.2, List.foldl_append, h2.1]
  exact ⟨rfl, rfl⟩
def FlPost (V : List (Int × Thing)) (E C : List ((Int × Int) × Thing)) (w : World) (e : Ending) (w' : World) : Prop :=
  (addErr V E C = 0 ∧ ∃ g bv be, e = .returned (.tuple #[.pointer (some ⟨g, 0, none⟩), .int .i64 0]) ∧ IsG w' g bv be (addS V E C).1 (addS V E C).2 ∧ Ext w w' ∧ w.heap.size ≤ g ∧ w.heap.size ≤ bv ∧ w.heap.size ≤ be) ∨
  (addErr V E C ≠ 0 ∧ e = .returned (.tuple #[.pointer none, .int .i64 (addErr V E C)]) ∧ Ext w w')
theorem okEdP {p : Int × Int} (h1 : i64ok p.1) (h2 : i64ok p.2) : okEd (edgeP p) := ⟨h1, h2, by unfold i64ok; simp [edgeP]⟩

set_option maxRecDepth 100000 in
set_option maxHeartbeats 4000000 in
theorem filled_ok (A : Option Addr) (L : List Int) (cL : Nat) (g bv be : Nat) (V : List (Int × Thing)) (E : List ((Int × Int) × Thing)) (w : World) (hL : SlAt encI 1 w A L) (hl : L.length ≤ 100) (hg : IsG w g bv be V E) (hT : Tab w) (hck : checkS L V = 0) :
    Calls Tryz.prog 33 #[.pointer (some ⟨g, 0, none⟩), .slice A L.length cL] w (FlPost V E ((fillS (comeK E L L.length)).map edgeP) w) := by
  have hi := hg.inv
  have ho := check_ord hi hck
  have hC : ∀ d ∈ (fillS (comeK E L L.length)).map edgeP, okEd d := by
    intro d hd
    obtain ⟨p, hp, rfl⟩ := List.mem_map.1 hd
    have hp2 := (mem_comeK hi ho (Nat.le_refl _)).1 ((fillS_perm _).mem_iff.1 hp)
    obtain ⟨h1, h2⟩ := Adj.mem hi ho hp2.2.1
    exact okEdP (okK (ho.rng hi h1)) (okK (ho.rng hi h2))
  have hCl : ((fillS (comeK E L L.length)).map edgeP).length ≤ 1000000 := by
    have h1 := comeK_len hi ho hl (k := L.length) (Nat.le_refl _)
    have h3 : L.length * 10000 ≤ 100 * 10000 := Nat.mul_le_mul_right _ hl
    rw [List.length_map, (fillS_perm _).length_eq]
    omega
  have hfil := fill_ok A L cL g bv be V E w hL hl hg hT hck
  have hfil' := hide hfil
  obtain ⟨C, hCe⟩ : ∃ C, C = (fillS (comeK E L L.length)).map edgeP := ⟨_, rfl⟩
  rw [← hCe] at hC hCl hfil'
  rw [← hCe]
  have hg' := hide hg
  have hC' := hide hC
  have hCl' := hide hCl
  have hE' := hide hg.nE
  have hV' := hide hg.nV
  have hoE := hide hi.okE
  have hoV := hide hi.okV
  obtain ⟨hb1, hb2⟩ := build_add hi C
  have hb1' := hide hb1
  have hb2' := hide hb2
  clear hi ho hC hCl hfil hCe hL hl hg hT hck hb1 hb2
  go_enter Tryz.func33, Tryz.ntmps33
  go_wp2_with fail
  refine (unhide hfil').mono ?_
  rintro e w1 ⟨A1, c1, rfl, ho1, hx1⟩
  have hs1 := hide (own_at ho1 (fun _ => rfl))
  have hx1' := hide hx1
  clear ho1 hx1 hfil'
  try dsimp only
  repeat (first | (with_reducible refine wp_reg (id := 4) ?_) | go_values | go_step | go_guarded | go_upon | go_in | go_back | fail)
  refine wpO_want rfl ?_
  go_simp
  refine wpO_want rfl ?_
  go_simp
  refine (vertices_rel g bv be V E w1 ((unhide hg').ext (unhide hx1'))).mono ?_
  rintro e w2 ⟨A2, c2, rfl, ho2, hx2⟩
  refine ⟨_, rfl, ?_⟩
  have hs2 := hide (own_at ho2 (fun _ => rfl))
  have hx2' := hide ((unhide hx1').trans hx2)
  have hs12 := hide ((unhide hs1).ext hx2)
  clear ho2 hx2 hs1 hx1'
  refine wpO_want rfl ?_
  go_simp
  refine wpO_want rfl ?_
  go_simp
  refine (edges_rel g bv be V E w2 ((unhide hg').ext (unhide hx2'))).mono ?_
  rintro e w3 ⟨A3, c3, rfl, ho3, hx3⟩
  refine ⟨_, rfl, ?_⟩
  have ho3' := hide ho3
  have hx3' := hide ((unhide hx2').trans hx3)
  have hs13 := hide ((unhide hs12).ext hx3)
  have hx3w := hide hx3
  have hsz := hide (Below.size hx3)
  clear ho3 hx3 hs12
  refine wpO_want rfl ?_
  go_simp
  refine wpO_apA rfl infoGE Tryz.underlying46 one_encE (fun _ => rfl) (by decide) (by decide) rfl (v := .slice A3 E.length c3) C (A := A1) (c := c1) (m := C.length) rfl rfl rfl (unhide hs13) (unhide ho3') (by have := unhide hE'; have := unhide hCl'; omega) (unhide hsz) ?_
  intro A6 c6 w6 hown6 hg6 _
  have hsE := hide (own_at (enc := encE) (n := E.length + C.length) (xs := E ++ C) (by rw [List.length_append]; exact hown6) (fun _ => rfl))
  have hx6 := hide ((unhide hx3').of_new (Keep.of_grown hg6) (fun x hx => by have := (own_base (unhide ho3') (by simpa using hx)).1; have := Below.size (unhide hx2'); omega))
  have hx26 := (unhide hx3w).of_new (Keep.of_grown hg6) (fun x hx => (own_base (unhide ho3') (by simpa using hx)).1)
  have hs26 := hide ((unhide hs2).ext hx26)
  clear hown6 hg6 hs13 hs2 ho3' hsz hx26 hx3w
  try go_frame
  refine wpO_want rfl ?_
  go_simp
  obtain ⟨ne, hne⟩ : ∃ ne, ne = (E ++ C).length := ⟨_, rfl⟩
  have hbc := build_any A2 A6 V (E ++ C) c2 c6 w6 (unhide hs26) (unhide hsE) (unhide hoV) (fun d hd => by
    rcases List.mem_append.1 hd with h | h
    · exact unhide hoE d h
    · exact unhide hC' d h) (by have := unhide hV'; omega) (by have := unhide hE'; have := unhide hCl'; rw [List.length_append]; omega)
  rw [List.length_append] at hbc
  refine hbc.mono ?_
  rintro e w7 h7
  unfold BuildPost at h7
  rw [unhide hb1', unhide hb2'] at h7
  rcases h7 with ⟨h0, g', bv', be', rfl, hg7, hx7, n1, n2, n3⟩ | ⟨h0, rfl, hx7⟩
  · refine ⟨_, rfl, ?_⟩
    have hg7' := hide hg7
    have hx7' := hide ((unhide hx6).trans hx7)
    have h6 := Below.size (unhide hx6)
    have hn := hide (And.intro (Nat.le_trans h6 n1) (And.intro (Nat.le_trans h6 n2) (Nat.le_trans h6 n3)))
    have h0' := hide h0
    clear hg7 hx7 n1 n2 n3 h0 hbc h6
    iterate 4
      refine wpO_want rfl ?_
      go_simp
    refine wpO_done ?_
    try go_frame
    go_wp2_with fail
    go_ret2
    exact .inl ⟨unhide h0', g', bv', be', rfl, unhide hg7', unhide hx7', unhide hn⟩
  · refine ⟨_, rfl, ?_⟩
    have hx7' := hide ((unhide hx6).trans hx7)
    have h0' := hide h0
    clear hx7 h0 hbc
    iterate 4
      refine wpO_want rfl ?_
      go_simp
    refine wpO_done ?_
    try go_frame
    go_wp2_with fail
    go_ret2
    exact .inr ⟨unhide h0', rfl, unhide hx7'⟩
end Go.Proofs.YtjehhilijeajnaaGreatDoor
/- SLICES OF SLICES: what 's[:k]' and 's[k:]' read as. Conditions: see each theorem. -/
namespace Go.Proofs.YtjehhilijeajnaaGreatDoor
open Go Go.RowKit

section
variable {P : Program} {ρ : Operand → Value} {o : Oper} {T : TypeId} {p q : Operand} {w : World} {A : Option Addr} {n c k s : Nat}
theorem run_sl_to (ho : o.op = .slice T p none (some q) none) (hp : ρ p = .slice A n c) (hq : ρ q = .int .i64 (k : Int)) (ht : P.underlying T = some (.slice (P.elem T))) (hs : (sizeOf (P.elem T)).run P w = .ok s w) (hk : k ≤ c) : (execOp ρ o).run P w = .ok (.value (.slice A k c)) w := by
  have h := run_slice_h (w := w) T A n c ht .i64 (k : Int) (by omega) (by omega)
  rw [hs] at h
  simp only [Result.andThen_ok, sliced, Int.toNat_natCast, Nat.sub_zero] at h
  unfold execOp
  simp only [ho, hp, hq, Option.map]
  rw [Sem.run_bind, run_sliceAt_slice _ _ _ _ _ _ ht, h]
  simp only [Result.andThen_ok, Sem.run_pure]
  have hA : (if c = 0 then A else A.map fun x => x.add (0 * s)) = A := by
    split
    · rfl
    · cases A
      · rfl
      · simp [Addr.add]
  rw [hA]
/-- where the rest lies -/
def restA (A : Option Addr) (k c s : Nat) : Option Addr := if c = k then A else A.map (·.add (k * s))
theorem run_sl_from (ho : o.op = .slice T p (some q) none none) (hp : ρ p = .slice A n c) (hq : ρ q = .int .i64 (k : Int)) (ht : P.underlying T = some (.slice (P.elem T))) (hs : (sizeOf (P.elem T)).run P w = .ok s w) (hk : k ≤ n) : (execOp ρ o).run P w = .ok (.value (.slice (restA A k c s) (n - k) (c - k))) w := by
  have h := run_slice_l (w := w) T A n c ht .i64 (k : Int) (by omega) (by omega)
  rw [hs] at h
  simp only [Result.andThen_ok, sliced, Int.toNat_natCast] at h
  unfold execOp
  simp only [ho, hp, hq, Option.map]
  rw [Sem.run_bind, run_sliceAt_slice _ _ _ _ _ _ ht, h]
  simp [restA]
end
theorem SlAt.upto {α : Type} {enc : α → List Value} {kk : Nat} {w : World} {A : Option Addr} {xs : List α} (h : SlAt enc kk w A xs) (n : Nat) : SlAt enc kk w A (xs.take n) := fun hne => by
  obtain ⟨b, off, hA, hlt, hc⟩ := h (by rintro rfl; simp at hne)
  refine ⟨b, off, hA, hlt, fun i x hx j u hu => hc i x ?_ j u hu⟩
  rw [List.getElem?_take] at hx
  split at hx
  · exact hx
  · cases hx
/-- one taken out -/
theorem perm_out (o left : List Int) {k : Nat} (hk : k < left.length) : ((o ++ [left[k]]) ++ (left.take k ++ left.drop (k + 1))).Perm (o ++ left) := by
  rw [List.append_assoc]
  refine List.Perm.append_left o ?_
  have h1 : left = left.take k ++ left[k] :: left.drop (k + 1) := by rw [List.getElem_cons_drop, List.take_append_drop]
  have h2 := @List.perm_middle _ left[k] (left.take k) (left.drop (k + 1))
  rw [← h1] at h2
  exact h2.symm
theorem len_out (left : List Int) {k : Nat} (hk : k < left.length) : (left.take k ++ left.drop (k + 1)).length = left.length - 1 := by
  rw [List.length_append, List.length_take, List.length_drop]
  omega
theorem SlAt.rest {α : Type} {enc : α → List Value} {kk : Nat} {w : World} {A : Option Addr} {xs : List α} (h : SlAt enc kk w A xs) (k c : Nat) (hc : xs.length ≤ c) : SlAt enc kk w (restA A k c kk) (xs.drop k) := fun hne => by
  have hlt : k < xs.length := by
    rcases Nat.lt_or_ge k xs.length with h1 | h1
    · exact h1
    · exact absurd (List.drop_eq_nil_of_le h1) hne
  obtain ⟨b, off, rfl, hb, hx⟩ := h (by rintro rfl; simp at hlt)
  refine ⟨b, off + k * kk, ?_, hb, fun i x hi j u hu => ?_⟩
  · unfold restA
    rw [if_neg (by omega)]
    simp [Addr.add]
  · rw [List.getElem?_drop] at hi
    have := hx (k + i) x hi j u hu
    rw [Nat.add_mul] at this
    rw [show off + k * kk + i * kk + j = off + (k * kk + i * kk) + j by omega]
    exact this
end Go.Proofs.YtjehhilijeajnaaGreatDoor
/- law05.Made: the reference graph that edits make. Conditions: see each theorem. -/
namespace Go.Proofs.YtjehhilijeajnaaGreatDoor
open Go Go.RowKit
attribute [local go_sem] qUpon lUpon

def stD (s : GS) (d : Ed) : GS := (nxV d.1 d.2.1 d.2.2.1 d.2.2.2.1 d.2.2.2.2 s.1 s.2, nxE d.1 d.2.1 d.2.2.1 d.2.2.2.1 d.2.2.2.2 s.1 s.2)
def mdS (L : List Ed) : GS := (L.take 60).foldl stD ([], [])
theorem fold_inv : ∀ (L : List Ed) (s : GS), GInv s.1 s.2 → GInv (L.foldl stD s).1 (L.foldl stD s).2
  | [], _, h => h
  | d :: L, s, h => fold_inv L (stD s d) (h.next _ _ _ _ _)
theorem mdS_inv (L : List Ed) : GInv (mdS L).1 (mdS L).2 := fold_inv _ _ GInv.nil

structure MdRel (w wr : World) (gw : Nat) (S : GS) (A B : Option Addr) (cA cB : Nat) : Prop where
  blk : Blk wr gw 28 #[.slice A S.1.length cA, .slice B S.2.length cB]
  sv : SlAt encV 3 wr A S.1
  se : SlAt encE 4 wr B S.2
  ext : Ext w wr
  lo : w.heap.size ≤ gw
theorem MdRel.go {w wr wr' : World} {gw : Nat} {S : GS} {A B : Option Addr} {cA cB : Nat} (h : MdRel w wr gw S A B cA cB) (k : Ext wr wr') : MdRel w wr' gw S A B cA cB :=
  ⟨h.blk.ext k, h.sv.ext k, h.se.ext k, h.ext.trans k, h.lo⟩

set_option maxRecDepth 100000 in
set_option maxHeartbeats 4000000 in
theorem made_any (A : Option Addr) (L : List Ed) (cL : Nat) (w : World) (hL : SlAt encD 5 w A L) :
    Calls Tryz.prog 36 #[.slice A L.length cL] w fun e w' => ∃ A1 cA B1 cB, e = .returned (.agg #[.slice A1 (mdS L).1.length cA, .slice B1 (mdS L).2.length cB]) ∧ SlAt encV 3 w' A1 (mdS L).1 ∧ SlAt encE 4 w' B1 (mdS L).2 ∧ Ext w w' := by
  have hL' := hide hL
  clear hL
  have hb0 := (Blk.new w 28 #[.slice none 0 0, .slice none 0 0]).ext (ext_self1 _ (.cells #[.slice none 0 0, .slice none 0 0] 28))
  have hb1 := Blk.new (w.alloc (.cells #[.slice none 0 0, .slice none 0 0] 28)) 28 #[.slice none 0 0, .slice none 0 0]
  simp only [World.size_alloc] at hb1
  have hb0' := hide hb0
  have hb1' := hide hb1
  clear hb0 hb1
  go_enter Tryz.func36, Tryz.ntmps36
  go_wp2_with fail
  refine wp_abs (fun W => Blk W w.heap.size 28 #[.slice none 0 0, .slice none 0 0] ∧ MdRel w W (w.heap.size + 1) ([], []) none none 0 0) ⟨unhide hb0', unhide hb1', SlAt.nil, SlAt.nil, ext_self2 _ _ _, by omega⟩ ?_
  rintro w2 ⟨hq0, hr0⟩
  have hr0' := hide hr0
  have hq0' := hide hq0
  have hne' := hide (show w.heap.size ≠ w.heap.size + 1 by omega)
  clear hr0 hq0 hb0' hb1'
  generalize hr1 : w.heap.size + 1 = gw at *
  generalize hr2 : w.heap.size = ge at *
  have hge' := hide hr2
  clear hr1 hr2
  go_loopw [4] (fun i wr => ∃ (k : Nat) (A1 B1 : Option Addr) (cA cB : Nat), k ≤ L.length ∧ k ≤ 60 ∧ i = .int .i64 k ∧ Blk wr ge 28 #[.slice none 0 0, .slice none 0 0] ∧ MdRel w wr gw ((L.take k).foldl stD ([], [])) A1 B1 cA cB) (fun i _ => L.length - (intOf i).toNat)
  case atStart => exact ⟨0, none, none, 0, 0, Nat.zero_le _, by omega, rfl, unhide hq0', unhide hr0'⟩
  case round =>
    obtain ⟨k, A1, B1, cA, cB, hk, hk60, rfl, hq, hr⟩ := hrel
    have hr' := hide hr
    have hq' := hide hq
    clear hr hr0' hq hq0'
    by_cases hlt : k < L.length
    · by_cases h60 : k < 60
      · obtain ⟨b, off, rfl, c0, c1, c2, c3, c4⟩ := atD ((unhide hL').ext (unhide hr').ext) hlt
        have hst := hide (fold_step (st := stD) (s := (([], []) : GS)) hlt)
        have hin := hide (fold_inv (L.take k) ([], []) GInv.nil)
        generalize (L.take k).foldl stD ([], []) = S at *
        obtain ⟨V, E⟩ := S
        generalize hy : L[k] = y at c0 c1 c2 c3 c4 hst
        obtain ⟨op, u, v, lab, wt⟩ := y
        have hB0 := (unhide hr').blk
        have q0 := hB0.cells 0 (v := .slice A1 V.length cA) rfl
        have q1 := hB0.cells 1 (v := .slice B1 E.length cB) rfl
        clear hy hB0
        simp only at c0 c1 c2 c3 c4
        go_wp2_with fail
        refine wp_region_ext (P := Tryz.prog) [0,1,2,3,4] [5,6,7,8,9] 5 #[true,true,true,true,true,false,false,false,false,false] (by kernel_rfl) (by kernel_rfl) rfl (by rfl) ?_
        iterate 5
          refine ql_want (v := ?_) rfl (by rfl) (fun W hW => ?_) ?_
          rotate_left
          · go_simp
            first | done | rfl
          go_frame
        refine wpQL_nil (fun w3 hx3 => ?_)
        clear q0 q1 c0 c1 c2 c3 c4
        refine lx_one (i := 5) (by kernel_rfl) rfl (by rfl) #[true,true,true,true,true,true,false,false,false,false] (by rfl) ?_
        go_simp
        have hr3 := (unhide hr').go hx3
        have hq3 := (unhide hq').ext hx3
        refine (do_any A1 B1 V E cA cB op u v lab wt _ hr3.sv hr3.se (Nat.le_trans (unhide hin).nv (by omega)) (Nat.le_trans (unhide hin).ne (by omega))).mono ?_
        rintro e w4 ⟨A2, cA2, B2, cB2, rfl, hs4, he4, hx4⟩
        refine ⟨_, rfl, fun w5 hx5 => ?_⟩
        have hx35 := hx4.trans hx5
        have hb5 := hr3.blk.ext hx35
        have hc5 := hide (GCls.refl hb5)
        have hG5 : ∃ A n c B m d, Blk w5 gw 28 #[.slice A n c, .slice B m d] := ⟨_, _, _, _, _, _, hb5⟩
        have hG5' := hide hG5
        have hq5 := hide (hq3.ext hx35)
        have hs5 := hide (hs4.ext hx5)
        have he5 := hide (he4.ext hx5)
        have hxw5 := hide (hr3.ext.trans hx35)
        have hlo := hide hr3.lo
        clear hr3 hq3 hs4 he4 hx4 hx5 hx35 hb5 hG5 hx3 hr' hq'
        refine lx_re (GCls gw w5) [6,7,8] 1 4 #[true,true,true,true,true,true,false,false,false,false] #[true,true,true,true,true,true,true,true,true,false] (by kernel_rfl) (by kernel_rfl) rfl (by rfl) Ext.refl (fun _ _ _ => Ext.trans) (fun _ _ h k => h.ext k) (unhide hc5) ?_
        iterate 3
          refine ql_want (v := ?_) rfl (by rfl) (fun W hW => ?_) ?_
          rotate_left
          · go_simp
            first | done | rfl
          go_frame
        refine wpQL_nil (fun w6 hc6 => ?_)
        have hc6' := hide hc6
        obtain ⟨hk6, A0, n0, k0, B0, m0, d0, hb6⟩ := hc6
        have s0 := hb6.cell 0
        have s1 := hb6.cell 1
        have f0 := hb6.frozen 0
        have f1 := hb6.frozen 1
        have hb6' := hide hb6
        simp at s0 s1
        clear hk6 hb6
        refine lx_one (i := 9) (by kernel_rfl) rfl (by rfl) #[true,true,true,true,true,true,true,true,true,true] (by rfl) ?_
        go_simp
        clear s0 s1 f0 f1
        have hc7 := (unhide hc6').set A2 B2 (nxV op u v lab wt V E).length cA2 (nxE op u v lab wt V E).length cB2
        have hb7 := (unhide hb6').set2 (p' := .slice A2 (nxV op u v lab wt V E).length cA2) (q' := .slice B2 (nxE op u v lab wt V E).length cB2)
        generalize ((w6.setCell ⟨gw, 0, none⟩ (.slice A2 (nxV op u v lab wt V E).length cA2)).setCell ⟨gw, 1, none⟩ (.slice B2 (nxE op u v lab wt V E).length cB2)) = w7 at *
        first | refine ⟨hc7, ?_⟩ | skip
        intro w8 hx8
        have hrel := MdRel.go (w := w) (S := stD (V, E) (op, (u, (v, (lab, wt))))) ⟨hb7, (unhide hs5).cls hc7 (unhide hG5') encV_ns encV0, (unhide he5).cls hc7 (unhide hG5') encE_ns encE0, (unhide hxw5).of_new hc7.1 (by have := unhide hlo; simpa using this), unhide hlo⟩ hx8
        have hq8 := hide (((unhide hq5).keep hc7.1 (by simpa using unhide hne')).ext hx8)
        have hrel' := hide hrel
        clear hrel hc7 hb7 hc6' hb6' hx8 hc5 hG5' hq5 hs5 he5 hxw5 hlo
        refine wpX_done (by kernel_rfl) ?_
        try go_frame
        go_wp2_with fail
        go_roundw
        case rel => exact ⟨k + 1, A2, B2, cA2, cB2, by omega, by omega, by go_num, unhide hq8, by rw [unhide hst]; exact unhide hrel'⟩
        case measure => simp [intOf]; omega
      · have hS : L.take k = L.take 60 := by rw [show k = 60 by omega]
        rw [hS] at hr'
        clear hS
        generalize hmd : (L.take 60).foldl stD ([], []) = S at *
        have hmd' : mdS L = S := hmd
        have hmd'' := hide hmd'
        clear hmd hmd'
        have hB0 := (unhide hr').blk
        have q0 := hB0.cell 0
        have q1 := hB0.cell 1
        have s0 := (unhide hq').cell 0
        have s1 := (unhide hq').cell 1
        have f0 := (unhide hq').frozen 0
        have f1 := (unhide hq').frozen 1
        clear hB0
        simp at q0 q1 s0 s1
        go_wp2_with fail
        refine bodyPost_ret (ret_cell1 rfl rfl (load_G2 wr ge _ _ _ _ s0 s1)) rfl ?_
        rw [unhide hmd'']
        have hk := Keep.set2 wr ge (.slice A1 S.1.length cA) (.slice B1 S.2.length cB)
        exact ⟨A1, cA, B1, cB, rfl, (unhide hr').sv.keep_G (unhide hq') ⟨_, _, _, rfl⟩ ⟨_, _, _, rfl⟩ encV_ns encV0 hk, (unhide hr').se.keep_G (unhide hq') ⟨_, _, _, rfl⟩ ⟨_, _, _, rfl⟩ encE_ns encE0 hk, (unhide hr').ext.of_new hk (by have := unhide hge'; simp; omega)⟩
    · have hS : L.take k = L.take 60 := by rw [List.take_of_length_le (by omega), List.take_of_length_le (by omega)]
      rw [hS] at hr'
      clear hS
      generalize hmd : (L.take 60).foldl stD ([], []) = S at *
      have hmd' : mdS L = S := hmd
      have hmd'' := hide hmd'
      clear hmd hmd'
      have hB0 := (unhide hr').blk
      have q0 := hB0.cell 0
      have q1 := hB0.cell 1
      have s0 := (unhide hq').cell 0
      have s1 := (unhide hq').cell 1
      have f0 := (unhide hq').frozen 0
      have f1 := (unhide hq').frozen 1
      clear hB0
      simp at q0 q1 s0 s1
      go_wp2_with fail
      refine bodyPost_ret (ret_cell1 rfl rfl (load_G2 wr ge _ _ _ _ s0 s1)) rfl ?_
      rw [unhide hmd'']
      have hk := Keep.set2 wr ge (.slice A1 S.1.length cA) (.slice B1 S.2.length cB)
      exact ⟨A1, cA, B1, cB, rfl, (unhide hr').sv.keep_G (unhide hq') ⟨_, _, _, rfl⟩ ⟨_, _, _, rfl⟩ encV_ns encV0 hk, (unhide hr').se.keep_G (unhide hq') ⟨_, _, _, rfl⟩ ⟨_, _, _, rfl⟩ encE_ns encE0 hk, (unhide hr').ext.of_new hk (by have := unhide hge'; simp; omega)⟩
end Go.Proofs.YtjehhilijeajnaaGreatDoor
