/- Parts of a proof, laid together: Ac, R1, Np. Each part says its own conditions. -/
import Derived.Test.YtjehhilijeajnaaGreatDoorT5
import Derived.Test.YtjehhilijeajnaaGreatDoorT4
import Derived.Test.YtjehhilijeajnaaGreatDoorRp
/- WHAT THE FUNCTIONS HANDED TO walk COLLECT: slices that grow in a captured variable. Conditions: see each theorem. -/
namespace Go.Proofs.YtjehhilijeajnaaGreatDoor
open Go Go.RowKit
attribute [local go_sem] qUpon lUpon

/-- a captured variable at bl holds a slice of the call's own: xs -/
structure Acc {α : Type} (enc : α → List Value) (T ST k base bl : Nat) (xs : List α) (v : Value) (W : World) : Prop where
  cell : Blk W bl ST #[v]
  own : W.ownsRow base T k v xs.length (xs.flatMap enc)
  lt : bl < base
  le : base ≤ W.heap.size
def accT (bl : Nat) (v : Value) : List Nat := bl :: v.ownBlock.toList
section
variable {α : Type} {enc : α → List Value} {T ST k base bl : Nat} {xs : List α} {v : Value} {W W' : World}
theorem Acc.keep {S : List Nat} (h : Acc enc T ST k base bl xs v W) (hk : Keep S W W') (hS : ∀ x ∈ S, x ∉ accT bl v) : Acc enc T ST k base bl xs v W' :=
  ⟨h.cell.keep hk (fun hm => hS _ hm (by simp [accT])), own_keep h.own hk (fun g hg e => hS g hg (by simp [accT, e])), h.lt, Nat.le_trans h.le hk.size⟩
theorem Acc.ext (h : Acc enc T ST k base bl xs v W) (hx : Ext W W') : Acc enc T ST k base bl xs v W' := h.keep (hx.keep []) (by simp)
theorem Acc.below (h : Acc enc T ST k base bl xs v W) : ∀ x ∈ accT bl v, x < W.heap.size := by
  intro x hx
  simp only [accT, List.mem_cons, Option.mem_toList] at hx
  rcases hx with rfl | hx
  · exact h.cell.lt
  · exact (own_base h.own hx).2.1
theorem Acc.new (w : World) : Acc enc T ST k (w.heap.size + 1) w.heap.size [] (.slice none 0 0) (w.alloc (.cells #[.slice none 0 0] ST)) :=
  ⟨Blk.new _ _ _, World.ownsRow_nil _ _ _ _, by omega, by simp⟩
theorem Acc.slice (h : Acc enc T ST k base bl xs v W) (hk : ∀ x, (enc x).length = k) : ∃ A c, v = .slice A xs.length c ∧ SlAt enc k W A xs := SlAt.of_own h.own hk
/-- one more -/
theorem Acc.push {W1 w6 : World} {v' : Value} {ys : List α} {n : Nat} (h : Acc enc T ST k base bl xs v W) (hx : Ext W W1) (hown : w6.ownsRow base T k v' n (ys.flatMap enc)) (hn : n = ys.length) (hg : W1.grownBy w6 v.ownBlock) (hat : v'.ownBlock = v.ownBlock ∨ v'.ownBlock = some W1.heap.size) :
    Acc enc T ST k base bl ys v' (w6.setCell ⟨bl, 0, none⟩ v') ∧ Keep (accT bl v) W (w6.setCell ⟨bl, 0, none⟩ v') ∧ (∀ x ∈ accT bl v', x ∈ accT bl v ∨ W.heap.size ≤ x) ∧ w6.cell? ⟨bl, 0, none⟩ = some v ∧ w6.frozen? ⟨bl, 0, none⟩ = false := by
  subst hn
  have hk6 := (hx.keep v.ownBlock.toList).trans (Keep.of_grown hg)
  have hne : bl ∉ v.ownBlock.toList := fun hm => by
    have h1 := (own_base h.own (by simpa using hm)).1
    have := h.lt
    omega
  have hc6 := h.cell.keep hk6 hne
  have hsz := Below.size hx
  refine ⟨⟨hc6.set 0 v', own_keep hown (Keep.setCell w6 bl 0 v') (fun g hg e => ?_), h.lt, ?_⟩, ?_, fun x hx' => ?_, ?_, hc6.frozen 0⟩
  · rw [List.mem_singleton] at hg
    have := (own_base hown e).1
    have := h.lt
    omega
  · have := h.le
    have := hk6.size
    have := (Keep.setCell w6 bl 0 v').size
    omega
  · exact (hk6.mono fun z hz => by simp [accT] at hz ⊢; exact .inr hz).trans ((Keep.setCell w6 bl 0 v').mono fun z hz => by simp [accT] at hz ⊢; exact .inl hz)
  · simp only [accT, List.mem_cons, Option.mem_toList] at hx' ⊢
    rcases hx' with rfl | hx'
    · exact .inl (.inl rfl)
    · rcases hat with e | e
      · rw [e] at hx'; exact .inl (.inr hx')
      · rw [e] at hx'
        simp at hx'
        right; omega
  · rw [hc6.cell 0]; rfl
end

def encSt (p : Int × Nat) : List Value := (stepC p.1 p.2).toList
theorem one_encSt (p : Int × Nat) : ∀ v ∈ encSt p, v.oneCell' = true := stepC_one p.1 p.2
theorem infoSt : (Tryz.prog.info? 58).map (fun i => (i.zero.map (·.cells.size), i.size, i.bytes)) = some (some 17, 17, 136) := by kernel_rfl
def encS (N : Nat) : List Value := (setC N).toList
theorem infoS : (Tryz.prog.info? 56).map (fun i => (i.zero.map (·.cells.size), i.size, i.bytes)) = some (some 16, 16, 128) := by kernel_rfl
theorem encS_len (N : Nat) : (encS N).length = 16 := rfl
set_option maxRecDepth 100000 in
theorem run_bs_step {ρ : Operand → Value} {o : Oper} {q : Operand} {w : World} {x : Int} {s : Nat} (ho : o.op = .buildSlice 43 1 #[(0, q)]) (hq : ρ q = .agg (stepC x s)) : (execOp ρ o).run Tryz.prog w = .ok (.value (.slice (some ⟨w.heap.size, 0, none⟩) 1 1)) (w.alloc (.cells (stepC x s) 58)) := by
  unfold execOp
  simp only [ho, List.map_toArray, List.map_cons, List.map_nil, hq]
  kernel_rfl
set_option maxRecDepth 100000 in
theorem run_bs_set {ρ : Operand → Value} {o : Oper} {q : Operand} {w : World} {s : Nat} (ho : o.op = .buildSlice 67 1 #[(0, q)]) (hq : ρ q = .agg (setC s)) : (execOp ρ o).run Tryz.prog w = .ok (.value (.slice (some ⟨w.heap.size, 0, none⟩) 1 1)) (w.alloc (.cells (setC s) 56)) := by
  unfold execOp
  simp only [ho, List.map_toArray, List.map_cons, List.map_nil, hq]
  kernel_rfl

set_option maxRecDepth 100000 in
set_option maxHeartbeats 4000000 in
theorem stepFn (k : Nat) (x : Int) (s : Nat) (Ac : Option Addr) (n cc base bl : Nat) (xs : List (Int × Nat)) (v : Value) (w : World) (h : Acc encSt 58 43 17 base bl xs v w) (hn : xs.length ≤ 10000000) :
    Calls Tryz.prog 45 #[.int .i64 k, .agg (stepC x s), .slice Ac n cc, .pointer (some ⟨bl, 0, none⟩)] w fun e w' => (∃ v, e = .returned v) ∧ ∃ v', Acc encSt 58 43 17 base bl (xs ++ [(x, s)]) v' w' ∧ Keep (accT bl v) w w' ∧ ∀ y ∈ accT bl v', y ∈ accT bl v ∨ w.heap.size ≤ y := by
  have h' := hide h
  have hn' := hide hn
  clear h hn
  go_enter Tryz.func45, Tryz.ntmps45
  try dsimp only
  repeat (first | (with_reducible refine wp_reg (id := 0) ?_) | go_values | go_step | go_guarded | go_upon | go_in | go_back | fail)
  refine wpO_want rfl ?_
  go_simp
  refine wpO_done ?_
  try go_frame
  have hB := hide (Blk.new w 58 (stepC x s))
  have hx1 := hide (ext_self1 w (.cells (stepC x s) 58))
  generalize w.alloc (.cells (stepC x s) 58) = w1 at *
  have c0 := ((unhide h').cell.ext (unhide hx1)).cells 0 (v := v) rfl
  have hself := Ext.refl w1
  try dsimp only
  repeat (first | (with_reducible refine wp_reg (id := 1) ?_) | go_values | go_step | go_guarded | go_upon | go_in | go_back | fail)
  refine wpO_want rfl ?_
  go_simp
  refine wpO_val rfl (run_load_agg (T := 58) (cs := stepC x s) rfl rfl (by simp [go_sem]) (by simp [go_sem]; rfl) (unhide hB).whole) ?_
  refine wpO_val rfl (run_bs_step (x := x) (s := s) rfl rfl) ?_
  go_frame
  have hB2 : Blk (w1.alloc (.cells (stepC x s) 58)) w1.heap.size 58 (encSt (x, s)).toArray := Blk.new w1 58 (stepC x s)
  have hx2 := ext_self1 w1 (.cells (stepC x s) 58)
  refine wpO_ap1 rfl infoSt Tryz.underlying43 one_encSt (fun _ => rfl) (by decide) (by decide) rfl (v := v) (x, s) rfl rfl hB2 (own_ext (unhide h').own ((unhide hx1).trans hx2)) (unhide hn') (Nat.le_trans (unhide h').le (Below.size ((unhide hx1).trans hx2))) ?_
  intro A6 c6 w6 hown6 hg6 hat6
  obtain ⟨n1, hlen⟩ : ∃ n1, n1 = xs.length + 1 := ⟨_, rfl⟩
  rw [← hlen] at hown6 hat6 ⊢
  obtain ⟨p1, p2, p3, p4, p5⟩ := (unhide h').push ((unhide hx1).trans hx2) hown6 (by rw [hlen]; simp) hg6 hat6
  have p1' := hide p1
  have p2' := hide p2
  have p3' := hide p3
  clear p1 p2 p3 hown6 hg6 hat6 hB2 hx2 hlen
  try go_frame
  refine wpO_want rfl ?_
  go_simp
  refine wpO_done ?_
  go_wp2_with fail
  go_end0
  exact ⟨⟨_, rfl⟩, _, unhide p1', unhide p2', unhide p3'⟩

set_option maxRecDepth 100000 in
set_option maxHeartbeats 4000000 in
theorem highFn (k : Nat) (x : Int) (s : Nat) (Ac : Option Addr) (n cc base bl : Nat) (xs : List Nat) (v : Value) (w : World) (h : Acc encS 56 67 16 base bl xs v w) (hn : xs.length ≤ 10000000) :
    Calls Tryz.prog 58 #[.int .i64 k, .agg (stepC x s), .slice Ac n cc, .pointer (some ⟨bl, 0, none⟩)] w fun e w' => (∃ v, e = .returned v) ∧ ∃ v', Acc encS 56 67 16 base bl (xs ++ [s]) v' w' ∧ Keep (accT bl v) w w' ∧ ∀ y ∈ accT bl v', y ∈ accT bl v ∨ w.heap.size ≤ y := by
  have h' := hide h
  have hn' := hide hn
  clear h hn
  go_enter Tryz.func58, Tryz.ntmps58
  try dsimp only
  repeat (first | (with_reducible refine wp_reg (id := 0) ?_) | go_values | go_step | go_guarded | go_upon | go_in | go_back | fail)
  refine wpO_want rfl ?_
  go_simp
  refine wpO_done ?_
  try go_frame
  have hB := hide (Blk.new w 58 (stepC x s))
  have hx1 := hide (ext_self1 w (.cells (stepC x s) 58))
  generalize w.alloc (.cells (stepC x s) 58) = w1 at *
  have c0 := ((unhide h').cell.ext (unhide hx1)).cells 0 (v := v) rfl
  have hself := Ext.refl w1
  try dsimp only
  repeat (first | (with_reducible refine wp_reg (id := 1) ?_) | go_values | go_step | go_guarded | go_upon | go_in | go_back | fail)
  iterate 2
    refine wpO_want rfl ?_
    go_simp
  refine wpO_val rfl (load_SetR (N := s) rfl rfl ((unhide hB).sub (stepC_set x s))) ?_
  refine wpO_val rfl (run_bs_set (s := s) rfl rfl) ?_
  go_frame
  have hB2 : Blk (w1.alloc (.cells (setC s) 56)) w1.heap.size 56 (encS s).toArray := Blk.new w1 56 (setC s)
  have hx2 := ext_self1 w1 (.cells (setC s) 56)
  refine wpO_ap1 rfl infoS Tryz.underlying67 (fun N => setC_one N) encS_len (by decide) (by decide) rfl (v := v) s rfl rfl hB2 (own_ext (unhide h').own ((unhide hx1).trans hx2)) (unhide hn') (Nat.le_trans (unhide h').le (Below.size ((unhide hx1).trans hx2))) ?_
  intro A6 c6 w6 hown6 hg6 hat6
  obtain ⟨n1, hlen⟩ : ∃ n1, n1 = xs.length + 1 := ⟨_, rfl⟩
  rw [← hlen] at hown6 hat6 ⊢
  obtain ⟨p1, p2, p3, p4, p5⟩ := (unhide h').push ((unhide hx1).trans hx2) hown6 (by rw [hlen]; simp) hg6 hat6
  have p1' := hide p1
  have p2' := hide p2
  have p3' := hide p3
  clear p1 p2 p3 hown6 hg6 hat6 hB2 hx2 hlen
  try go_frame
  refine wpO_want rfl ?_
  go_simp
  refine wpO_done ?_
  go_wp2_with fail
  go_end0
  exact ⟨⟨_, rfl⟩, _, unhide p1', unhide p2', unhide p3'⟩

set_option maxRecDepth 100000 in
set_option maxHeartbeats 4000000 in
theorem widthFn (k : Nat) (x : Int) (s : Nat) (Ac : Option Addr) (n cc bn : Nat) (m : Int) (w : World) (h : Blk w bn 3 #[.int .i64 m]) :
    Calls Tryz.prog 46 #[.int .i64 k, .agg (stepC x s), .slice Ac n cc, .pointer (some ⟨bn, 0, none⟩)] w fun e w' => (∃ v, e = .returned v) ∧ Blk w' bn 3 #[.int .i64 (max m (cntF s 1024))] ∧ Keep [bn] w w' := by
  have h' := hide h
  have hlt := hide h.lt
  clear h
  go_enter Tryz.func46, Tryz.ntmps46
  try dsimp only
  repeat (first | (with_reducible refine wp_reg (id := 0) ?_) | go_values | go_step | go_guarded | go_upon | go_in | go_back | fail)
  refine wpO_want rfl ?_
  go_simp
  refine wpO_done ?_
  try go_frame
  have hB := hide (Blk.new w 58 (stepC x s))
  have hx1 := hide (ext_self1 w (.cells (stepC x s) 58))
  generalize w.alloc (.cells (stepC x s) 58) = w1 at *
  have c0 := ((unhide h').ext (unhide hx1)).cells 0 (v := .int .i64 m) rfl
  have hself := Ext.refl w1
  go_wp2_with fail
  refine wp_region_ext (P := Tryz.prog) [0,1,2,3,4] [5] 1 #[true,true,true,true,true,false] (by kernel_rfl) (by kernel_rfl) rfl (by rfl) ?_
  iterate 2
    refine ql_want (v := ?_) rfl (by rfl) (fun W hW => ?_) ?_
    rotate_left
    · go_simp
      first | done | rfl
    go_frame
  refine ql_want (v := .agg (setC s)) rfl (by rfl) (fun W hW => by rw [load_SetR rfl rfl (((unhide hB).ext hW).sub (stepC_set x s))]; exact qUpon_value (Ext.refl _)) ?_
  go_frame
  iterate 2
    refine ql_want (v := ?_) rfl (by rfl) (fun W hW => ?_) ?_
    rotate_left
    · go_simp
      first | done | rfl | ((go_at_call 47; refine (slen_any _ _).mono ?_; rintro _ _ ⟨h1, h2⟩; refine ⟨_, h1, ?_, h2⟩; rfl))
    go_frame
  refine wpQL_nil (fun w3 hx3 => ?_)
  have hB3 := (unhide h').ext ((unhide hx1).trans hx3)
  have c3 := hB3.cell 0
  have f3 := hB3.frozen 0
  simp at c3
  refine lx_one (i := 5) (by kernel_rfl) rfl (by rfl) #[true,true,true,true,true,true] (by rfl) ?_
  go_simp
  intro w6 hx6
  refine wpX_done (by kernel_rfl) ?_
  try go_frame
  have hB6 := hide ((hB3.set 0 (.int .i64 (max m (cntF s 1024)))).ext hx6)
  have hk6 := hide (((((unhide hx1).trans hx3).keep [bn]).trans (Keep.setCell w3 bn 0 (.int .i64 (max m (cntF s 1024))))).trans (hx6.keep _))
  clear hx6 hB3 c3 f3
  go_wp2_with fail
  go_end0
  exact ⟨⟨_, rfl⟩, unhide hB6, unhide hk6⟩

def edgeP (p : Int × Int) : (Int × Int) × Thing := (p, (0, 0))
theorem atP {w : World} {A : Option Addr} {L : List (Int × Int)} (h : SlAt encP 2 w A L) {i : Nat} (hi : i < L.length) : ∃ b off, A = some ⟨b, off, none⟩ ∧ (∀ W, Ext w W → W.cell? ⟨b, off + i * 2, none⟩ = some (.int .i64 L[i].1)) ∧ (∀ W, Ext w W → W.cell? ⟨b, off + i * 2 + 1, none⟩ = some (.int .i64 L[i].2)) := by
  obtain ⟨b, off, hA, hc⟩ := h.at_ hi
  exact ⟨b, off, hA, hc 0 _ rfl, hc 1 _ rfl⟩

set_option maxRecDepth 100000 in
set_option maxHeartbeats 4000000 in
theorem fillFn (k : Nat) (x : Int) (s : Nat) (Ac : Option Addr) (C : List (Int × Int)) (cc base bl : Nat) (xs : List ((Int × Int) × Thing)) (v : Value) (w : World) (h : Acc encE 62 46 4 base bl xs v w) (hC : SlAt encP 2 w Ac C) (hsep : ∀ b off, Ac = some ⟨b, off, none⟩ → b ∉ accT bl v) (hn : xs.length + C.length ≤ 10000000) :
    Calls Tryz.prog 48 #[.int .i64 k, .agg (stepC x s), .slice Ac C.length cc, .pointer (some ⟨bl, 0, none⟩)] w fun e w' => (∃ v, e = .returned v) ∧ ∃ v', Acc encE 62 46 4 base bl (xs ++ C.map edgeP) v' w' ∧ Keep (accT bl v) w w' ∧ ∀ y ∈ accT bl v', y ∈ accT bl v ∨ w.heap.size ≤ y := by
  have h' := hide h
  have hn' := hide hn
  have hC' := hide hC
  have hs' := hide hsep
  have hbel := hide h.below
  clear h hn hC hsep
  go_enter Tryz.func48, Tryz.ntmps48
  try dsimp only
  repeat (first | (with_reducible refine wp_reg (id := 0) ?_) | go_values | go_step | go_guarded | go_upon | go_in | go_back | fail)
  refine wpO_want rfl ?_
  go_simp
  refine wpO_done ?_
  try go_frame
  have hx1 := hide (ext_self1 w (.cells (stepC x s) 58))
  generalize w.alloc (.cells (stepC x s) 58) = w1 at *
  go_wp2_with fail
  go_loopw [11] (fun i wr => ∃ (j : Nat) (vs : Value), j ≤ C.length ∧ i = .int .i64 j ∧ Acc encE 62 46 4 base bl (xs ++ (C.take j).map edgeP) vs wr ∧ Keep (accT bl v) w wr ∧ (∀ y ∈ accT bl vs, y ∈ accT bl v ∨ w.heap.size ≤ y)) (fun i _ => C.length - (intOf i).toNat)
  case atStart => exact ⟨0, v, Nat.zero_le _, rfl, by simpa using (unhide h').ext (unhide hx1), (unhide hx1).keep _, fun y hy => .inl hy⟩
  case round =>
    obtain ⟨j, vs, hj, rfl, hA, hk, hin⟩ := hrel
    have hA' := hide hA
    have hk' := hide hk
    have hin' := hide hin
    clear hA hk hin
    by_cases hlt : j < C.length
    · obtain ⟨b, off, rfl, c0, c1⟩ := atP ((unhide hC').keepS (unhide hk') (unhide hs')) hlt
      have hst := List.take_succ_eq_append_getElem hlt
      generalize hy : C[j] = y at c0 c1 hst
      obtain ⟨p, q⟩ := y
      have hst' := hide hst
      clear hst hy
      simp only at c0 c1
      have hself := Ext.refl wr
      try dsimp only
      repeat (first | (with_reducible refine wp_reg (id := 3) ?_) | go_values | go_step | go_guarded | go_upon | go_in | go_back | fail)
      iterate 3
        refine wpO_want rfl ?_
        go_simp
      have hBp := Blk.new wr 107 #[.int .i64 0, .int .i64 0]
      refine wpO_skip rfl (run_store_row (v := .agg #[.int .i64 p, .int .i64 q]) rfl rfl rfl (by simp [go_sem]) hBp rfl (one_encP (p, q))) (wpO_done ?_)
      try go_frame
      have hBq := hide (hBp.row #[.int .i64 p, .int .i64 q])
      have hx3 := hide ((ext_self1 wr (.cells #[.int .i64 0, .int .i64 0] 107)).of_new (Keep.setRow _ wr.heap.size #[.int .i64 p, .int .i64 q]) (by simp))
      clear hBp c0 c1 hself
      simp only [Value.cells]
      generalize (wr.alloc (.cells #[.int .i64 0, .int .i64 0] 107)).setRow wr.heap.size #[.int .i64 p, .int .i64 q] = w3 at *
      have d0 := (unhide hBq).cells 0 (v := .int .i64 p) rfl
      have d1 := (unhide hBq).cells 1 (v := .int .i64 q) rfl
      have c0 := ((unhide hA').cell.ext (unhide hx3)).cells 0 (v := vs) rfl
      have hself := Ext.refl w3
      try dsimp only
      repeat (first | (with_reducible refine wp_reg (id := 4) ?_) | go_values | go_step | go_guarded | go_upon | go_in | go_back | fail)
      iterate 7
        refine wpO_want rfl ?_
        go_simp
      have hB2 := Blk.new w3 62 (encE (edgeP (p, q))).toArray
      have hx2 := ext_self1 w3 (.cells (encE (edgeP (p, q))).toArray 62)
      have hle : (xs ++ (C.take j).map edgeP).length ≤ 10000000 := by
        have := unhide hn'
        simp
        omega
      refine wpO_ap1 rfl infoGE Tryz.underlying46 one_encE (fun _ => rfl) (by decide) (by decide) rfl (v := vs) (edgeP (p, q)) rfl rfl hB2 (own_ext (unhide hA').own ((unhide hx3).trans hx2)) hle (Nat.le_trans (unhide hA').le (Below.size ((unhide hx3).trans hx2))) ?_
      intro A6 c6 w6 hown6 hg6 hat6
      obtain ⟨n1, hlen⟩ : ∃ n1, n1 = (xs ++ (C.take j).map edgeP).length + 1 := ⟨_, rfl⟩
      have hlis : (xs ++ (C.take j).map edgeP) ++ [edgeP (p, q)] = xs ++ (C.take (j + 1)).map edgeP := by rw [unhide hst']; simp
      rw [← hlen] at hown6 hat6 ⊢
      rw [hlis] at hown6
      obtain ⟨p1, p2, p3, p4, p5⟩ := (unhide hA').push ((unhide hx3).trans hx2) hown6 (by rw [hlen, ← hlis, List.length_append (bs := [_])]; rfl) hg6 hat6
      have p1' := hide p1
      have p2' := hide p2
      have p3' := hide p3
      clear p1 p2 p3 hown6 hg6 hat6 hB2 hx2 hlen hlis hle
      try go_frame
      refine wpO_want rfl ?_
      go_simp
      refine wpO_done ?_
      have hkf := hide ((unhide hk').of_new (unhide p2') (unhide hin'))
      have hinf := hide (show ∀ y ∈ accT bl (Value.slice A6 n1 c6), y ∈ accT bl v ∨ w.heap.size ≤ y from fun y hy => by
        rcases unhide p3' y hy with h | h
        · exact unhide hin' y h
        · right
          have := (unhide hk').size
          omega)
      clear p2' p3' c0 d0 d1 hself p4 p5
      have hjb : j + 1 < 4611686018427387904 := by have := unhide hn'; omega
      go_wp2_with fail
      go_roundw
      case rel => exact ⟨j + 1, _, by omega, by go_num, unhide p1', unhide hkf, unhide hinf⟩
      case measure => simp [intOf]; omega
    · have hje : j = C.length := by omega
      subst hje
      rw [List.take_length] at hA'
      go_wp2_with fail
      go_end0
      exact ⟨⟨_, rfl⟩, _, unhide hA', unhide hk', unhide hin'⟩
end Go.Proofs.YtjehhilijeajnaaGreatDoor
/- palmetteref21.in, palmetteref01.Has, palmetteref01.With. Conditions: see each theorem. -/
namespace Go.Proofs.YtjehhilijeajnaaGreatDoor
open Go Go.RowKit
attribute [local go_sem] qUpon lUpon

def inP (u v : Int) (p : Int × Int) : Bool := p.1 == u && p.2 == v || p.1 == v && p.2 == u
/-- a slice is answered that reads as a list -/
def SlPost {α : Type} (enc : α → List Value) (k : Nat) (w : World) (xs : List α) (e : Ending) (w' : World) : Prop := ∃ A' c', e = .returned (.slice A' xs.length c') ∧ SlAt enc k w' A' xs ∧ Ext w w'
theorem SlPost.mk {α : Type} {enc : α → List Value} {k : Nat} {w w' : World} {xs : List α} {A' : Option Addr} {n c' : Nat} (hn : n = xs.length) (h1 : SlAt enc k w' A' xs) (h2 : Ext w w') : SlPost enc k w xs (.returned (.slice A' n c')) w' := ⟨A', c', by rw [hn], h1, h2⟩
/-- the block where a slice lies has this type -/
def TAt (T : TypeId) (w : World) (A : Option Addr) {α : Type} (xs : List α) : Prop := xs ≠ [] → ∃ b off cs, A = some ⟨b, off, none⟩ ∧ w.heap[b]? = some (.cells cs T (0, 0))
theorem TAt.nil {T : TypeId} {w : World} {A : Option Addr} {α : Type} : TAt T w A ([] : List α) := fun h => absurd rfl h
theorem TAt.of_own {α : Type} {T k n c base : Nat} {w : World} {A : Option Addr} {xs : List α} {cs : List Value} (h : w.ownsRow base T k (.slice A n c) xs.length cs) : TAt T w A xs := fun hne => by
  rcases h.2 with ⟨_, h0⟩ | ⟨g, cap, cur, e, _, hg, _⟩
  · exact absurd (List.eq_nil_of_length_eq_zero h0) hne
  · injection e with e
    exact ⟨g, 0, cur, e, hg⟩
/-- none of these blocks has the type T -/
def OffT (T : TypeId) (w : World) (S : List Nat) : Prop := ∀ g ∈ S, ∃ cs T', w.heap[g]? = some (.cells cs T' (0, 0)) ∧ T' ≠ T
theorem TAt.keep {T : TypeId} {w w' : World} {A : Option Addr} {α : Type} {xs : List α} {S : List Nat} (h : TAt T w A xs) (hk : Keep S w w') (hS : OffT T w S) : TAt T w' A xs := fun hne => by
  obtain ⟨b, off, cs, e, hb⟩ := h hne
  refine ⟨b, off, cs, e, (hk.block b (Array.getElem?_eq_some_iff.1 hb).1 fun hm => ?_).trans hb⟩
  obtain ⟨cs', T', h1, h2⟩ := hS b hm
  rw [hb] at h1
  injection h1 with h1
  injection h1 with _ h1
  exact h2 h1.symm
theorem TAt.ext {T : TypeId} {w w' : World} {A : Option Addr} {α : Type} {xs : List α} (h : TAt T w A xs) (hk : Ext w w') : TAt T w' A xs := h.keep (hk.keep []) (fun _ hm => by simp at hm)
theorem SlAt.keepT {α : Type} {enc : α → List Value} {k : Nat} {T : TypeId} {w w' : World} {A : Option Addr} {xs : List α} {S : List Nat} (h : SlAt enc k w A xs) (ht : TAt T w A xs) (hk : Keep S w w') (hS : OffT T w S) : SlAt enc k w' A xs := by
  by_cases hne : xs = []
  · subst hne; exact SlAt.nil
  · refine h.keepS hk fun b off e hm => ?_
    obtain ⟨b', off', cs, e', hb⟩ := ht hne
    rw [e] at e'
    injection e' with e'
    injection e' with e1 _
    subst e1
    obtain ⟨cs', T', h1, h2⟩ := hS b hm
    rw [hb] at h1
    injection h1 with h1
    injection h1 with _ h1
    exact h2 h1.symm
theorem OffT.of_own {T T2 base k n : Nat} {w : World} {v : Value} {cs : List Value} (h : w.ownsRow base T2 k v n cs) (hne : T2 ≠ T) : OffT T w v.ownBlock.toList := fun g hg => by
  obtain ⟨_, _, cur, hc⟩ := own_base h (by simpa using hg)
  exact ⟨cur, T2, hc, hne⟩
/-- .. with its type -/
def SlPostT {α : Type} (enc : α → List Value) (k T : Nat) (w : World) (xs : List α) (e : Ending) (w' : World) : Prop := ∃ A' c', e = .returned (.slice A' xs.length c') ∧ SlAt enc k w' A' xs ∧ TAt T w' A' xs ∧ Ext w w'
theorem SlPostT.mk {α : Type} {enc : α → List Value} {k T : Nat} {w w' : World} {xs : List α} {A' : Option Addr} {n c' : Nat} (hn : n = xs.length) (h1 : SlAt enc k w' A' xs) (ht : TAt T w' A' xs) (h2 : Ext w w') : SlPostT enc k T w xs (.returned (.slice A' n c')) w' := ⟨A', c', by rw [hn], h1, ht, h2⟩
theorem ret_bl {a b : Bool} (h : a = b) : Ending.returned (Value.bool a) = Ending.returned (Value.bool b) := by rw [h]
theorem any_hit {α : Type} {q : α → Bool} {l : List α} {k : Nat} (hk : k < l.length) (h : q l[k] = true) : l.any q = true := List.any_eq_true.2 ⟨l[k], List.getElem_mem hk, h⟩
theorem any_miss {α : Type} {q : α → Bool} {l : List α} (h : ∀ j (hj : j < l.length), q l[j] = false) : l.any q = false := by
  rw [List.any_eq_false]
  intro x hx
  obtain ⟨j, hj, rfl⟩ := List.getElem_of_mem hx
  rw [h j hj]
  simp

set_option maxHeartbeats 4000000 in
theorem in21_any (A : Option Addr) (L : List (Int × Int)) (cL : Nat) (u v : Int) (w : World) (hL : SlAt encP 2 w A L) (hl : L.length ≤ 4611686018427387904) :
    Calls Tryz.prog 54 #[.slice A L.length cL, .int .i64 u, .int .i64 v] w fun e w' => e = .returned (.bool (L.any (inP u v))) ∧ Ext w w' := by
  generalize hq : inP u v = q
  have hq' : ∀ p, q p = inP u v p := fun p => by rw [hq]
  have hq'' := hide hq'
  have hself := Ext.refl w
  clear hq hq'
  go_enter Tryz.func54, Tryz.ntmps54
  go_wp2
  go_loop [7] (fun i => ∃ k : Nat, k ≤ L.length ∧ i = .int .i64 k ∧ ∀ j (hj : j < k) (hj' : j < L.length), q L[j] = false) (fun i => L.length - (intOf i).toNat)
  case atStart => exact ⟨0, Nat.zero_le _, rfl, fun j hj => by omega⟩
  case round =>
    obtain ⟨k, hk, rfl, hno⟩ := hrel
    have hno' := hide hno
    clear hno
    by_cases hlt : k < L.length
    · obtain ⟨b, off, rfl, c1, c2⟩ := atP hL hlt
      clear hL
      generalize hp : L[k] = p at c1 c2
      obtain ⟨a, b'⟩ := p
      have hp' := hide hp
      clear hp
      have no : q (a, b') = false → ∀ j (hj : j < k + 1) (hj' : j < L.length), q L[j] = false := fun h j hj hj' => by
        rcases Nat.lt_or_ge j k with h1 | h1
        · exact unhide hno' j h1 hj'
        · have : j = k := by omega
          subst this
          rw [unhide hp']
          exact h
      have yes : q (a, b') = true → L.any q = true := fun h => any_hit hlt (by rw [unhide hp']; exact h)
      have no' := hide no
      have yes' := hide yes
      clear no yes
      go_wp2
      all_goals first
        | (go_ret; exact ⟨ret_bl (unhide yes' (by rw [unhide hq'']; unfold inP; simp_all)).symm, hself⟩)
        | (go_round
           case rel => exact ⟨k + 1, by omega, by go_num, unhide no' (by rw [unhide hq'']; unfold inP; simp_all)⟩
           case measure => simp [intOf]; omega)
    · go_wp2
      go_ret
      exact ⟨ret_bl (any_miss (fun j hj => unhide hno' j (by omega) hj)).symm, hself⟩

set_option maxHeartbeats 4000000 in
theorem has01_any (A : Option Addr) (L : List Int) (cL : Nat) (n : Int) (w : World) (hL : SlAt encI 1 w A L) (hl : L.length ≤ 4611686018427387904) :
    Calls Tryz.prog 44 #[.slice A L.length cL, .int .i64 n] w fun e w' => e = .returned (.bool (L.any (· == n))) ∧ Ext w w' := by
  have hself := Ext.refl w
  go_enter Tryz.func44, Tryz.ntmps44
  go_wp2
  go_loop [5] (fun i => ∃ k : Nat, k ≤ L.length ∧ i = .int .i64 k ∧ ∀ j (hj : j < k) (hj' : j < L.length), (L[j] == n) = false) (fun i => L.length - (intOf i).toNat)
  case atStart => exact ⟨0, Nat.zero_le _, rfl, fun j hj => by omega⟩
  case round =>
    obtain ⟨k, hk, rfl, hno⟩ := hrel
    have hno' := hide hno
    clear hno
    by_cases hlt : k < L.length
    · obtain ⟨b, off, rfl, c1⟩ := atI hL hlt
      clear hL
      cases hh : L[k] == n
      · have hh' := hide hh
        go_wp2
        go_round
        case rel =>
          refine ⟨k + 1, by omega, by go_num, fun j hj hj' => ?_⟩
          rcases Nat.lt_or_ge j k with h | h
          · exact unhide hno' j h hj'
          · have : j = k := by omega
            subst this
            exact unhide hh'
        case measure => simp [intOf]; omega
      · have hh' := hide hh
        go_wp2
        go_ret
        exact ⟨ret_bl (any_hit hlt (unhide hh')).symm, hself⟩
    · go_wp2
      go_ret
      exact ⟨ret_bl (any_miss (fun j hj => unhide hno' j (by omega) hj)).symm, hself⟩

theorem own_n {w : World} {base T k n m : Nat} {v : Value} {xs : List Value} (h : w.ownsRow base T k v n xs) (e : m = n) : w.ownsRow base T k v m xs := by
  subst e
  exact h
theorem atI_at {w : World} {b off : Nat} {L : List Int} (h : SlAt encI 1 w (some ⟨b, off, none⟩) L) {i : Nat} (hi : i < L.length) : ∀ W, Ext w W → W.cell? ⟨b, off + i, none⟩ = some (.int .i64 L[i]) := by
  obtain ⟨b', off', e, hc⟩ := atI h hi
  injection e with e
  injection e with e1 e2
  subst e1
  subst e2
  exact hc
def withR (L : List Int) (n : Int) : List Int := if n < 0 ∨ 1023 < n ∨ L.any (· == n) = true then L else insF (fun x => decide (n < x)) n L
set_option maxRecDepth 100000 in
set_option maxHeartbeats 8000000 in
theorem with01_any (A : Option Addr) (L : List Int) (cL : Nat) (n : Int) (w : World) (hL : SlAt encI 1 w A L) (hTL : TAt 3 w A L) (hl : L.length ≤ 100000) :
    Calls Tryz.prog 55 #[.slice A L.length cL, .int .i64 n] w (SlPostT encI 1 3 w (withR L n)) := by
  have hL' := hide hL
  have hTL' := hide hTL
  clear hTL
  have hself := hide (Ext.refl w)
  clear hL
  obtain ⟨Z, hZ⟩ : ∃ Z, Z = withR L n := ⟨_, rfl⟩
  rw [← hZ]
  have hZ' := hide hZ
  clear hZ
  go_enter Tryz.func55, Tryz.ntmps55
  by_cases h1 : n < 0
  · have e : L = Z := by rw [unhide hZ']; unfold withR; rw [if_pos (.inl h1)]
    subst e
    go_wp2_with fail
    go_ret
    exact .mk rfl (unhide hL') (unhide hTL') (unhide hself)
  by_cases h2 : 1023 < n
  · have e : L = Z := by rw [unhide hZ']; unfold withR; rw [if_pos (.inr (.inl h2))]
    subst e
    go_wp2_with fail
    go_ret
    exact .mk rfl (unhide hL') (unhide hTL') (unhide hself)
  have d1 : decide (n < 0) = false := decide_eq_false h1
  have d2 : decide (1023 < n) = false := decide_eq_false h2
  cases h3 : L.any (· == n) with
  | true =>
    have e : L = Z := by rw [unhide hZ']; unfold withR; rw [if_pos (.inr (.inr h3))]
    subst e
    have h3' := hide h3
    clear h3
    go_wp2_with fail
    refine (has01_any A L cL n w (unhide hL') (by omega)).mono ?_
    rw [unhide h3']
    rintro e w1 ⟨rfl, hx1⟩
    have hx1' := hide hx1
    clear hx1
    go_wp2_with fail
    go_ret
    exact .mk rfl ((unhide hL').ext (unhide hx1')) ((unhide hTL').ext (unhide hx1')) (unhide hx1')
  | false =>
    have e : Z = insF (fun x => decide (n < x)) n L := by rw [unhide hZ']; unfold withR; rw [if_neg (by rw [h3]; simp; omega)]
    have e' := hide e
    have h3' := hide h3
    clear h3 hZ' e
    go_wp2_with fail
    refine (has01_any A L cL n w (unhide hL') (by omega)).mono ?_
    rw [unhide h3']
    rintro e w1 ⟨rfl, hx1⟩
    have ho1 := hide (World.ownsRow_made (base := w.heap.size) (e := 3) (size := 1) w1 #[] 0 (Below.size hx1) (by decide) rfl)
    have hx1' := hide (hx1.trans (ext_self1 w1 (.cells #[] 3)))
    clear hx1 h3'
    go_wp2_with fail
    generalize w1.alloc (.cells #[] 3) = W1 at *
    generalize w1.heap.size = b1 at *
    obtain ⟨gt, hgt⟩ : ∃ gt : Int → Bool, gt = fun x => decide (n < x) := ⟨_, rfl⟩
    rw [← hgt] at e'
    have hgt' := hide hgt
    clear hgt
    go_loopw [5, 6, 7] (fun l d i wr => ∃ (k : Nat) (dn : Bool) (o : List Int) (vs : Value), k ≤ L.length ∧ i = .int .i64 k ∧ d = .bool dn ∧ vs = l ∧ (L.take k).foldl (insS gt n) (false, []) = (dn, o) ∧ wr.ownsRow w.heap.size 3 1 vs o.length (o.flatMap encI) ∧ Ext w wr) (fun _ _ i _ => L.length - (intOf i).toNat)
    case atStart => exact ⟨0, false, [], _, Nat.zero_le _, rfl, rfl, rfl, by simp, unhide ho1, unhide hx1'⟩
    case round =>
      obtain ⟨k, dn, o, vs, hk, rfl, rfl, hv, hfold, hown, hx⟩ := hrel
      subst hv
      have hown' := hide hown
      have hx' := hide hx
      have hfold' := hide hfold
      have hol := hide (show o.length ≤ 1000000 from by have := ins_take_len hfold hk; omega)
      have hbs := hide (Below.size hx)
      clear hown hx ho1 hx1'
      by_cases hlt : k < L.length
      · obtain ⟨b, off, rfl, c0⟩ := atI ((unhide hL').ext (unhide hx')) hlt
        have st := hide (ins_take hlt hfold)
        generalize hy : L[k] = y at c0 st
        have hy' := hide hy
        have hself := Ext.refl wr
        clear hfold hy
        cases dn
        · by_cases hc : n < y
          · have st2 : insS gt n (false, o) y = (true, o ++ [n] ++ [y]) := by unfold insS; rw [unhide hgt']; simp [hc]
            have st2' := hide st2
            have hc' : decide (n < y) = true := decide_eq_true hc
            clear st2 hc
            try dsimp only
            repeat ((fail_if_success (with_reducible refine wp_reg (id := 9) ?_)); (first | go_values | go_skip | go_step | go_guarded | go_upon | go_in | go_back | fail))
            with_reducible refine wp_reg (id := 9) ?_
            iterate 3
              refine wpO_want rfl ?_
              go_simp
            refine wpO_ap1 (enc := _) rfl infoI Tryz.underlying60 one_encI (fun _ => rfl) (by decide) (by decide) rfl (v := vs) (xs := o) n rfl rfl (Blk.new wr 3 #[.int .i64 n]) (own_ext (unhide hown') (ext_self1 wr (.cells #[.int .i64 n] 3))) (by have := unhide hol; omega) (Nat.le_trans (unhide hbs) (Below.size (ext_self1 wr (.cells #[.int .i64 n] 3)))) ?_
            intro A_w6 c_w6 w6 ho6 hg6 _
            obtain ⟨n_w6, hlen6⟩ : ∃ n_w6, n_w6 = (o).length + 1 := ⟨_, rfl⟩
            rw [← hlen6] at ho6 ⊢
            have hx_w6 := hide (((unhide hx').trans (ext_self1 wr (.cells #[.int .i64 n] 3))).of_new (Keep.of_grown hg6) (fun z hz => Nat.le_trans (Nat.le_refl _) (own_base (unhide hown') (by simpa using hz)).1))
            have hown_w6 := hide (own_n ho6 (m := (o ++ [n]).length) (by rw [hlen6, List.length_append (bs := [_])]; rfl))
            have hn_w6 := hide hlen6
            clear ho6 hg6 hlen6
            try go_frame
            refine wpO_want rfl ?_
            go_simp
            refine wpO_done ?_
            try go_frame
            have c6 := atI_at ((unhide hL').ext (unhide hx_w6)) hlt
            rw [unhide hy'] at c6
            have hself6 := Ext.refl w6
            clear c0 hself
            try dsimp only
            repeat ((fail_if_success (with_reducible refine wp_reg (id := 11) ?_)); (first | go_values | go_skip | go_step | go_guarded | go_upon | go_in | go_back | fail))
            with_reducible refine wp_reg (id := 11) ?_
            iterate 6
              refine wpO_want rfl ?_
              go_simp
            refine wpO_ap1 (enc := _) rfl infoI Tryz.underlying60 one_encI (fun _ => rfl) (by decide) (by decide) rfl (v := .slice A_w6 n_w6 c_w6) (xs := o ++ [n]) y rfl rfl (Blk.new w6 3 #[.int .i64 y]) (own_ext (unhide hown_w6) (ext_self1 w6 (.cells #[.int .i64 y] 3))) (by have := unhide hol; simp; omega) (Nat.le_trans (Below.size (unhide hx_w6)) (Below.size (ext_self1 w6 (.cells #[.int .i64 y] 3)))) ?_
            intro A_w7 c_w7 w7 ho6 hg6 _
            obtain ⟨n_w7, hlen6⟩ : ∃ n_w7, n_w7 = (o ++ [n]).length + 1 := ⟨_, rfl⟩
            rw [← hlen6] at ho6 ⊢
            have hx_w7 := hide (((unhide hx_w6).trans (ext_self1 w6 (.cells #[.int .i64 y] 3))).of_new (Keep.of_grown hg6) (fun z hz => Nat.le_trans (Nat.le_refl _) (own_base (unhide hown_w6) (by simpa using hz)).1))
            have hown_w7 := hide (own_n ho6 (m := (o ++ [n] ++ [y]).length) (by rw [hlen6, List.length_append (bs := [_])]; rfl))
            have hn_w7 := hide hlen6
            clear ho6 hg6 hlen6
            try go_frame
            refine wpO_want rfl ?_
            go_simp
            refine wpO_done ?_
            try go_frame
            go_wp2_with fail
            go_roundw
            case rel => exact ⟨k + 1, true, o ++ [n] ++ [y], _, by omega, by go_num, rfl, rfl, by rw [unhide st]; exact unhide st2', unhide hown_w7, unhide hx_w7⟩
            case measure => simp [intOf]; omega
          · have st2 : insS gt n (false, o) y = (false, o ++ [y]) := by unfold insS; rw [unhide hgt']; simp [hc]
            have st2' := hide st2
            have hc' : decide (n < y) = false := decide_eq_false hc
            clear st2 hc
            try dsimp only
            repeat ((fail_if_success (with_reducible refine wp_reg (id := 11) ?_)); (first | go_values | go_skip | go_step | go_guarded | go_upon | go_in | go_back | fail))
            with_reducible refine wp_reg (id := 11) ?_
            iterate 6
              refine wpO_want rfl ?_
              go_simp
            refine wpO_ap1 (enc := _) rfl infoI Tryz.underlying60 one_encI (fun _ => rfl) (by decide) (by decide) rfl (v := vs) (xs := o) y rfl rfl (Blk.new wr 3 #[.int .i64 y]) (own_ext (unhide hown') (ext_self1 wr (.cells #[.int .i64 y] 3))) (by have := unhide hol; omega) (Nat.le_trans (unhide hbs) (Below.size (ext_self1 wr (.cells #[.int .i64 y] 3)))) ?_
            intro A_w7 c_w7 w7 ho6 hg6 _
            obtain ⟨n_w7, hlen6⟩ : ∃ n_w7, n_w7 = (o).length + 1 := ⟨_, rfl⟩
            rw [← hlen6] at ho6 ⊢
            have hx_w7 := hide (((unhide hx').trans (ext_self1 wr (.cells #[.int .i64 y] 3))).of_new (Keep.of_grown hg6) (fun z hz => Nat.le_trans (Nat.le_refl _) (own_base (unhide hown') (by simpa using hz)).1))
            have hown_w7 := hide (own_n ho6 (m := (o ++ [y]).length) (by rw [hlen6, List.length_append (bs := [_])]; rfl))
            have hn_w7 := hide hlen6
            clear ho6 hg6 hlen6
            try go_frame
            refine wpO_want rfl ?_
            go_simp
            refine wpO_done ?_
            try go_frame
            go_wp2_with fail
            go_roundw
            case rel => exact ⟨k + 1, false, o ++ [y], _, by omega, by go_num, rfl, rfl, by rw [unhide st]; exact unhide st2', unhide hown_w7, unhide hx_w7⟩
            case measure => simp [intOf]; omega
        · have st2 : insS gt n (true, o) y = (true, o ++ [y]) := by unfold insS; simp
          have st2' := hide st2
          clear st2
          try dsimp only
          repeat ((fail_if_success (with_reducible refine wp_reg (id := 11) ?_)); (first | go_values | go_skip | go_step | go_guarded | go_upon | go_in | go_back | fail))
          with_reducible refine wp_reg (id := 11) ?_
          iterate 6
            refine wpO_want rfl ?_
            go_simp
          refine wpO_ap1 (enc := _) rfl infoI Tryz.underlying60 one_encI (fun _ => rfl) (by decide) (by decide) rfl (v := vs) (xs := o) y rfl rfl (Blk.new wr 3 #[.int .i64 y]) (own_ext (unhide hown') (ext_self1 wr (.cells #[.int .i64 y] 3))) (by have := unhide hol; omega) (Nat.le_trans (unhide hbs) (Below.size (ext_self1 wr (.cells #[.int .i64 y] 3)))) ?_
          intro A_w7 c_w7 w7 ho6 hg6 _
          obtain ⟨n_w7, hlen6⟩ : ∃ n_w7, n_w7 = (o).length + 1 := ⟨_, rfl⟩
          rw [← hlen6] at ho6 ⊢
          have hx_w7 := hide (((unhide hx').trans (ext_self1 wr (.cells #[.int .i64 y] 3))).of_new (Keep.of_grown hg6) (fun z hz => Nat.le_trans (Nat.le_refl _) (own_base (unhide hown') (by simpa using hz)).1))
          have hown_w7 := hide (own_n ho6 (m := (o ++ [y]).length) (by rw [hlen6, List.length_append (bs := [_])]; rfl))
          have hn_w7 := hide hlen6
          clear ho6 hg6 hlen6
          try go_frame
          refine wpO_want rfl ?_
          go_simp
          refine wpO_done ?_
          try go_frame
          go_wp2_with fail
          go_roundw
          case rel => exact ⟨k + 1, true, o ++ [y], _, by omega, by go_num, rfl, rfl, by rw [unhide st]; exact unhide st2', unhide hown_w7, unhide hx_w7⟩
          case measure => simp [intOf]; omega
      · have hke : k = L.length := by omega
        subst hke
        rw [List.take_length] at hfold
        have hins : insF gt n L = if dn = true then o else o ++ [n] := by unfold insF; rw [hfold]
        have hins' := hide hins
        clear hfold hins
        cases dn
        · rw [if_neg (by simp)] at hins'
          try dsimp only
          repeat ((fail_if_success (with_reducible refine wp_reg (id := 13) ?_)); (first | go_values | go_skip | go_step | go_guarded | go_upon | go_in | go_back | fail))
          with_reducible refine wp_reg (id := 13) ?_
          iterate 3
            refine wpO_want rfl ?_
            go_simp
          refine wpO_ap1 (enc := _) rfl infoI Tryz.underlying60 one_encI (fun _ => rfl) (by decide) (by decide) rfl (v := vs) (xs := o) n rfl rfl (Blk.new wr 3 #[.int .i64 n]) (own_ext (unhide hown') (ext_self1 wr (.cells #[.int .i64 n] 3))) (by have := unhide hol; omega) (Nat.le_trans (unhide hbs) (Below.size (ext_self1 wr (.cells #[.int .i64 n] 3)))) ?_
          intro A_w7 c_w7 w7 ho6 hg6 _
          obtain ⟨n_w7, hlen6⟩ : ∃ n_w7, n_w7 = (o).length + 1 := ⟨_, rfl⟩
          rw [← hlen6] at ho6 ⊢
          have hx_w7 := hide (((unhide hx').trans (ext_self1 wr (.cells #[.int .i64 n] 3))).of_new (Keep.of_grown hg6) (fun z hz => Nat.le_trans (Nat.le_refl _) (own_base (unhide hown') (by simpa using hz)).1))
          have hown_w7 := hide (own_n ho6 (m := (o ++ [n]).length) (by rw [hlen6, List.length_append (bs := [_])]; rfl))
          have hn_w7 := hide hlen6
          clear ho6 hg6 hlen6
          try go_frame
          refine wpO_want rfl ?_
          go_simp
          refine wpO_done ?_
          try go_frame
          go_wp2_with fail
          go_ret
          rw [unhide e', unhide hins']
          exact .mk (by rw [unhide hn_w7]; simp) (own_at (enc := encI) (unhide hown_w7) (fun _ => rfl)) (TAt.of_own (unhide hown_w7)) (unhide hx_w7)
        · rw [if_pos rfl] at hins'
          obtain ⟨A7, c7, rfl⟩ := own_slice (unhide hown')
          go_wp2_with fail
          go_ret
          rw [unhide e', unhide hins']
          exact .mk rfl (own_at (enc := encI) (unhide hown') (fun _ => rfl)) (TAt.of_own (unhide hown')) (unhide hx')
end Go.Proofs.YtjehhilijeajnaaGreatDoor
/- palmetteref21.Near: what is left near each vertex, and the fill-in. Conditions: see each theorem. -/
namespace Go.Proofs.YtjehhilijeajnaaGreatDoor
open Go Go.RowKit
attribute [local go_sem] qUpon lUpon

def adjR (E : List ((Int × Int) × Thing)) (come : List (Int × Int)) (u v : Int) : Bool := decide (0 ≤ posI (isE u v) E) || come.any (inP u v)
def nearF21 (E : List ((Int × Int) × Thing)) (come : List (Int × Int)) (u : Int) (near : List Int) (v : Int) : List Int := if adjR E come u v = true then withR near v else near
/-- what is near L[i], of the positions up to k -/
def nearR (E : List ((Int × Int) × Thing)) (come : List (Int × Int)) (L : List Int) (i k : Nat) : List Int := ((L.take k).drop (i + 1)).foldl (nearF21 E come (L[i]?.getD 0)) []
def rowF (E : List ((Int × Int) × Thing)) (near : List Int) (a : Nat) (come : List (Int × Int)) (b : Nat) : List (Int × Int) := if adjR E come (near[a]?.getD 0) (near[b]?.getD 0) = true then come else come ++ [(near[b]?.getD 0, near[a]?.getD 0)]
def rowR (E : List ((Int × Int) × Thing)) (near : List Int) (a : Nat) (come : List (Int × Int)) (b : Nat) : List (Int × Int) := (List.range b).foldl (rowF E near a) come
def pairR (E : List ((Int × Int) × Thing)) (near : List Int) (come : List (Int × Int)) (a : Nat) : List (Int × Int) := (List.range a).foldl (fun come a => rowR E near a come a) come
/-- the fill-in before step i, and what is near -/
def comR (E : List ((Int × Int) × Thing)) (L : List Int) : Nat → List (Int × Int)
  | 0 => []
  | i + 1 => pairR E (nearR E (comR E L i) L i L.length) (comR E L i) (nearR E (comR E L i) L i L.length).length
def neaR (E : List ((Int × Int) × Thing)) (L : List Int) (i : Nat) : List Int := nearR E (comR E L i) L i L.length
def neasR (E : List ((Int × Int) × Thing)) (L : List Int) (k : Nat) : List (List Int) := (List.range k).map (neaR E L)
theorem rowR_next (E : List ((Int × Int) × Thing)) (near : List Int) (a : Nat) (come : List (Int × Int)) (b : Nat) : rowR E near a come (b + 1) = rowF E near a (rowR E near a come b) b := by
  unfold rowR
  rw [List.range_succ, List.foldl_append]; rfl
theorem pairR_next (E : List ((Int × Int) × Thing)) (near : List Int) (come : List (Int × Int)) (a : Nat) : pairR E near come (a + 1) = rowR E near a (pairR E near come a) a := by
  unfold pairR
  rw [List.range_succ, List.foldl_append]; rfl
theorem nearR_next (E : List ((Int × Int) × Thing)) (come : List (Int × Int)) (L : List Int) (i k : Nat) (hk : k < L.length) (hik : i < k) : nearR E come L i (k + 1) = nearF21 E come (L[i]?.getD 0) (nearR E come L i k) L[k] := by
  unfold nearR
  rw [List.take_succ_eq_append_getElem hk, List.drop_append_of_le_length (by rw [List.length_take]; omega), List.foldl_append, List.foldl_cons, List.foldl_nil]
theorem nearR_start (E : List ((Int × Int) × Thing)) (come : List (Int × Int)) (L : List Int) (i : Nat) : nearR E come L i (i + 1) = [] := by
  unfold nearR
  rw [List.drop_eq_nil_of_le (by rw [List.length_take]; omega)]
  rfl
theorem withR_len (L : List Int) (n : Int) : (withR L n).length ≤ L.length + 1 := by
  unfold withR
  split
  · omega
  · have h := ins_len (gt := fun x => decide (n < x)) (x := n) L (false, [])
    unfold insF
    split
    · have := h.1; simp at this; omega
    · rename_i hd
      have := h.2.1 (by simpa using hd)
      simp at this
      simp [this]
theorem nearR_len (E : List ((Int × Int) × Thing)) (come : List (Int × Int)) (L : List Int) (i k : Nat) : (nearR E come L i k).length ≤ L.length := by
  have key : ∀ (l near : List Int) (u : Int), (l.foldl (nearF21 E come u) near).length ≤ near.length + l.length := by
    intro l
    induction l with
    | nil => intro near u; simp
    | cons x r ih =>
      intro near u
      rw [List.foldl_cons]
      have h1 := ih (nearF21 E come u near x) u
      have h2 : (nearF21 E come u near x).length ≤ near.length + 1 := by
        unfold nearF21
        split
        · exact withR_len _ _
        · omega
      simp only [List.length_cons]
      omega
  have h := key ((L.take k).drop (i + 1)) [] (L[i]?.getD 0)
  have h2 : ((L.take k).drop (i + 1)).length ≤ L.length := by rw [List.length_drop, List.length_take]; omega
  unfold nearR
  simp only [List.length_nil, Nat.zero_add] at h
  omega
theorem rowR_len (E : List ((Int × Int) × Thing)) (near : List Int) (a : Nat) (come : List (Int × Int)) : ∀ b, (rowR E near a come b).length ≤ come.length + b
  | 0 => by simp [rowR]
  | b + 1 => by
    rw [rowR_next]
    have := rowR_len E near a come b
    unfold rowF
    split
    · omega
    · simp; omega
theorem pairR_len (E : List ((Int × Int) × Thing)) (near : List Int) (come : List (Int × Int)) : ∀ a, a ≤ 100 → (pairR E near come a).length ≤ come.length + a * 100
  | 0, _ => by simp [pairR]
  | a + 1, h => by
    rw [pairR_next]
    have h1 := rowR_len E near a (pairR E near come a) a
    have h2 := pairR_len E near come a (by omega)
    omega
theorem comR_len (E : List ((Int × Int) × Thing)) (L : List Int) (hl : L.length ≤ 100) : ∀ i, i ≤ 100 → (comR E L i).length ≤ i * 10000
  | 0, _ => by simp [comR]
  | i + 1, h => by
    have h1 := nearR_len E (comR E L i) L i L.length
    have h2 := pairR_len E (nearR E (comR E L i) L i L.length) (comR E L i) (nearR E (comR E L i) L i L.length).length (by omega)
    have h3 := comR_len E L hl i (by omega)
    have h4 : (nearR E (comR E L i) L i L.length).length * 100 ≤ 100 * 100 := Nat.mul_le_mul_right _ (by omega)
    show (pairR E (nearR E (comR E L i) L i L.length) (comR E L i) (nearR E (comR E L i) L i L.length).length).length ≤ (i + 1) * 10000
    omega

/-- lists of slices of ints: the values and what they read as -/
abbrev Sl3 := Option Addr × Nat × Nat
def encW (p : Sl3) : List Value := [.slice p.1 p.2.1 p.2.2]
theorem one_encW (p : Sl3) : ∀ v ∈ encW p, v.oneCell' = true := by
  intro v hv
  simp [encW] at hv
  subst hv
  rfl
def SlsAt (w : World) (vs : List Sl3) (xss : List (List Int)) : Prop := vs.length = xss.length ∧ ∀ i (h : i < xss.length), ∃ A c, vs[i]? = some (A, xss[i].length, c) ∧ SlAt encI 1 w A xss[i] ∧ TAt 3 w A xss[i]
theorem SlsAt.keep {w w' : World} {vs : List Sl3} {xss : List (List Int)} {S : List Nat} (h : SlsAt w vs xss) (hk : Keep S w w') (hS : OffT 3 w S) : SlsAt w' vs xss := ⟨h.1, fun i hi => by
  obtain ⟨A, c, h1, h2, h3⟩ := h.2 i hi
  exact ⟨A, c, h1, h2.keepT h3 hk hS, h3.keep hk hS⟩⟩
theorem SlsAt.ext {w w' : World} {vs : List Sl3} {xss : List (List Int)} (h : SlsAt w vs xss) (hk : Ext w w') : SlsAt w' vs xss := h.keep (hk.keep []) (fun _ hm => by simp at hm)
theorem SlsAt.push {w : World} {vs : List Sl3} {xss : List (List Int)} (h : SlsAt w vs xss) {A : Option Addr} {n c : Nat} {xs : List Int} (hn : n = xs.length) (h1 : SlAt encI 1 w A xs) (h2 : TAt 3 w A xs) : SlsAt w (vs ++ [(A, n, c)]) (xss ++ [xs]) := by
  subst hn
  refine ⟨by simp [h.1], fun i hi => ?_⟩
  by_cases hl : i < xss.length
  · obtain ⟨A', c', e1, e2, e3⟩ := h.2 i hl
    rw [List.getElem_append_left hl, List.getElem?_append_left (by rw [h.1]; exact hl)]
    exact ⟨A', c', e1, e2, e3⟩
  · have hie : i = xss.length := by simp at hi; omega
    subst hie
    rw [List.getElem_append_right (Nat.le_refl _), List.getElem?_append_right (by rw [h.1]; exact Nat.le_refl _)]
    exact ⟨A, c, by simp [h.1], by simpa using h1, by simpa using h2⟩

/-- between two steps -/
structure NrI (B : Nat) (w wr : World) (xss : List (List Int)) (vs : List Sl3) (vo vc : Value) (come : List (Int × Int)) : Prop where
  o : wr.ownsRow B 60 1 vo vs.length (vs.flatMap encW)
  c : wr.ownsRow B 64 2 vc come.length (come.flatMap encP)
  n : SlsAt wr vs xss
  x : Ext w wr
  lw : w.heap.size ≤ B
  lb : B ≤ wr.heap.size
theorem NrI.ext {B : Nat} {w wr W : World} {xss : List (List Int)} {vs : List Sl3} {vo vc : Value} {come : List (Int × Int)} (h : NrI B w wr xss vs vo vc come) (k : Ext wr W) : NrI B w W xss vs vo vc come :=
  ⟨own_ext h.o k, own_ext h.c k, h.n.ext k, h.x.trans k, h.lw, Nat.le_trans h.lb (Below.size k)⟩
theorem own_offT {B n1 n2 : Nat} {w : World} {v1 v2 : Value} {k1 k2 T1 T2 : Nat} {xs1 xs2 : List Value} (h1 : w.ownsRow B T1 k1 v1 n1 xs1) (h2 : w.ownsRow B T2 k2 v2 n2 xs2) (hne : T1 ≠ T2) : ∀ g ∈ v1.ownBlock.toList, v2.ownBlock ≠ some g := fun g hg e => by
  obtain ⟨_, _, c1, e1⟩ := own_base h1 (by simpa using hg)
  obtain ⟨_, _, c2, e2⟩ := own_base h2 e
  rw [e1] at e2
  injection e2 with e2
  injection e2 with _ e2
  exact hne e2
/-- the fill-in has grown -/
theorem NrI.pushC {B : Nat} {w wr W1 w6 : World} {xss : List (List Int)} {vs : List Sl3} {vo vc vc' : Value} {come come' : List (Int × Int)} (h : NrI B w wr xss vs vo vc come) (k : Ext wr W1) (hg : W1.grownBy w6 vc.ownBlock) (hown : w6.ownsRow B 64 2 vc' come'.length (come'.flatMap encP)) :
    NrI B w w6 xss vs vo vc' come' ∧ Keep vc.ownBlock.toList wr w6 ∧ OffT 3 wr vc.ownBlock.toList := by
  have h1 := h.ext k
  have hk := Keep.of_grown hg
  refine ⟨⟨own_keep h1.o hk (own_offT h1.c h1.o (by decide)), hown, h1.n.keep hk (OffT.of_own h1.c (by decide)), h1.x.of_new hk (fun x hx => Nat.le_trans h.lw (own_base h1.c (by simpa using hx)).1), h.lw, Nat.le_trans h1.lb hk.size⟩, (k.keep _).trans hk, OffT.of_own h.c (by decide)⟩
theorem NrI.pushO {B : Nat} {w wr W1 w6 : World} {xss : List (List Int)} {vs vs' : List Sl3} {vo vo' vc : Value} {come : List (Int × Int)} {A : Option Addr} {n c : Nat} {xs : List Int} (h : NrI B w wr xss vs vo vc come) (k : Ext wr W1) (hg : W1.grownBy w6 vo.ownBlock) (hvs : vs' = vs ++ [(A, n, c)]) (hown : w6.ownsRow B 60 1 vo' vs'.length (vs'.flatMap encW)) (hn : n = xs.length) (h1 : SlAt encI 1 wr A xs) (h2 : TAt 3 wr A xs) :
    NrI B w w6 (xss ++ [xs]) vs' vo' vc come := by
  subst hvs
  have hh := h.ext k
  have hk := Keep.of_grown hg
  have hS := OffT.of_own hh.o (T := 3) (by decide)
  exact ⟨hown, own_keep hh.c hk (own_offT hh.o hh.c (by decide)), (hh.n.keep hk hS).push hn ((h1.ext k).keepT (h2.ext k) hk hS) ((h2.ext k).keep hk hS), hh.x.of_new hk (fun x hx => Nat.le_trans h.lw (own_base hh.o (by simpa using hx)).1), h.lw, Nat.le_trans hh.lb hk.size⟩
theorem infoR : (Tryz.prog.info? 60).map (fun i => (i.zero.map (·.cells.size), i.size, i.bytes)) = some (some 1, 1, 24) := by kernel_rfl
theorem infoP21 : (Tryz.prog.info? 64).map (fun i => (i.zero.map (·.cells.size), i.size, i.bytes)) = some (some 2, 2, 16) := by kernel_rfl
def NearPost (w : World) (xss : List (List Int)) (come : List (Int × Int)) (e : Ending) (w' : World) : Prop := ∃ A1 c1 A2 c2 vs, e = .returned (.tuple #[.slice A1 xss.length c1, .slice A2 come.length c2]) ∧ SlAt encW 1 w' A1 vs ∧ SlsAt w' vs xss ∧ SlAt encP 2 w' A2 come ∧ Ext w w'
end Go.Proofs.YtjehhilijeajnaaGreatDoor
