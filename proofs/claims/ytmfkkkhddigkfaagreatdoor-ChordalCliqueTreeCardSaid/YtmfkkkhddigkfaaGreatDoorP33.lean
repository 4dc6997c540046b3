/- Parts of a proof, laid together. Each part says its own conditions. -/
import Derived.Test.YtmfkkkhddigkfaaGreatDoorP26
import Derived.Test.YtmfkkkhddigkfaaGreatDoorP21
import Derived.Test.YtmfkkkhddigkfaaGreatDoorP30
namespace Go.Proofs.YtmfkkkhddigkfaaGreatDoor
open Go Go.RowKit Go.Shelf
attribute [local go_sem] qUpon lUpon
def bwF (L : List Int) (i : Nat) : Int × Int := ((i : Int), L[i]?.getD 0)
def bwL (L : List Int) : List (Int × Int) := ((List.range L.length).map (bwF L)).reverse
def exA (A : Option Addr) (L : List Int) : List Nat := if L.length = 0 then [] else match A with | some a => [a.block] | none => []
theorem exA_lt {A : Option Addr} {L : List Int} {w : World} (h : SlAt encI 1 w A L) : ∀ b ∈ exA A L, b < w.heap.size := by
 intro b hb
 unfold exA at hb
 split at hb
 ·simp at hb
 ·rename_i hne
  obtain ⟨b', off, rfl, hlt, _⟩ := h (by rintro rfl; simp at hne)
  simp at hb
  omega
theorem bw_next (L : List Int) (k : Nat) : ((List.range (k + 1)).map (bwF L)).reverse = bwF L k :: ((List.range k).map (bwF L)).reverse := by
 rw [List.range_succ, List.map_append, List.reverse_append]; rfl
set_option maxRecDepth 100000 in
theorem back_any (A : Option Addr) (n c : Nat) (w : World) : Calls Tryz.prog 56 #[.slice A n c] w fun e w' => e = .returned (.func (.func 84) #[] #[.pointer (some ⟨w.heap.size, 0, none⟩)]) ∧ w' = w.alloc (.cells #[.slice A n c] 31) := by
 go_enter Tryz.func56, Tryz.ntmps56
 go_wp2_with fail
 go_ret
 exact ⟨rfl, rfl⟩
set_option maxRecDepth 100000 in
set_option maxHeartbeats 4000000 in
theorem back_iter (A : Option Addr) (L : List Int) (c bN : Nat) (w : World) (hB : Blk w bN 31 #[.slice A L.length c]) (hL : SlAt encI 1 w A L) (hl : L.length ≤ 100000000) :
  Iter1 Tryz.prog 84 #[.pointer (some ⟨bN, 0, none⟩)] (fun p : Int × Int => #[.int .i64 p.1, .int .i64 p.2]) (bwL L) 0 (bN :: exA A L) w := by
 intro l J Jx W hW hJ hJx hY h0
 have hBW := hide (hB.ext hW)
 have hLW := hide (hL.ext hW)
 have hl' := hide hl
 have hY' := hide hY
 have h0' := hide h0
 have c0 := (unhide hBW).cells 0 (v := .slice A L.length c) rfl
 have hself := Ext.refl W
 clear hB hL hW hJ hJx hY h0 hl
 refine callsIn_of_wp Tryz.func84 rfl trivial ?_ rfl
 simp only [Tryz.ntmps84, List.size_toArray, List.length_cons, List.length_nil, Nat.reduceAdd, Nat.reduceSub, Array.replicate_succ, Array.replicate_zero, List.push_toArray, List.append_toArray, List.nil_append, List.cons_append]
 try dsimp only
 repeat (first | (with_reducible refine wpW_reg (id := 0) (by kernel_rfl) ?_) | go_values | gi_step | gi_guarded | gi_upon | gi_in | gi_back | fail)
 iterate 4
  refine wpO_want rfl ?_
  go_simp
 refine wpO_done ?_
 have hm1 : IntKind.i64.wrap ((L.length : Int) - 1) = (L.length : Int) - 1 := IntWalk.i64_in _ (by have := unhide hl'; omega)
 try rw [hm1]
 clear c0 hself hm1
 gi_wp2_with fail
 gi_loopw [3] (fun i wr => ∃ (pre : List (Int × Int)) (k : Nat), k ≤ L.length ∧ bwL L = pre ++ ((List.range k).map (bwF L)).reverse ∧ i = .int .i64 ((k : Int) - 1) ∧ Blk wr bN 31 #[.slice A L.length c] ∧ SlAt encI 1 wr A L ∧ J pre wr ∧ W.heap.size ≤ wr.heap.size) (fun i _ => (intOf i + 1).toNat)
 case atStart => exact ⟨[], L.length, Nat.le_refl _, rfl, rfl, unhide hBW, unhide hLW, unhide h0', Nat.le_refl _⟩
 case round =>
  obtain ⟨pre, k, hk, hpre, rfl, hB, hL, hJp, hsz⟩ := hrel
  cases k with
  | zero =>
   rw [List.range_zero, List.map_nil, List.reverse_nil, List.append_nil] at hpre
   have hJp' := hide hJp
   have hpre' := hide hpre
   clear hB hL hJp hpre hY' h0' hBW hLW hsz
   gi_wp2_with fail
   go_end0
   exact ⟨⟨_, rfl⟩, .inl (by rw [unhide hpre']; exact unhide hJp')⟩
  | succ k =>
   rw [bw_next] at hpre
   have hp1 : (pre ++ [bwF L k]) <+: bwL L := ⟨((List.range k).map (bwF L)).reverse, by rw [hpre]; simp⟩
   obtain ⟨fn, tmps, assign, body, hy, hRd⟩ := unhide hY' pre (bwF L k) wr hJp hp1 hsz
   obtain ⟨b, off, rfl, d0⟩ := atI hL hk
   have hx : bwF L k = ((k : Int), L[k]) := by unfold bwF; rw [List.getElem?_eq_getElem hk, Option.getD_some]
   rw [hx] at hy
   simp only at hy
   have hB' := hide hB
   have hL' := hide hL
   have hpre' := hide hpre
   have hRd' := hide hRd
   have hsz' := hide hsz
   have c0 := hB.cells 0 (v := .slice (some ⟨b, off, none⟩) L.length c) rfl
   have hself := Ext.refl wr
   have hk1 : ((k + 1 : Nat) : Int) - 1 = (k : Int) := by omega
   generalize L[k] = x at d0 hy
   clear hB hL hJp hpre h0' hBW hLW hRd hsz hp1 hY' hx
   rw [hk1]
   clear hk1
   gi_wp2_with fail
   refine ⟨rfl, (unhide hRd').mono ?_⟩
   rintro e W6 ⟨(⟨rfl, hJ6⟩ | ⟨rfl, hJx6⟩), hsame, hsz6⟩
   ·have hB6 := hide ((unhide hB').of_block (hsame bN (List.mem_append.2 (.inr (by simp)))))
    have hL6 := hide ((unhide hL').of_blocks hsz6 (fun b' off' e _ => hsame b' (List.mem_append.2 (.inr (by injection e with e; injection e with e1; subst e1; have hne : L.length ≠ 0 := (by omega); simp [exA, hne])))))
    have hJ6' := hide hJ6
    have hsz6' := hide (Nat.le_trans (unhide hsz') hsz6)
    clear hsame hsz6 hB' hL' hJ6 hRd' hsz' hy c0 d0 hself
    have hkl : (k : Int) < 100000000 := by have := unhide hl'; omega
    gi_wp2_with fail
    go_roundw
    case rel => exact ⟨pre ++ [bwF L k], k, by omega, by rw [unhide hpre']; simp, by go_num, unhide hB6, unhide hL6, unhide hJ6', unhide hsz6'⟩
    case measure => simp [intOf]
   ·have hJx6' := hide hJx6
    clear hJx6 hsame hsz6 hy hRd'
    gi_wp2_with fail
    refine bodyPost_ret (results_none rfl _ _ _) rfl ?_
    exact ⟨⟨_, rfl⟩, .inr ⟨_, unhide hJx6'⟩⟩
end Go.Proofs.YtmfkkkhddigkfaaGreatDoor
namespace Go.Proofs.YtmfkkkhddigkfaaGreatDoor
open Go
section
variable {κ τ : Type} [DecidableEq κ]
theorem look_map (u x : κ) (v : τ) : ∀ M : List (κ × τ), lookM (M.map fun p => if p.1 = u then (u, v) else p) x = if x = u ∧ (lookM M u).isSome = true then some v else lookM M x
 | [] => by simp [lookM]
 | p :: r => by
  have ih := look_map u x v r
  unfold lookM at ih ⊢
  rw [List.map_cons, List.find?_cons, List.find?_cons, List.find?_cons]
  by_cases h1 : p.1 = u
  ·by_cases h2 : x = u
   ·subst h2; simp [h1]
   ·have h3 : ¬ u = x := fun e => h2 e.symm
    rw [if_pos h1, decide_eq_false h3, decide_eq_false (show ¬ p.1 = x from fun e => h3 (h1.symm.trans e)), ih, if_neg (fun h => h2 h.1), if_neg (fun h => h2 h.1)]
  ·rw [if_neg h1, decide_eq_false h1]
   by_cases h2 : p.1 = x
   ·have h3 : ¬ x = u := fun e => h1 (h2.trans e)
    rw [decide_eq_true h2, if_neg (fun h => h3 h.1)]
   ·rw [decide_eq_false h2, ih]
theorem look_put (M : List (κ × τ)) (u x : κ) (v : τ) : lookM (putM M u v) x = if x = u then some v else lookM M x := by
 unfold putM
 split
 ·rename_i h
  rw [look_map]
  by_cases h2 : x = u
  ·rw [if_pos ⟨h2, h⟩, if_pos h2]
  ·rw [if_neg (fun h => h2 h.1), if_neg h2]
 ·rename_i h
  have h0 : lookM M u = none := by simpa using h
  unfold lookM at h0 ⊢
  rw [List.find?_append]
  by_cases h2 : x = u
  ·subst h2
   have h1 : M.find? (fun p => decide (p.1 = x)) = none := by simpa using h0
   rw [h1, if_pos rfl]
   simp
  ·rw [if_neg h2]
   have h3 : ¬ u = x := fun e => h2 e.symm
   simp [h3]
end
section
variable {V : List (Int × Thing)} {E : List ((Int × Int) × Thing)}
end
end Go.Proofs.YtmfkkkhddigkfaaGreatDoor
