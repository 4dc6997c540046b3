/- Parts of a proof, laid together. Each part says its own conditions. -/
import Derived.Test.YtmfkkkhddigkfaaGreatDoorP27
import Derived.Test.YtmfkkkhddigkfaaGreatDoorP24
import Derived.Laws.CopyRow
import Derived.Shelf.SlGeneric
import Derived.Shelf.SlSortCmp.NoneTotal
import Derived.Ground.SlsfProg
import Derived.Test.YtmfkkkhddigkfaaGreatDoorProg
import Derived.Test.YtmfkkkhddigkfaaGreatDoorP8
namespace Go.Proofs.YtmfkkkhddigkfaaGreatDoor
open Go Go.RowKit Go.Shelf
attribute [local go_sem] qUpon lUpon
section
variable {α : Type} {enc : α → List Value} {k : Nat}
def vA (enc : α → List Value) (C : List α) : Array Value := (C.flatMap enc).toArray
theorem vA_size (hk : ∀ x, (enc x).length = k) (C : List α) : (vA enc C).size = C.length * k := by
 unfold vA
 rw [List.size_toArray]
 exact flat_length hk C
theorem vA_put (hk : ∀ x, (enc x).length = k) (x : α) : ∀ (C : List α) (i : Nat), i < C.length → (C.flatMap enc).take (i * k) ++ enc x ++ (C.flatMap enc).drop (i * k + k) = (C.set i x).flatMap enc
 | [], i, h => by simp at h
 | a :: C, 0, _ => by
  rw [List.flatMap_cons, List.set_cons_zero, List.flatMap_cons, Nat.zero_mul, List.take_zero, List.nil_append, Nat.zero_add, List.drop_append_of_le_length (by rw [hk]; exact Nat.le_refl _), List.drop_of_length_le (by rw [hk]; exact Nat.le_refl _), List.nil_append]
 | a :: C, i + 1, h => by
  have ih := vA_put hk x C i (by simpa using h)
  rw [List.flatMap_cons, List.set_cons_succ, List.flatMap_cons, ← ih]
  have e : (i + 1) * k = (enc a).length + i * k := by rw [hk, Nat.add_mul, Nat.one_mul, Nat.add_comm]
  rw [e, List.take_length_add_append, Nat.add_assoc, List.drop_length_add_append, List.append_assoc, List.append_assoc, List.append_assoc]
theorem run_store_elem {P : Program} {ρ : Operand → Value} {o : Oper} {t : TypeId} {p x : Operand} {w : World} {b i : Nat} {C : List α} {v : Value} {t0 : TypeId} (y : α) (ho : o.op = .store t p x) (hp : ρ p = .pointer (some ⟨b, i * k, none⟩)) (hx : ρ x = v) (hv : v.cells.toList = enc y)
  (hk : ∀ x, (enc x).length = k) (h1 : ∀ x, ∀ u ∈ enc x, u.oneCell' = true) (hs : (sizeOf t).run P w = .ok k w) (hb : Blk w b t0 (vA enc C)) (hi : i < C.length) :
  (execOp ρ o).run P w = .ok .skip (w.setRow b (vA enc (C.set i y))) := by
 have hle : i * k + k ≤ C.length * k := by
  have := Nat.mul_le_mul_right k (show i + 1 ≤ C.length from hi)
  rw [Nat.add_mul, Nat.one_mul] at this
  exact this
 have hst := run_storeCells_at (P := P) b (i * k) t0 (enc y) 0 (vA enc C) w hb (by rw [vA_size hk, hk]; omega) (h1 y)
 rw [Nat.add_zero, hk] at hst
 have e : ((vA enc C).toList.take (i * k) ++ enc y ++ (vA enc C).toList.drop (i * k + k)).toArray = vA enc (C.set i y) := by
  unfold vA
  rw [← vA_put hk y C i hi]
 rw [e] at hst
 have hsz : v.cells.size = k := by rw [← Array.length_toList, hv, hk]
 unfold execOp
 simp only [ho, hp, hx]
 simp [Instr.storeAt, Instr.sureAddr, storeVar, hs, hv, hsz, hst, Result.andThen]
theorem flat_rep {z : List Value} (hz : z.length = k) (n : Nat) (j : Nat) (hj : j < n * k) : ((List.replicate n z).flatMap id)[j]? = z[j % k]? := by
 induction n generalizing j with
 | zero => omega
 | succ n ih =>
  rw [List.replicate_succ, List.flatMap_cons]
  by_cases h : j < k
  ·rw [List.getElem?_append_left (by simpa [hz] using h), Nat.mod_eq_of_lt h]; rfl
  ·rw [List.getElem?_append_right (by simp [hz]; omega), ih _ (by simp only [id, hz]; rw [Nat.add_mul, Nat.one_mul] at hj; omega)]
   congr 1
   simp only [id, hz]
   exact (Nat.mod_eq_sub_mod (by omega)).symm
theorem run_mkA {P : Program} {ρ : Operand → Value} {o : Oper} {x y : Operand} {n by_ : Nat} {ST T : TypeId} {z : Value} (d : α) (ho : o.op = .makeSlice ST x y) (hx : ρ x = .int .i64 n) (hy : ρ y = .int .i64 n) (hn : n ≤ 100000) (ht : P.underlying ST = some (.slice T)) (hi : (P.info? T).map (fun i => (i.zero, i.size, i.bytes)) = some (some z, k, by_)) (hb : by_ ≤ 1000) (hz : z.cells.toList = enc d) (hk : ∀ x, (enc x).length = k) (hk0 : 0 < k) (w : World) :
  (execOp ρ o).run P w = .ok (.value (.slice (some ⟨w.heap.size, 0, none⟩) n n)) (w.alloc (.cells (vA enc (List.replicate n d)) T)) := by
 obtain ⟨i0, hi0, hi1⟩ := Option.map_eq_some_iff.1 hi
 simp only [Prod.mk.injEq] at hi1
 obtain ⟨hz1, hz2, hz3⟩ := hi1
 have hbn : (i0.bytes : Int) * (n : Int) ≤ 281474976710656 := by
  rw [hz3]
  have h1 : by_ * n ≤ 1000 * 100000 := Nat.mul_le_mul hb hn
  have h2 : (by_ : Int) * (n : Int) = ((by_ * n : Nat) : Int) := by simp
  rw [h2]
  omega
 have h := run_make (P := P) w ST T i0 z ht hi0 hz1 .i64 .i64 n n (by omega) (Int.le_refl _) hbn (by omega)
 rw [hz2] at h
 simp only [Int.toNat_natCast] at h
 have hsz : z.cells.size = k := by rw [← Array.length_toList, hz, hk]
 have e : madeCells z.cells (n * k) = vA enc (List.replicate n d) := by
  apply Array.ext_getElem?
  intro j
  by_cases hj : j < n * k
  ·have h1 : j % k < z.cells.size := by rw [hsz]; exact Nat.mod_lt _ hk0
   have h2 : (vA enc (List.replicate n d))[j]? = (enc d)[j % k]? := by
    unfold vA
    rw [List.getElem?_toArray]
    have := flat_rep (hk d) n j hj
    rw [← this]
    congr 1
    rw [List.flatMap_id, ← List.map_replicate (f := enc), List.flatMap_def]
   rw [h2, ← hz, Array.getElem?_toList, Array.getElem?_eq_getElem h1]
   simp [madeCells, hsz, hj]
   exact (getElem!_pos z.cells (j % k) h1)
  ·rw [Array.getElem?_eq_none (by simp [madeCells]; omega), Array.getElem?_eq_none (by rw [vA_size hk, List.length_replicate]; omega)]
 rw [e] at h
 unfold execOp
 simp only [ho, hx, hy]
 simp [h, Result.andThen]
end
def encS (c : Nat) : List Value := (setC c).toList
theorem one_encS (c : Nat) : ∀ v ∈ encS c, v.oneCell' = true := setC_one c
theorem infoS : (Tryz.prog.info? 51).map (fun i => (i.zero.map (·.cells.size), i.size, i.bytes)) = some (some 16, 16, 128) := by kernel_rfl
theorem run_buildS {ρ : Operand → Value} {o : Oper} {x : Operand} {w : World} {c : Nat} (ho : o.op = .buildSlice 66 1 #[(0, x)]) (hx : ρ x = .agg (setC c)) : (execOp ρ o).run Tryz.prog w = .ok (.value (.slice (some ⟨w.heap.size, 0, none⟩) 1 1)) (w.alloc (.cells (setC c) 51)) := by
 obtain ⟨a0, a1, a2, a3, a4, a5, a6, a7, a8, a9, a10, a11, a12, a13, a14, a15, hc⟩ : ∃ a0 a1 a2 a3 a4 a5 a6 a7 a8 a9 a10 a11 a12 a13 a14 a15, setC c = #[a0, a1, a2, a3, a4, a5, a6, a7, a8, a9, a10, a11, a12, a13, a14, a15] := ⟨_, _, _, _, _, _, _, _, _, _, _, _, _, _, _, _, rfl⟩
 rw [hc] at hx ⊢
 unfold execOp
 simp only [ho]
 simp [go_sem, hx]
theorem SlAt.sets {w : World} {A : Option Addr} {C : List Nat} (h : SlAt encS 16 w A C) (hne : 0 < C.length) : ∃ b off, A = some ⟨b, off, none⟩ ∧ b < w.heap.size ∧ ∀ (i : Nat) (_ : i < C.length) (S : List Nat) W, Keep S w W → b ∉ S → ∀ (j : Nat) v, (setC C[i])[j]? = some v → W.cell? ⟨b, off + i * 16 + j, none⟩ = some v := by
 obtain ⟨b, off, hA, hlt, hc⟩ := h (fun e => by rw [e] at hne; simp at hne)
 refine ⟨b, off, hA, hlt, fun i hi S W hk hn j v hv => ?_⟩
 rw [World.cell?_of_block (hk.block b hlt hn)]
 exact hc i _ (List.getElem?_eq_getElem hi) j v (by unfold encS; rw [Array.getElem?_toList]; exact hv)
theorem SlAt.set {w : World} {A : Option Addr} {C : List Nat} (h : SlAt encS 16 w A C) {i : Nat} (hi : i < C.length) : ∃ b off, A = some ⟨b, off, none⟩ ∧ b < w.heap.size ∧ ∀ S W, Keep S w W → b ∉ S → ∀ (j : Nat) v, (setC C[i])[j]? = some v → W.cell? ⟨b, off + i * 16 + j, none⟩ = some v := by
 obtain ⟨b, off, h1, h2, h3⟩ := h.sets (Nat.lt_of_le_of_lt (Nat.zero_le _) hi)
 exact ⟨b, off, h1, h2, fun S W => h3 i hi S W⟩
def encB (b : Bool) : List Value := [.bool b]
theorem one_encB (b : Bool) : ∀ v ∈ encB b, v.oneCell' = true := by intro v hv; simp [encB] at hv; subst hv; rfl
theorem flat1 {α : Type} {enc : α → List Value} {f : α → Value} (he : ∀ x, enc x = [f x]) : ∀ C : List α, C.flatMap enc = C.map f
 | [] => rfl
 | x :: C => by rw [List.flatMap_cons, List.map_cons, he, flat1 he C]; rfl
theorem vA1_get {α : Type} {enc : α → List Value} {f : α → Value} (he : ∀ x, enc x = [f x]) {C : List α} {i : Nat} (h : i < C.length) : (vA enc C)[i]? = some (f C[i]) := by
 unfold vA
 rw [flat1 he]
 simp [h]
theorem run_store_elem1 {α : Type} {enc : α → List Value} {P : Program} {ρ : Operand → Value} {o : Oper} {t : TypeId} {p x : Operand} {w : World} {b i : Nat} {C : List α} {v : Value} {t0 : TypeId} (y : α) (ho : o.op = .store t p x) (hp : ρ p = .pointer (some ⟨b, i, none⟩)) (hx : ρ x = v) (hv : v.cells.toList = enc y)
  (hk : ∀ x, (enc x).length = 1) (h1 : ∀ x, ∀ u ∈ enc x, u.oneCell' = true) (hs : (sizeOf t).run P w = .ok 1 w) (hb : Blk w b t0 (vA enc C)) (hi : i < C.length) :
  (execOp ρ o).run P w = .ok .skip (w.setRow b (vA enc (C.set i y))) := run_store_elem (k := 1) y ho (by rw [Nat.mul_one]; exact hp) hx hv hk h1 hs hb hi
section
variable {P : Program} {l : List Oper} {a : Act} {W w wf : World} {T0 : List Nat} {ds : List Deferred} {L : List Cl} {Rs : List Rw} {S : List Nat} {w1 : World} {safe : Nat → Bool} {Q : Act → World → Prop} {n : Nat}
theorem Sp.swapL {x y : Cl} (h : Sp wf T0 w ds (L ++ [y, x]) Rs W) : Sp wf T0 w ds (L ++ [x, y]) Rs W := by
 have hp : (stT (L ++ [x, y]) Rs).Perm (stT (L ++ [y, x]) Rs) := by
  unfold stT
  refine List.Perm.append_right _ ?_
  rw [List.map_append, List.map_append]
  refine List.Perm.append_left _ ?_
  exact List.Perm.swap _ _ _
 exact h.step (Keep.refl [] W) (by simp) ⟨fun e he => h.st.cells e (by simp at he ⊢; rcases he with h | h | h <;> simp [h]), h.st.rows, hp.nodup_iff.2 h.st.nd, fun x hx => h.st.ge x (hp.mem_iff.1 hx)⟩ (fun x hx => .inl (hp.mem_iff.1 hx))
theorem put_swap {a : Act} {d e : Nat} (h : d ≠ e) (v u : Value) : (a.put (some d) v).put (some e) u = (a.put (some e) u).put (some d) v := by
 unfold Act.put
 simp only
 rw [Array.setIfInBounds_comm _ _ h]
theorem Sp.alloc2A (h : Sp wf T0 w ds L Rs W) (hK : Keep S w1 W) {i k j : Nat} {oi ok oj : Oper} {listed : Array Bool} (hr : Region.ready .any l.toArray listed = [i, k])
  (hoi : pick l i = some oi) (hwi : ∀ t, Region.wanted oi t = true) (li : Array Bool) (hli : listed.setIfInBounds i true = li)
  (hok : pick l k = some ok) (hwk : ∀ t, Region.wanted ok t = true) (lk : Array Bool) (hlk : listed.setIfInBounds k true = lk)
  (hoj : pick l j = some oj) (hwj : ∀ t, Region.wanted oj t = true)
  (lik : Array Bool) (hri : Region.ready .any l.toArray li = [k, j]) (hlik : li.setIfInBounds k true = lik) (hrk : Region.ready .any l.toArray lk = [i]) (hlki : lk.setIfInBounds i true = lik)
  (lij : Array Bool) (hlij : li.setIfInBounds j true = lij) (hrij : Region.ready .any l.toArray lij = [k]) (lall : Array Bool) (hla : lij.setIfInBounds k true = lall) (hrik : Region.ready .any l.toArray lik = [j]) (hlb : lik.setIfInBounds j true = lall)
  {di dk dj : Nat} (hdi : oi.dst = some di) (hdk : ok.dst = some dk) (hdj : oj.dst = some dj) (hne : di ≠ dk) (hnj : dk ≠ dj) {vi vk : Nat → Value} (ti tk : TypeId) (ci ck : Array Value)
  (hai : ∀ W, (execOp a.eval oi).run P W = .ok (.value (vi W.heap.size)) (W.alloc (.cells ci ti))) (hak : ∀ W, (execOp a.eval ok).run P W = .ok (.value (vk W.heap.size)) (W.alloc (.cells ck tk)))
  (hai2 : ∀ v W, (execOp (a.put (some dk) v).eval oi).run P W = .ok (.value (vi W.heap.size)) (W.alloc (.cells ci ti))) (hak2 : ∀ v W, (execOp (a.put (some di) v).eval ok).run P W = .ok (.value (vk W.heap.size)) (W.alloc (.cells ck tk)))
  (hak3 : ∀ v u W, (execOp ((a.put (some di) v).put (some dj) u).eval ok).run P W = .ok (.value (vk W.heap.size)) (W.alloc (.cells ck tk)))
  (haj : ∀ v W, (execOp (a.put (some di) v).eval oj).run P W = .ok (.value v) W) (haj2 : ∀ v u W, (execOp ((a.put (some di) v).put (some dk) u).eval oj).run P W = .ok (.value v) W)
  (hk : ∀ bi bk W', Sp wf T0 w ds (L ++ [(bi, ti, ci), (bk, tk, ck)]) Rs W' → Keep S w1 W' → w1.heap.size ≤ bi → w1.heap.size ≤ bk → wpX P l.toArray Ext (Keep S w1) safe Q n lall (((a.put (some di) (vi bi)).put (some dk) (vk bk)).put (some dj) (vi bi)) W') :
  wpX P l.toArray Ext (Keep S w1) safe Q (n + 3) listed a W := by
 refine lx_two hr hoi (hwi _) li hli hok (hwk _) lk hlk ?_ ?_
 ·refine h.allocL hK ti ci (hai W) fun bi W1 hP1 hK1 hg1 => ?_
  rw [hdi]
  refine lx_two hri hok (hwk _) lik hlik hoj (hwj _) lij hlij ?_ ?_
  ·refine hP1.allocL hK1 tk ck (hak2 _ W1) fun bk W2 hP2 hK2 hg2 => ?_
   rw [hdk]
   rw [List.append_assoc] at hP2
   refine lx_one hrik hoj (hwj _) lall hlb ?_
   refine hP2.valL hK2 (haj2 _ _ W2) fun W3 hP3 hK3 => ?_
   rw [hdj]
   exact hk bi bk W3 hP3 hK3 hg1 hg2
  ·refine hP1.valL hK1 (haj _ W1) fun W2 hP2 hK2 => ?_
   rw [hdj]
   refine lx_one hrij hok (hwk _) lall hla ?_
   refine hP2.allocL hK2 tk ck (hak3 _ _ W2) fun bk W3 hP3 hK3 hg3 => ?_
   rw [hdk]
   rw [List.append_assoc] at hP3
   rw [put_swap hnj.symm]
   exact hk bi bk W3 hP3 hK3 hg1 hg3
 ·refine h.allocL hK tk ck (hak W) fun bk W1 hP1 hK1 hg1 => ?_
  rw [hdk]
  refine lx_one hrk hoi (hwi _) lik hlki ?_
  refine hP1.allocL hK1 ti ci (hai2 _ W1) fun bi W2 hP2 hK2 hg2 => ?_
  rw [hdi]
  rw [List.append_assoc] at hP2
  rw [put_swap hne.symm]
  refine lx_one hrik hoj (hwj _) lall hlb ?_
  refine hP2.swapL.valL hK2 (haj2 _ _ W2) fun W3 hP3 hK3 => ?_
  rw [hdj]
  exact hk bi bk W3 hP3 hK3 hg2 hg1
end
end Go.Proofs.YtmfkkkhddigkfaaGreatDoor
namespace Go.Proofs
open Go.Shelf
def Tryz.sortS_ren : Go.Shelf.Ren := ⟨fun | 6 => 68 | 15 => 91 | 14 => 90 | 28 => 113 | 29 => 114 | 20 => 105 | 21 => 106 | 22 => 107 | 23 => 108 | 24 => 109 | 25 => 110 | 26 => 111 | 27 => 112 | 46 => 147 | 47 => 148 | 48 => 149 | 49 => 150 | 50 => 151 | 57 => 165 | n => n, fun | 22 => 66 | 24 => 51 | 25 => 112 | 3 => 3 | 39 => 145 | 0 => 0 | 53 => 168 | 55 => 49 | 4 => 4 | 46 => 162 | 45 => 161 | 50 => 101 | 5 => 5 | 9 => 9 | 66 => 182 | 70 => 186 | 76 => 197 | 77 => 198 | n => n, fun | n => n⟩
theorem Tryz.sortS : Go.Proofs.SlLaysF0.n6 Tryz.prog Tryz.sortS_ren := {
 mixed := by kernel_rfl
 f6 := ⟨Tryz.f68.name, by decide, Tryz.func68.trans (congrArg some (by kernel_rfl))⟩
 f14 := ⟨Tryz.f90.name, by decide, Tryz.func90.trans (congrArg some (by kernel_rfl))⟩
 f15 := Tryz.func91.trans (congrArg some (by kernel_rfl))
 f20 := ⟨Tryz.f105.name, by decide, Tryz.func105.trans (congrArg some (by kernel_rfl))⟩
 f21 := ⟨Tryz.f106.name, by decide, Tryz.func106.trans (congrArg some (by kernel_rfl))⟩
 f22 := ⟨Tryz.f107.name, by decide, Tryz.func107.trans (congrArg some (by kernel_rfl))⟩
 f23 := ⟨Tryz.f108.name, by decide, Tryz.func108.trans (congrArg some (by kernel_rfl))⟩
 f24 := ⟨Tryz.f109.name, by decide, Tryz.func109.trans (congrArg some (by kernel_rfl))⟩
 f25 := ⟨Tryz.f110.name, by decide, Tryz.func110.trans (congrArg some (by kernel_rfl))⟩
 f26 := ⟨Tryz.f111.name, by decide, Tryz.func111.trans (congrArg some (by kernel_rfl))⟩
 f27 := ⟨Tryz.f112.name, by decide, Tryz.func112.trans (congrArg some (by kernel_rfl))⟩
 f28 := Tryz.func113.trans (congrArg some (by kernel_rfl))
 f29 := Tryz.func114.trans (congrArg some (by kernel_rfl))
 f46 := ⟨Tryz.f147.name, by decide, Tryz.func147.trans (congrArg some (by kernel_rfl))⟩
 f47 := Tryz.func148.trans (congrArg some (by kernel_rfl))
 f48 := Tryz.func149.trans (congrArg some (by kernel_rfl))
 f49 := ⟨Tryz.f150.name, by decide, Tryz.func150.trans (congrArg some (by kernel_rfl))⟩
 f50 := ⟨Tryz.f151.name, by decide, Tryz.func151.trans (congrArg some (by kernel_rfl))⟩
 f57 := ⟨Tryz.f165.name, by decide, Tryz.func165.trans (congrArg some (by kernel_rfl))⟩
 t0 := Tryz.underlying0
 a0 := Tryz.isAgg0
 z0 := Tryz.sizeOf0
 v0 := Tryz.zeroValue0
 t3 := Tryz.underlying3
 a3 := Tryz.isAgg3
 z3 := Tryz.sizeOf3
 v3 := Tryz.zeroValue3
 t4 := Tryz.underlying4
 a4 := Tryz.isAgg4
 z4 := Tryz.sizeOf4
 v4 := Tryz.zeroValue4
 t5 := Tryz.underlying5
 a5 := Tryz.isAgg5
 z5 := Tryz.sizeOf5
 v5 := Tryz.zeroValue5
 t9 := Tryz.underlying9
 a9 := Tryz.isAgg9
 z9 := Tryz.sizeOf9
 v9 := Tryz.zeroValue9
 t22 := Tryz.underlying66
 a22 := Tryz.isAgg66
 z22 := Tryz.sizeOf66
 v22 := Tryz.zeroValue66
 t25 := Tryz.underlying112
 a25 := Tryz.isAgg112
 z25 := Tryz.sizeOf112
 v25 := Tryz.zeroValue112
 t39 := Tryz.underlying145
 a39 := Tryz.isAgg145
 z39 := Tryz.sizeOf145
 v39 := Tryz.zeroValue145
 t45 := Tryz.underlying161
 a45 := Tryz.isAgg161
 z45 := Tryz.sizeOf161
 v45 := Tryz.zeroValue161
 t46 := Tryz.underlying162
 a46 := Tryz.isAgg162
 z46 := Tryz.sizeOf162
 v46 := Tryz.zeroValue162
 t50 := Tryz.underlying101
 a50 := Tryz.isAgg101
 z50 := Tryz.sizeOf101
 v50 := Tryz.zeroValue101
 t53 := Tryz.underlying168
 a53 := Tryz.isAgg168
 z53 := Tryz.sizeOf168
 v53 := Tryz.zeroValue168
 t55 := Tryz.underlying49
 a55 := Tryz.isAgg49
 z55 := Tryz.sizeOf49
 v55 := Tryz.zeroValue49
 t66 := Tryz.underlying182
 a66 := Tryz.isAgg182
 z66 := Tryz.sizeOf182
 v66 := Tryz.zeroValue182
 t70 := Tryz.underlying186
 a70 := Tryz.isAgg186
 z70 := Tryz.sizeOf186
 v70 := Tryz.zeroValue186
 t76 := Tryz.underlying197
 a76 := Tryz.isAgg197
 z76 := Tryz.sizeOf197
 v76 := Tryz.zeroValue197
 t77 := Tryz.underlying198
 a77 := Tryz.isAgg198
 z77 := Tryz.sizeOf198
 v77 := Tryz.zeroValue198 }
end Go.Proofs
namespace Go.Proofs.YtmfkkkhddigkfaaGreatDoor
open Go Go.RowKit Go.Sort
attribute [local go_sem] qUpon lUpon
attribute [local irreducible] wpO wpX wpQL
def cmpW (N M : Nat) : Nat → Int
 | 0 => 0
 | k + 1 => if wdN N k < wdN M k then -1 else if wdN M k < wdN N k then 1 else cmpW N M k
def lowN (N k : Nat) : Nat := N % 2 ^ (64 * k)
theorem lowN_next (N k : Nat) : lowN N (k + 1) = wdN N k * 2 ^ (64 * k) + lowN N k := by
 unfold lowN wdN
 rw [show 64 * (k + 1) = 64 * k + 64 by omega, Nat.pow_add, Nat.mod_mul, Nat.shiftRight_eq_div_pow, Nat.add_comm, Nat.mul_comm]
theorem lowN_lt (N k : Nat) : lowN N k < 2 ^ (64 * k) := Nat.mod_lt _ (Nat.two_pow_pos _)
theorem mul_lt {a b p x y : Nat} (h : a < b) (hx : x < p) : a * p + x < b * p + y := by
 have h1 : (a + 1) * p ≤ b * p := Nat.mul_le_mul_right p h
 rw [Nat.add_mul, Nat.one_mul] at h1
 omega
theorem cmpW_eq (N M : Nat) : ∀ k, cmpW N M k = cmpI (lowN N k : Nat) (lowN M k : Nat)
 | 0 => by
  have h1 : lowN N 0 = 0 := by unfold lowN; rw [Nat.mul_zero, Nat.pow_zero, Nat.mod_one]
  have h2 : lowN M 0 = 0 := by unfold lowN; rw [Nat.mul_zero, Nat.pow_zero, Nat.mod_one]
  rw [h1, h2]; rfl
 | k + 1 => by
  have ih := cmpW_eq N M k
  have hx := lowN_lt N k
  have hy := lowN_lt M k
  unfold cmpW
  rw [lowN_next, lowN_next, ih]
  generalize lowN N k = x at *
  generalize lowN M k = y at *
  generalize 2 ^ (64 * k) = p at *
  generalize wdN N k = a at *
  generalize wdN M k = b at *
  unfold cmpI
  by_cases h1 : a < b
  ·have := mul_lt (y := y) h1 hx
   rw [if_pos h1, if_pos (by omega)]
  ·by_cases h2 : b < a
   ·have := mul_lt (y := x) h2 hy
    rw [if_neg h1, if_pos h2, if_neg (by omega), if_pos (by omega)]
   ·have : a = b := by omega
    subst this
    rw [if_neg h1, if_neg h1]
    generalize a * p = q
    have e1 : (((q + x : Nat) : Int) < ((q + y : Nat) : Int)) ↔ ((x : Int) < (y : Int)) := by omega
    have e2 : (((q + y : Nat) : Int) < ((q + x : Nat) : Int)) ↔ ((y : Int) < (x : Int)) := by omega
    by_cases h3 : (x : Int) < (y : Int)
    ·rw [if_pos h3, if_pos (e1.2 h3)]
    ·rw [if_neg h3, if_neg (fun h => h3 (e1.1 h))]
     by_cases h4 : (y : Int) < (x : Int)
     ·rw [if_pos h4, if_pos (e2.2 h4)]
     ·rw [if_neg h4, if_neg (fun h => h4 (e2.1 h))]
theorem cmpW_step {N M k : Nat} : cmpW N M (k + 1) = if cmpI (wd N k) (wd M k) = 0 then cmpW N M k else cmpI (wd N k) (wd M k) := by
 have e : cmpI (wd N k) (wd M k) = if wdN N k < wdN M k then -1 else if wdN M k < wdN N k then 1 else 0 := by
  unfold cmpI wd
  by_cases h1 : wdN N k < wdN M k
  ·rw [if_pos h1, if_pos (by omega)]
  ·rw [if_neg h1, if_neg (by omega)]
   by_cases h2 : wdN M k < wdN N k
   ·rw [if_pos h2, if_pos (by omega)]
   ·rw [if_neg h2, if_neg (by omega)]
 rw [e]
 show (if wdN N k < wdN M k then _ else _) = _
 by_cases h1 : wdN N k < wdN M k
 ·rw [if_pos h1, if_pos h1, if_neg (by omega)]
 ·rw [if_neg h1, if_neg h1]
  by_cases h2 : wdN M k < wdN N k
  ·rw [if_pos h2, if_pos h2, if_neg (by omega)]
  ·rw [if_neg h2, if_neg h2, if_pos rfl]
def ltS (N M : Nat) : Prop := lowN N 16 < lowN M 16
theorem ltOf_S (x y : Nat) : ltOf (fun x y : Nat => cmpW x y 16) x y = true ↔ ltS x y := by
 unfold ltOf ltS
 show decide (cmpW x y 16 < 0) = true ↔ _
 rw [cmpW_eq]
 unfold cmpI
 simp only [decide_eq_true_eq]
 split
 ·simp; omega
 ·split <;> simp <;> omega
theorem swoS : SWO (ltOf fun x y : Nat => cmpW x y 16) where
 irrefl x := by
  rw [Bool.eq_false_iff]
  intro h
  have := (ltOf_S x x).1 h
  unfold ltS at this
  omega
 trans x y z h1 h2 := by
  rw [ltOf_S] at *
  unfold ltS at *
  omega
 ntrans x y z h1 h2 := by
  rw [Bool.eq_false_iff] at *
  simp only [ne_eq, ltOf_S] at *
  unfold ltS at *
  omega
theorem nanu_any (a : Int) (w : World) : Calls Tryz.prog 115 #[.int .u64 a] w fun e w' => e = .returned (.bool false) ∧ w' = w := by
 go_enter Tryz.func115, Tryz.ntmps115
 go_wp2
 go_ret
 exact ⟨rfl, rfl⟩
theorem cmpu_any (a b : Int) (w : World) : Calls Tryz.prog 92 #[.int .u64 a, .int .u64 b] w fun e w' => e = .returned (.int .i64 (cmpI a b)) ∧ w' = w := by
 go_enter Tryz.func92, Tryz.ntmps92
 go_wp2_with (go_at_call 115; refine (nanu_any _ _).mono ?_; rintro e w' ⟨rfl, rfl⟩)
 all_goals (go_ret; exact ⟨ret_int (by unfold cmpI; first | (rw [if_pos (by omega)]) | (rw [if_neg (by omega), if_pos (by omega)]) | (rw [if_neg (by omega), if_neg (by omega)])), rfl⟩)
set_option maxRecDepth 100000 in
set_option maxHeartbeats 4000000 in
theorem cmpw_any (N M : Nat) (w : World) : Calls Tryz.prog 69 #[.agg (setC N), .agg (setC M)] w fun e w' => e = .returned (.int .i64 (cmpW N M 16)) ∧ Gr w w' := by
 obtain ⟨R, hR⟩ : ∃ R, R = cmpW N M 16 := ⟨_, rfl⟩
 rw [← hR]
 have hR' := hide hR
 clear hR
 have hB2 := hide ((Blk.new w 51 (setC N)).ext (ext_self1 _ (.cells (setC M) 51)))
 have hB3 := hide (Blk.new (w.alloc (.cells (setC N) 51)) 51 (setC M))
 have hx1 := hide (((Gr.refl w).alloc (.cells (setC N) 51)).alloc (.cells (setC M) 51))
 simp only [World.size_alloc] at hB3
 go_enter Tryz.func69, Tryz.ntmps69
 go_wp2_with fail
 generalize (w.alloc (.cells (setC N) 51)).alloc (.cells (setC M) 51) = W1 at *
 generalize w.heap.size + 1 = b3 at *
 generalize w.heap.size = b2 at *
 go_loopw [5] (fun i wr => ∃ k : Nat, k ≤ 16 ∧ i = .int .i64 ((k : Int) - 1) ∧ R = cmpW N M k ∧ Blk wr b2 51 (setC N) ∧ Blk wr b3 51 (setC M) ∧ Gr w wr) (fun i _ => (intOf i + 1).toNat)
 case atStart => exact ⟨16, Nat.le_refl _, rfl, unhide hR', unhide hB2, unhide hB3, unhide hx1⟩
 case round =>
  obtain ⟨k, hk, rfl, hRk, hB, hC, hx⟩ := hrel
  have hRk' := hide hRk
  have hB' := hide hB
  have hC' := hide hC
  have hx' := hide hx
  clear hB2 hB3 hx1 hRk
  cases k with
  | zero =>
   clear hB hC hx
   go_wp2_with fail
   go_ret
   exact ⟨ret_int (by rw [unhide hRk']; rfl), unhide hx'⟩
  | succ k =>
   have hk16 : k < 16 := by omega
   have hki : (k : Int) < 16 := by omega
   have c0 := hB.cells k (setC_get N hk16)
   have c1 := hC.cells k (setC_get M hk16)
   have hself := Ext.refl wr
   clear hB hC hx
   obtain ⟨z, hz⟩ : ∃ z, z = cmpI (wd N k) (wd M k) := ⟨_, rfl⟩
   have hz' := hide hz
   have e1 : ((k + 1 : Nat) : Int) - 1 = (k : Int) := by omega
   rw [e1]
   clear hz e1
   go_wp2_with fail
   refine wp_region_ql (P := Tryz.prog) (fun a b => b = a) (Gr wr) [0, 1, 2, 3, 4, 5, 6, 7] [] 0 #[true, true, true, true, true, true, true, true] (by kernel_rfl) (by kernel_rfl) rfl (by rfl) (fun _ => rfl) (fun _ _ _ h1 h2 => h2.trans h1) (fun _ _ h e => by rw [e]; exact h) (Gr.refl wr).drew ?_
   have c0' : ∀ W, Gr wr W → W.cell? ⟨b2, k, none⟩ = some (.int .u64 (wd N k)) := fun W h => c0 W h.ext
   have c1' : ∀ W, Gr wr W → W.cell? ⟨b3, k, none⟩ = some (.int .u64 (wd M k)) := fun W h => c1 W h.ext
   clear c0 c1 hself
   iterate 8
    refine ql_want (v := ?_) rfl (by rfl) (fun W hW => ?_) ?_
    rotate_left
    ·go_simp
     first | done | rfl | (go_at_call 92; refine (cmpu_any _ _ _).mono ?_; rintro _ _ ⟨h1, h2⟩; refine ⟨_, h1, ?_, h2⟩; rfl)
    go_frame
   refine wpQL_nil (fun w3 hx3 => ?_)
   refine wpX_done (by kernel_rfl) ?_
   try go_frame
   have hx3' := hide ((unhide hx').trans hx3)
   have hB3 := hide ((unhide hB').ext hx3.ext)
   have hC3 := hide ((unhide hC').ext hx3.ext)
   rw [← unhide hz']
   have hst : cmpW N M (k + 1) = if z = 0 then cmpW N M k else z := by rw [unhide hz']; exact cmpW_step
   have hst' := hide hst
   clear c0' c1' hx3 hst hx' hB' hC'
   by_cases hz0 : z = 0
   ·subst hz0
    have hw : IntKind.i64.wrap ((k : Int) - 1) = (k : Int) - 1 := IntWalk.i64_in _ (by omega)
    go_wp2_with fail
    go_roundw
    case rel => exact ⟨k, by omega, by first | rfl | go_num, by rw [unhide hRk', unhide hst', if_pos rfl], unhide hB3, unhide hC3, unhide hx3'⟩
    case measure => first | (simp [intOf]; done) | (simp [intOf]; omega)
   ·have hzn : (z != 0) = true := by simp [hz0]
    replace hz0 := hide hz0
    go_wp2_with fail
    go_ret
    exact ⟨ret_int (by rw [unhide hRk', unhide hst', if_neg (unhide hz0)]), unhide hx3'⟩
end Go.Proofs.YtmfkkkhddigkfaaGreatDoor
