/- Parts of a proof, laid together. Each part says its own conditions. -/
import Derived.Test.YtbpeemhfjgcnaaaGreatC20
import Derived.Laws.CopyRow
namespace Go.Proofs.YtbpeemhfjgcnaaaGreat
open Go Go.RowKit Go.Shelf
attribute [local go_sem] qUpon lUpon
section
variable {α : Type} {enc : α → List Value} {k : Nat}
def vA (enc : α → List Value) (C : List α) : Array Value := (C.flatMap enc).toArray
theorem vA_size (hk : ∀ x,(enc x).length = k) (C : List α) : (vA enc C).size = C.length * k := by
 unfold vA
 rw [List.size_toArray]
 exact flat_length hk C
theorem vA_put (hk : ∀ x,(enc x).length = k) (x : α) : ∀ (C : List α) (i : Nat),i < C.length → (C.flatMap enc).take (i * k) ++ enc x ++ (C.flatMap enc).drop (i * k + k) = (C.set i x).flatMap enc
 | [],i,h => by simp at h
 | a :: C,0,_ => by
  rw [List.flatMap_cons,List.set_cons_zero,List.flatMap_cons,Nat.zero_mul,List.take_zero,List.nil_append,Nat.zero_add,List.drop_append_of_le_length (by rw [hk]; exact Nat.le_refl _),List.drop_of_length_le (by rw [hk]; exact Nat.le_refl _),List.nil_append]
 | a :: C,i + 1,h => by
  have ih := vA_put hk x C i (by simpa using h)
  rw [List.flatMap_cons,List.set_cons_succ,List.flatMap_cons, ← ih]
  have e : (i + 1) * k = (enc a).length + i * k := by rw [hk,Nat.add_mul,Nat.one_mul,Nat.add_comm]
  rw [e,List.take_length_add_append,Nat.add_assoc,List.drop_length_add_append,List.append_assoc,List.append_assoc,List.append_assoc]
theorem run_store_elem {P : Program} {ρ : Operand → Value} {o : Oper} {t : TypeId} {p x : Operand} {w : World} {b i : Nat} {C : List α} {v : Value} {t0 : TypeId} (y : α) (ho : o.op = .store t p x) (hp : ρ p = .pointer (some ⟨b,i * k,none⟩)) (hx : ρ x = v) (hv : v.cells.toList = enc y)
  (hk : ∀ x,(enc x).length = k) (h1 : ∀ x, ∀ u ∈ enc x,u.oneCell' = true) (hs : (sizeOf t).run P w = .ok k w) (hb : Blk w b t0 (vA enc C)) (hi : i < C.length) :
  (execOp ρ o).run P w = .ok .skip (w.setRow b (vA enc (C.set i y))) := by
 have hle : i * k + k ≤ C.length * k := by
  have := Nat.mul_le_mul_right k (show i + 1 ≤ C.length from hi)
  rw [Nat.add_mul,Nat.one_mul] at this
  exact this
 have hst := run_storeCells_at (P := P) b (i * k) t0 (enc y) 0 (vA enc C) w hb (by rw [vA_size hk,hk]; omega) (h1 y)
 rw [Nat.add_zero,hk] at hst
 have e : ((vA enc C).toList.take (i * k) ++ enc y ++ (vA enc C).toList.drop (i * k + k)).toArray = vA enc (C.set i y) := by
  unfold vA
  rw [← vA_put hk y C i hi]
 rw [e] at hst
 have hsz : v.cells.size = k := by rw [← Array.length_toList,hv,hk]
 unfold execOp
 simp only [ho,hp,hx]
 simp [Instr.storeAt,Instr.sureAddr,storeVar,hs,hv,hsz,hst,Result.andThen]
theorem flat_rep {z : List Value} (hz : z.length = k) (n : Nat) (j : Nat) (hj : j < n * k) : ((List.replicate n z).flatMap id)[j]? = z[j % k]? := by
 induction n generalizing j with
 | zero => omega
 | succ n ih =>
  rw [List.replicate_succ,List.flatMap_cons]
  by_cases h : j < k
  ·rw [List.getElem?_append_left (by simpa [hz] using h),Nat.mod_eq_of_lt h]; rfl
  ·rw [List.getElem?_append_right (by simp [hz]; omega),ih _ (by simp only [id,hz]; rw [Nat.add_mul,Nat.one_mul] at hj; omega)]
   congr 1
   simp only [id,hz]
   exact (Nat.mod_eq_sub_mod (by omega)).symm
theorem run_mkA {P : Program} {ρ : Operand → Value} {o : Oper} {x y : Operand} {n by_ : Nat} {ST T : TypeId} {z : Value} (d : α) (ho : o.op = .makeSlice ST x y) (hx : ρ x = .int .i64 n) (hy : ρ y = .int .i64 n) (hn : n ≤ 100000) (ht : P.underlying ST = some (.slice T)) (hi : (P.info? T).map (fun i => (i.zero,i.size,i.bytes)) = some (some z,k,by_)) (hb : by_ ≤ 1000) (hz : z.cells.toList = enc d) (hk : ∀ x,(enc x).length = k) (hk0 : 0 < k) (w : World) :
  (execOp ρ o).run P w = .ok (.value (.slice (some ⟨w.heap.size,0,none⟩) n n)) (w.alloc (.cells (vA enc (List.replicate n d)) T)) := by
 obtain ⟨i0,hi0,hi1⟩ := Option.map_eq_some_iff.1 hi
 simp only [Prod.mk.injEq] at hi1
 obtain ⟨hz1,hz2,hz3⟩ := hi1
 have hbn : (i0.bytes : Int) * (n : Int) ≤ 281474976710656 := by
  rw [hz3]
  have h1 : by_ * n ≤ 1000 * 100000 := Nat.mul_le_mul hb hn
  have h2 : (by_ : Int) * (n : Int) = ((by_ * n : Nat) : Int) := by simp
  rw [h2]
  omega
 have h := run_make (P := P) w ST T i0 z ht hi0 hz1 .i64 .i64 n n (by omega) (Int.le_refl _) hbn (by omega)
 rw [hz2] at h
 simp only [Int.toNat_natCast] at h
 have hsz : z.cells.size = k := by rw [← Array.length_toList,hz,hk]
 have e : madeCells z.cells (n * k) = vA enc (List.replicate n d) := by
  apply Array.ext_getElem?
  intro j
  by_cases hj : j < n * k
  ·have h1 : j % k < z.cells.size := by rw [hsz]; exact Nat.mod_lt _ hk0
   have h2 : (vA enc (List.replicate n d))[j]? = (enc d)[j % k]? := by
    unfold vA
    rw [List.getElem?_toArray]
    have := flat_rep (hk d) n j hj
    rw [← this]
    congr 1
    rw [List.flatMap_id, ← List.map_replicate (f := enc),List.flatMap_def]
   rw [h2, ← hz,Array.getElem?_toList,Array.getElem?_eq_getElem h1]
   simp [madeCells,hsz,hj]
   exact (getElem!_pos z.cells (j % k) h1)
  ·rw [Array.getElem?_eq_none (by simp [madeCells]; omega),Array.getElem?_eq_none (by rw [vA_size hk,List.length_replicate]; omega)]
 rw [e] at h
 unfold execOp
 simp only [ho,hx,hy]
 simp [h,Result.andThen]
end
theorem run_store_elem1 {α : Type} {enc : α → List Value} {P : Program} {ρ : Operand → Value} {o : Oper} {t : TypeId} {p x : Operand} {w : World} {b i : Nat} {C : List α} {v : Value} {t0 : TypeId} (y : α) (ho : o.op = .store t p x) (hp : ρ p = .pointer (some ⟨b,i,none⟩)) (hx : ρ x = v) (hv : v.cells.toList = enc y)
  (hk : ∀ x,(enc x).length = 1) (h1 : ∀ x, ∀ u ∈ enc x,u.oneCell' = true) (hs : (sizeOf t).run P w = .ok 1 w) (hb : Blk w b t0 (vA enc C)) (hi : i < C.length) :
  (execOp ρ o).run P w = .ok .skip (w.setRow b (vA enc (C.set i y))) := run_store_elem (k := 1) y ho (by rw [Nat.mul_one]; exact hp) hx hv hk h1 hs hb hi
section
variable {P : Program} {l : List Oper} {a : Act} {W w wf : World} {T0 : List Nat} {ds : List Deferred} {L : List Cl} {Rs : List Rw} {S : List Nat} {w1 : World} {safe : Nat → Bool} {Q : Act → World → Prop} {n : Nat}
theorem Sp.swapL {x y : Cl} (h : Sp wf T0 w ds (L ++ [y,x]) Rs W) : Sp wf T0 w ds (L ++ [x,y]) Rs W := by
 have hp : (stT (L ++ [x,y]) Rs).Perm (stT (L ++ [y,x]) Rs) := by
  unfold stT
  refine List.Perm.append_right _ ?_
  rw [List.map_append,List.map_append]
  refine List.Perm.append_left _ ?_
  exact List.Perm.swap _ _ _
 exact h.step (Keep.refl [] W) (by simp) ⟨fun e he => h.st.cells e (by simp at he ⊢; rcases he with h | h | h <;> simp [h]),h.st.rows,hp.nodup_iff.2 h.st.nd,fun x hx => h.st.ge x (hp.mem_iff.1 hx)⟩ (fun x hx => .inl (hp.mem_iff.1 hx))
end
end Go.Proofs.YtbpeemhfjgcnaaaGreat
