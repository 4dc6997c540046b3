/- Parts of a proof, laid together. Each part says its own conditions. -/
import Derived.Test.YtbpeemhfjgcnaaaGreatC23
namespace Go.Proofs.YtbpeemhfjgcnaaaGreat
def farF (out : List Int) : Nat → Int → Nat
 | 0,_ => 0
 | f + 1,v => if v ∈ out then farF out f ((v + 1) % 40) + 1 else 0
theorem farF_le (out : List Int) : ∀ f v,farF out f v ≤ f
 | 0,_ => Nat.le_refl _
 | f + 1,v => by
  unfold farF
  split
  ·exact Nat.succ_le_succ (farF_le out f _)
  ·exact Nat.zero_le _
theorem farF_all (out : List Int) : ∀ f v,0 ≤ v ∧ v < 40 → farF out f v = f → ∀ i : Nat,i < f → (v + i) % 40 ∈ out
 | 0,_,_,_,i,hi => by omega
 | f + 1,v,hv,h,i,hi => by
  unfold farF at h
  split at h
  ·rename_i hm
   cases i with
   | zero =>
    have : (v + ((0 : Nat) : Int)) % 40 = v := by omega
    rw [this]; exact hm
   | succ i =>
    have := farF_all out f ((v + 1) % 40) (by omega) (by omega) i (by omega)
    have e : ((v + 1) % 40 + (i : Int)) % 40 = (v + ((i + 1 : Nat) : Int)) % 40 := by omega
    rwa [e] at this
  ·omega
theorem farF_stable (out : List Int) : ∀ f v,farF out f v < f → farF out (f + 1) v = farF out f v
 | 0,_,h => by omega
 | f + 1,v,h => by
  unfold farF at h
  by_cases hm : v ∈ out
  ·rw [if_pos hm] at h
   have ih := farF_stable out f ((v + 1) % 40) (by omega)
   conv => lhs; unfold farF
   conv => rhs; unfold farF
   rw [if_pos hm,if_pos hm,ih]
  ·conv => lhs; unfold farF
   conv => rhs; unfold farF
   rw [if_neg hm,if_neg hm]
theorem farF_lt {out : List Int} (hl : out.length < 40) {v : Int} (hv : 0 ≤ v ∧ v < 40) : farF out 40 v < 40 := by
 have h1 := farF_le out 40 v
 by_cases h : farF out 40 v = 40
 ·exfalso
  have hall := farF_all out 40 v hv h
  have := nodup_len_le ((List.range 40).map fun i : Nat => (v + i) % 40) out ?_ ?_
  ·rw [List.length_map,List.length_range] at this
   omega
  ·refine List.pairwise_map.2 (List.nodup_range.imp_of_mem fun {a b} ha hb hab e => hab ?_)
   have := List.mem_range.1 ha
   have := List.mem_range.1 hb
   omega
  ·intro x hx
   obtain ⟨i,hi,e⟩ := List.mem_map.1 hx
   rw [← e]
   exact hall i (List.mem_range.1 hi)
 ·omega
theorem farF_step {out : List Int} (hl : out.length < 40) {v : Int} (hv : 0 ≤ v ∧ v < 40) (hm : v ∈ out) : farF out 40 ((v + 1) % 40) < farF out 40 v := by
 have h1 := farF_lt hl hv
 have e : farF out 40 v = farF out 39 ((v + 1) % 40) + 1 := by
  conv => lhs; unfold farF
  rw [if_pos hm]
 have h2 := farF_stable out 39 ((v + 1) % 40) (by omega)
 have h3 : farF out 40 ((v + 1) % 40) = farF out 39 ((v + 1) % 40) := h2
 omega
end Go.Proofs.YtbpeemhfjgcnaaaGreat
