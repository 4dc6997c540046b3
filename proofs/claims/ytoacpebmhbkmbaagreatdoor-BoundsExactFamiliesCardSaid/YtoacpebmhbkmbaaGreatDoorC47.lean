/- Parts of a proof, laid together. Each part says its own conditions. -/
import Derived.Test.YtoacpebmhbkmbaaGreatDoorC18
import Derived.Test.YtoacpebmhbkmbaaGreatDoorC14
import Derived.WalkKit
import Derived.ProofKit
import Derived.WideShapes
import Derived.OpenShut
namespace Go.Proofs.YtoacpebmhbkmbaaGreatDoor
open Go Go.RowKit Go.ChangeShapes Go.WideShapes Go.Deep
def packN (s : Nat → Nat) : Nat → Nat
 | 0 => 0
 | k + 1 => packN s k + s k * 2 ^ (64 * k)
theorem packN_lt (s : Nat → Nat) (h : ∀ i,s i < 18446744073709551616) : ∀ k,packN s k < 2 ^ (64 * k)
 | 0 => by simp [packN]
 | k + 1 => by
  have ih := packN_lt s h k
  have hk := h k
  have e : 2 ^ (64 * (k + 1)) = 18446744073709551616 * 2 ^ (64 * k) := by rw [show 64 * (k + 1) = 64 + 64 * k by omega,Nat.pow_add]
  rw [packN,e]
  have : (s k + 1) * 2 ^ (64 * k) ≤ 18446744073709551616 * 2 ^ (64 * k) := Nat.mul_le_mul_right _ hk
  rw [Nat.add_mul,Nat.one_mul] at this
  omega
theorem packN_word (s : Nat → Nat) (h : ∀ i,s i < 18446744073709551616) : ∀ k i,i < k → wdN (packN s k) i = s i
 | 0,i,hi => by omega
 | k + 1,i,hi => by
  have hlt := packN_lt s h k
  by_cases he : i = k
  ·subst he
   unfold wdN
   rw [packN,Nat.shiftRight_eq_div_pow,Nat.add_mul_div_right _ _ (Nat.pow_pos (by decide)),Nat.div_eq_of_lt hlt,Nat.zero_add]
   exact Nat.mod_eq_of_lt (h i)
  ·have ih := packN_word s h k i (by omega)
   rw [← ih]
   apply Nat.eq_of_testBit_eq
   intro j
   rw [wdN_bit,wdN_bit]
   by_cases hj : j < 64
   ·simp only [hj,decide_true,Bool.true_and]
    rw [packN,Nat.add_comm,Nat.mul_comm,Nat.testBit_two_pow_mul_add _ hlt]
    rw [if_pos (by omega)]
   ·simp [hj]
section
variable {H : Type} {enc : TypeId × Value → H} {w : World} {base : Nat} {spare : Nat → Bool} {held : Bool}
set_option maxRecDepth 100000 in
theorem open_set {v : Value} {d : DataW H} {p : List MemPlace} {r : Reach} {b0 : Nat} (hv : Value.okWide Tryz.prog w r b0 76 v) (h : DataW.Trod enc Tryz.prog w base spare held 76 v d p) :
  ∃ N : Nat,v = .agg (setC N) ∧ N < 2 ^ (64 * 16) := by
 have hv2 := hv
 unfold Value.okWide at hv2
 rw [Tryz.underlying76] at hv2
 obtain ⟨cs,rfl,hsz,_⟩ := hv2
 have h16 : cs.size = 16 := hsz.trans (by kernel_rfl)
 obtain ⟨fuel,hf⟩ := h
 obtain ⟨xs,m,_,_,_,hlen,hg⟩ := DataW.trod_array Tryz.underlying76 hf
 have hce : Program.cellsOf Tryz.prog 74 = 1 := by kernel_rfl
 have hall : ∀ i,i < 16 → ∃ n : Nat,cs[i]? = some (.int .u64 (n : Int)) ∧ n < 18446744073709551616 := by
  intro i hi
  have h1 := hg i hi
  rw [hce,Nat.mul_one] at h1
  have hc : cs[i]? = some (cs[i]'(by omega)) := Array.getElem?_eq_getElem (by omega)
  have hd : (cs.toList.drop i).take 1 = [cs[i]'(by omega)] := by
   rw [List.drop_eq_getElem_cons (by simpa using (show i < cs.size by omega))]
   simp
  have h2 : DataW.trod enc Tryz.prog w base spare held m 74 [cs[i]'(by omega)] = some (xs[i]'(by omega)) := by
   rw [← hd]
   exact h1.trans (List.getElem?_eq_getElem (by omega))
  obtain ⟨z,ez,_,wz⟩ := DataW.trod_int Tryz.underlying74 h2
  simp only [List.cons.injEq,and_true] at ez
  have hb := Go.bounds_u64 wz
  refine ⟨z.toNat, ?_,by omega⟩
  rw [hc,ez,show ((z.toNat : Nat) : Int) = z by omega]
 obtain ⟨f,hf2⟩ := choose_lt hall
 have hN : ∀ i,(if i < 16 then f i else 0) < 18446744073709551616 := by
  intro i
  split
  ·exact (hf2 i (by omega)).2
  ·decide
 refine ⟨packN (fun i => if i < 16 then f i else 0) 16, ?_,packN_lt _ hN 16⟩
 congr 1
 apply Array.ext_getElem?
 intro i
 by_cases hi : i < 16
 ·rw [setC_get _ hi,(hf2 i hi).1]
  unfold wd
  rw [packN_word _ hN 16 i hi,if_pos hi]
 ·have h1 : ∀ a : Array Value,a.size = 16 → a[i]? = none := fun a h => Array.getElem?_eq_none (by omega)
  rw [h1 _ h16,h1 _ (setC_size _)]
end
end Go.Proofs.YtoacpebmhbkmbaaGreatDoor
