/- Parts of a proof, laid together. Each part says its own conditions. -/
import Derived.Test.YtmfkkkhddigkfaaGreatDoorR39
import Derived.Test.YtmfkkkhddigkfaaGreatDoorR44
namespace Go.Proofs.YtmfkkkhddigkfaaGreatDoor
open Go Go.RowKit Go.Shelf
attribute [local go_sem] qUpon lUpon
attribute [local irreducible] wpO wpX wpQL
theorem find_congr {α β : Type} {f g : α → Option β} : ∀ {l : List α},(∀ x ∈ l,f x = g x) → l.findSome? f = l.findSome? g
 | [],_ => rfl
 | x :: l,h => by
  rw [List.findSome?_cons,List.findSome?_cons,h x (by simp),find_congr (fun y hy => h y (by simp [hy]))]
theorem ordR_fuel (V : List (Int × Thing)) (E : List ((Int × Int) × Thing)) (f : Nat) : ∀ (f' : Nat) (L : List Int),L.length < f → L.length < f' → ordR V E f L = ordR V E f' L := by
 induction f with
 | zero => intro f' L h; omega
 | succ f ih =>
  intro f' L h h'
  cases f' with
  | zero => omega
  | succ f' =>
   by_cases hL : L = []
   ·rw [ordR,ordR,if_pos hL,if_pos hL]
   ·rw [ordR_step V E f hL,ordR_step V E f' hL]
    refine find_congr fun x hx => ?_
    unfold ordG
    have := out_len hx
    rw [ih f' (outR L x) (by omega) (by omega)]
theorem peo_ref {V : List (Int × Thing)} {E : List ((Int × Int) × Thing)} (hi : GInv V E) : ordR V E 4097 (V.map (·.1)) = peoS V E := by
 have hl : (V.map (·.1)).length ≤ 1024 := by rw [List.length_map]; exact hi.nv
 unfold peoS
 rw [poS_ordR hi 1025 (vS V) (fun x hx => (mem_vS hi).1 hx) (by rw [toL_vS hi]; omega),toL_vS hi]
 exact ordR_fuel V E 4097 1025 _ (by omega) (by omega)
theorem peo_len {V : List (Int × Thing)} {E : List ((Int × Int) × Thing)} : ((peoS V E).getD []).length ≤ 1025 := by
 cases h : peoS V E with
 | none => simp
 | some o => exact (poS_mem _ _ _ h).1
end Go.Proofs.YtmfkkkhddigkfaaGreatDoor
