/- Parts of a proof, laid together. Each part says its own conditions. -/
import Derived.Test.YtmfkkkhddigkfaaGreatDoorR17
import Derived.Test.YtmfkkkhddigkfaaGreatDoorR24
import Derived.LaidMore
import Derived.Stop.Joined
import Derived.MakeChecks
namespace Go.Proofs.YtmfkkkhddigkfaaGreatDoor
open Go Go.RowKit Go.ChangeShapes Go.WideShapes Go.Deep
section
variable {H : Type} {enc : TypeId × Value → H} {w : World} {base : Nat} {spare : Nat → Bool} {held : Bool} {fuel : Nat} {x : DataW H × List MemPlace} {a : Option Addr} {len cap : Nat}
end
theorem gTab : Tryz.prog.globalNamed "math/bits.deBruijn64tab" = some 0 := by kernel_rfl
theorem tTab : (Tryz.prog.globals[0]?).map (·.type) = some 176 := by kernel_rfl
def laidL : List (String × DataW Unit) := [("math/bits.deBruijn64tab",Rows.laid_math_bits_deBruijn64tab)]
theorem laid_list {H : Type} : (Rows.laid_math_bits_deBruijn64tab : DataW H) = .agg (Lib.deBruijn64tab.map fun (n : Nat) => DataW.lit (.int .u8 (n : Int))) := by kernel_rfl
theorem tab_len : Lib.deBruijn64tab.length = 64 := by decide
theorem tab_of_laid {W : World} (h : laidMetH Tryz.prog laidL W) : Tab W := by
 rw [MakeChecks.laidMetH_plain _ _ _ (by kernel_rfl)] at h
 obtain ⟨ps,⟨g0,t0,cs0,f0,p0,q0,hg0,ht0,hv0,hd0,_⟩,_⟩ := h
 obtain rfl := Option.some.inj (gTab.symm.trans hg0)
 obtain rfl := Option.some.inj (tTab.symm.trans ht0)
 obtain ⟨xs,m1,rfl,hx1,hlen,hn3,hel⟩ := DataW.trod_array Tryz.underlying176 hd0
 rw [laid_list] at hx1
 simp only [Prod.mk.injEq,DataW.agg.injEq] at hx1
 have hc8 : Tryz.prog.cellsOf 5 = 1 := by kernel_rfl
 intro j hj
 have hj64 : j < 64 := by rw [tab_len] at hj; exact hj
 have hjx : j < xs.length := by omega
 have h0 := hel j hj64
 rw [List.getElem?_eq_getElem hjx] at h0
 obtain ⟨k,e1,e2,_⟩ := DataW.trod_int Tryz.underlying5 h0
 have hl := congrArg (fun l => l[j]?) hx1.1
 simp only [List.getElem?_map,List.getElem?_eq_getElem hjx,List.getElem?_eq_getElem hj,Option.map_some,e2,Option.some.injEq,DataW.lit.injEq,Lit.int.injEq,true_and] at hl
 rw [World.var?_cell hg0 hv0 j]
 rw [hc8,Nat.mul_one] at e1
 have e3 : (cs0.toList.drop j)[0]? = some (.int .u8 k) := by
  have := congrArg (fun l => l[0]?) e1
  simpa using this
 rw [List.getElem?_drop,Nat.add_zero,Array.getElem?_toList] at e3
 rw [e3, ← hl]
 simp [hj]
end Go.Proofs.YtmfkkkhddigkfaaGreatDoor
