/- Parts of a proof, laid together. Each part says its own conditions. -/
import Derived.Test.YtoacpebmhbkmbaaGreatDoorT39
import Derived.Test.YtoacpebmhbkmbaaGreatDoorT26
import Derived.Test.YtoacpebmhbkmbaaGreatDoorT40
import Derived.Test.YtoacpebmhbkmbaaGreatDoorT31
import Derived.Test.YtoacpebmhbkmbaaGreatDoorT38
import Derived.Test.YtoacpebmhbkmbaaGreatDoorT12
import Derived.Test.YtoacpebmhbkmbaaGreatDoorT15
import Derived.Test.YtoacpebmhbkmbaaGreatDoorT10
import Derived.Test.YtoacpebmhbkmbaaGreatDoorT37
import Derived.Test.YtoacpebmhbkmbaaGreatDoorT23
import Derived.LaidMore
import Derived.Stop.Joined
import Derived.MakeChecks
namespace Go.Proofs.YtoacpebmhbkmbaaGreatDoor
def thL (ids : List Int) (th : List Bool) (k : Nat) : List Int := ((List.range k).filter fun j => th.getD j false).map fun j => ids.getD j 0
structure RepB (ids : List Int) (th : List Bool) (nb : List (List Bool)) (n : Nat) (near : Int → Int → Bool) : Prop where
 li : ids.length = n
 lt : th.length = n
 nd : ids.Nodup
 nb : ∀ a b,a < n → b < n → th.getD a false = true → th.getD b false = true → nbG nb a b = near (ids.getD a 0) (ids.getD b 0)
section
variable {ids : List Int} {th : List Bool} {nb : List (List Bool)} {n : Nat} {near : Int → Int → Bool}
theorem RepB.inj (h : RepB ids th nb n near) {a b : Nat} (ha : a < n) (hb : b < n) (e : ids.getD a 0 = ids.getD b 0) : a = b := by
 have h1 : a < ids.length := by rw [h.li]; exact ha
 have h2 : b < ids.length := by rw [h.li]; exact hb
 rw [List.getD_eq_getElem?_getD,List.getD_eq_getElem?_getD,List.getElem?_eq_getElem h1,List.getElem?_eq_getElem h2] at e
 exact (List.getElem_inj h.nd).1 e
theorem RepB.deg (h : RepB ids th nb n near) {i : Nat} (hi : i < n) (ht : th.getD i false = true) : degB th nb n i = degP near (thL ids th n) (ids.getD i 0) := by
 unfold degB cntB degP thL
 rw [List.filter_map,List.length_map,List.filter_filter]
 refine congrArg List.length (List.filter_congr fun k hk => ?_)
 have hk := List.mem_range.1 hk
 unfold degF
 simp only [Function.comp]
 by_cases hh : th.getD k false = true
 ·rw [hh,h.nb i k hi hk ht hh]; simp
 ·rw [Bool.not_eq_true] at hh; rw [hh]; simp
theorem RepB.nodup (h : RepB ids th nb n near) : (thL ids th n).Nodup := by
 unfold thL
 refine List.pairwise_map.2 (((List.nodup_range (n := n)).filter _).imp_of_mem fun {a b} ha hb hne e => hne ?_)
 exact h.inj (List.mem_range.1 (List.mem_filter.1 ha).1) (List.mem_range.1 (List.mem_filter.1 hb).1) e
theorem leastP_snoc (key : Int → Nat) : ∀ (l : List Int) (a x : Int),leastP key (a :: (l ++ [x])) = if key x < key (leastP key (a :: l)) then x else leastP key (a :: l) := by
 intro l
 show ∀ (a x : Int),pickP key a (l ++ [x]) = if key x < key (pickP key a l) then x else pickP key a l
 induction l with
 | nil => intro a x; rfl
 | cons b l ih =>
  intro a x
  rw [List.cons_append]
  unfold pickP
  exact ih _ x
theorem RepB.drop_L (h : RepB ids th nb n near) {i : Nat} (hi : i < n) (ht : th.getD i false = true) : thL ids (th.set i false) n = (thL ids th n).erase (ids.getD i 0) := by
 have hl : i < th.length := by rw [h.lt]; exact hi
 rw [h.nodup.erase_eq_filter]
 unfold thL
 rw [List.filter_map,List.filter_filter]
 refine congrArg (List.map _) (List.filter_congr fun k hk => ?_)
 have hk := List.mem_range.1 hk
 rw [getD_set _ _ _ _ _ hl]
 simp only [Function.comp]
 by_cases hki : k = i
 ·subst hki; simp
 ·have hne : ids.getD k 0 ≠ ids.getD i 0 := fun e => hki (h.inj hk hi e)
  have hb : (ids.getD k 0 != ids.getD i 0) = true := bne_iff_ne.2 hne
  rw [if_neg hki,hb]
  cases th.getD k false <;> rfl
end
end Go.Proofs.YtoacpebmhbkmbaaGreatDoor
namespace Go.Proofs.YtoacpebmhbkmbaaGreatDoor
open Go Go.RowKit Go.Shelf
attribute [local go_sem] qUpon lUpon
attribute [local irreducible] wpO wpX wpQL
theorem Sp.addSt {wf w W W' : World} {T0 : List Nat} {ds : List Deferred} {L : List Cl} {Rs Rs' : List Rw} (h : Sp wf T0 w ds L Rs W) (hx : Ext W W') (hs : St W.heap.size [] Rs' W') : Sp wf T0 w ds L (Rs ++ Rs') W' := by
 have h1 := h.ext hx
 have hsz := h.size
 have he : stT L (Rs ++ Rs') = stT L Rs ++ stT [] Rs' := by
  unfold stT rwT
  rw [List.flatMap_append,List.map_nil,List.nil_append,List.append_assoc]
 refine h.step (hx.keep []) (by simp) ⟨h1.st.cells,fun r hr => ?_, ?_,fun x hx2 => ?_⟩ (fun x hx2 => ?_)
 ·rcases List.mem_append.1 hr with hr | hr
  ·exact h1.st.rows r hr
  ·exact (hs.rows r hr).le hsz
 ·rw [he,List.nodup_append]
  refine ⟨h1.st.nd,hs.nd,fun a ha b hb e => ?_⟩
  have h2 := h.lt a ha
  have h3 := hs.ge b hb
  omega
 ·rw [he] at hx2
  rcases List.mem_append.1 hx2 with h2 | h2
  ·exact h1.st.ge x h2
  ·exact Nat.le_trans hsz (hs.ge x h2)
 ·rw [he] at hx2
  rcases List.mem_append.1 hx2 with h2 | h2
  ·exact .inl h2
  ·exact .inr (hs.ge x h2)
theorem getD_all {th : List Bool} {n : Nat} (h : ∀ k,k < n → th.getD k false = true) (ids : List Int) (hl : ids.length = n) : thL ids th n = ids := by
 unfold thL
 rw [List.filter_eq_self.2 fun k hk => h k (List.mem_range.1 hk)]
 refine List.ext_getElem? fun j => ?_
 rw [List.getElem?_map]
 by_cases hj : j < n
 ·rw [List.getElem?_range hj,Option.map_some,List.getD_eq_getElem?_getD,List.getElem?_eq_getElem (by omega)]
  rfl
 ·rw [List.getElem?_eq_none (by rw [List.length_range]; omega),List.getElem?_eq_none (by omega)]
  rfl
end Go.Proofs.YtoacpebmhbkmbaaGreatDoor
namespace Go.Proofs.YtoacpebmhbkmbaaGreatDoor
open Go Go.RowKit Go.Shelf
attribute [local go_sem] qUpon lUpon
attribute [local irreducible] wpO wpX wpQL
theorem nxV_len (op u v lab wt : Int) (V : List (Int × Thing)) (E : List ((Int × Int) × Thing)) : (nxV op u v lab wt V E).length ≤ V.length + 1 := by
 unfold nxV
 split
 ·unfold refV
  split
  ·have h := ins_len (gt := gtV (u,(lab,wt))) (x := (u,(lab,wt))) V (false,[])
   unfold insF
   split
   ·have := h.1; simp at this; omega
   ·rename_i hd
    have := h.2.1 (by simpa using hd)
    simp at this
    simp [this]
  ·split
   ·omega
   ·have hfv : ∀ x,(fV op u lab wt x).length ≤ 1 := by
     intro x
     unfold fV
     repeat' split
     all_goals simp
    have h := flat_len hfv V
    omega
 ·omega
theorem stD_len0 : ∀ (L : List Ed) (s : GS),(L.foldl stD s).1.length ≤ s.1.length + L.length
 | [],s => by simp
 | d :: L,s => by
  rw [List.foldl_cons]
  have h1 := stD_len0 L (stD s d)
  have h2 := nxV_len d.1 d.2.1 d.2.2.1 d.2.2.2.1 d.2.2.2.2 s.1 s.2
  have h3 : (stD s d).1.length ≤ s.1.length + 1 := h2
  simp only [List.length_cons]
  omega
theorem bgS_len (L : List Ed) : (bgS L).1.length ≤ 100 := by
 have h := stD_len0 ((L.take 40).take 60) ([],[])
 have h2 : ((L.take 40).take 60).length ≤ 40 := by rw [List.length_take,List.length_take]; omega
 have h3 : (bgS L).1.length ≤ 0 + ((L.take 40).take 60).length := h
 omega
end Go.Proofs.YtoacpebmhbkmbaaGreatDoor
namespace Go.Proofs.YtoacpebmhbkmbaaGreatDoor
open Go Go.RowKit Go.ChangeShapes Go.WideShapes Go.Deep
section
variable {H : Type} {enc : TypeId × Value → H} {w : World} {base : Nat} {spare : Nat → Bool} {held : Bool} {fuel : Nat} {x : DataW H × List MemPlace} {a : Option Addr} {len cap : Nat}
end
theorem gTab : Tryz.prog.globalNamed "math/bits.deBruijn64tab" = some 0 := by kernel_rfl
theorem tTab : (Tryz.prog.globals[0]?).map (·.type) = some 199 := by kernel_rfl
def laidL : List (String × DataW Unit) := [("math/bits.deBruijn64tab",Rows.laid_math_bits_deBruijn64tab)]
theorem laid_list {H : Type} : (Rows.laid_math_bits_deBruijn64tab : DataW H) = .agg (Lib.deBruijn64tab.map fun (n : Nat) => DataW.lit (.int .u8 (n : Int))) := by kernel_rfl
theorem tab_len : Lib.deBruijn64tab.length = 64 := by decide
theorem tab_of_laid {W : World} (h : laidMetH Tryz.prog laidL W) : Tab W := by
 rw [MakeChecks.laidMetH_plain _ _ _ (by kernel_rfl)] at h
 obtain ⟨ps,⟨g0,t0,cs0,f0,p0,q0,hg0,ht0,hv0,hd0,_⟩,_⟩ := h
 obtain rfl := Option.some.inj (gTab.symm.trans hg0)
 obtain rfl := Option.some.inj (tTab.symm.trans ht0)
 obtain ⟨xs,m1,rfl,hx1,hlen,hn3,hel⟩ := DataW.trod_array Tryz.underlying199 hd0
 rw [laid_list] at hx1
 simp only [Prod.mk.injEq,DataW.agg.injEq] at hx1
 have hc8 : Tryz.prog.cellsOf 5 = 1 := by kernel_rfl
 intro j hj
 have hj64 : j < 64 := by rw [tab_len] at hj; exact hj
 have hjx : j < xs.length := by omega
 have h0 := hel j hj64
 rw [List.getElem?_eq_getElem hjx] at h0
 obtain ⟨k,e1,e2,_⟩ := DataW.trod_int Tryz.underlying5 h0
 have hl := congrArg (fun l => l[j]?) hx1.1
 simp only [List.getElem?_map,List.getElem?_eq_getElem hjx,List.getElem?_eq_getElem hj,Option.map_some,e2,Option.some.injEq,DataW.lit.injEq,Lit.int.injEq,true_and] at hl
 rw [World.var?_cell hg0 hv0 j]
 rw [hc8,Nat.mul_one] at e1
 have e3 : (cs0.toList.drop j)[0]? = some (.int .u8 k) := by
  have := congrArg (fun l => l[0]?) e1
  simpa using this
 rw [List.getElem?_drop,Nat.add_zero,Array.getElem?_toList] at e3
 rw [e3, ← hl]
 simp [hj]
end Go.Proofs.YtoacpebmhbkmbaaGreatDoor
