/- Parts of a proof, laid together. Each part says its own conditions. -/
import Derived.Shelf.SlGeneric
import Derived.Shelf.SlSortCmp.NoneTotal
import Derived.Ground.SlsfProg
import Derived.Test.YtbpeemhfjgcnaaaGreatProg
import Derived.Test.YtbpeemhfjgcnaaaGreatC6
import Derived.Sort.OwnSorted
import Derived.Maps.AppendAt
namespace Go.Proofs
open Go.Shelf
def Tryz.sortV_ren : Go.Shelf.Ren := ⟨fun | 6 => 76 | 15 => 86 | 14 => 110 | 28 => 121 | 29 => 122 | 20 => 125 | 21 => 127 | 22 => 128 | 23 => 129 | 24 => 130 | 25 => 131 | 26 => 132 | 27 => 133 | 46 => 148 | 47 => 143 | 48 => 144 | 49 => 149 | 50 => 150 | 57 => 156 | n => n,fun | 22 => 82 | 24 => 81 | 25 => 134 | 3 => 3 | 39 => 147 | 0 => 0 | 53 => 166 | 55 => 47 | 4 => 4 | 46 => 158 | 45 => 157 | 50 => 163 | 5 => 5 | 9 => 9 | 66 => 180 | 70 => 184 | 76 => 190 | 77 => 129 | n => n,fun | n => n⟩
theorem Tryz.sortV : Go.Proofs.SlLaysF0.n6 Tryz.prog Tryz.sortV_ren := {
 mixed := by kernel_rfl
 f6 := ⟨Tryz.f76.name,by decide,Tryz.func76.trans (congrArg some (by kernel_rfl))⟩
 f14 := ⟨Tryz.f110.name,by decide,Tryz.func110.trans (congrArg some (by kernel_rfl))⟩
 f15 := Tryz.func86.trans (congrArg some (by kernel_rfl))
 f20 := ⟨Tryz.f125.name,by decide,Tryz.func125.trans (congrArg some (by kernel_rfl))⟩
 f21 := ⟨Tryz.f127.name,by decide,Tryz.func127.trans (congrArg some (by kernel_rfl))⟩
 f22 := ⟨Tryz.f128.name,by decide,Tryz.func128.trans (congrArg some (by kernel_rfl))⟩
 f23 := ⟨Tryz.f129.name,by decide,Tryz.func129.trans (congrArg some (by kernel_rfl))⟩
 f24 := ⟨Tryz.f130.name,by decide,Tryz.func130.trans (congrArg some (by kernel_rfl))⟩
 f25 := ⟨Tryz.f131.name,by decide,Tryz.func131.trans (congrArg some (by kernel_rfl))⟩
 f26 := ⟨Tryz.f132.name,by decide,Tryz.func132.trans (congrArg some (by kernel_rfl))⟩
 f27 := ⟨Tryz.f133.name,by decide,Tryz.func133.trans (congrArg some (by kernel_rfl))⟩
 f28 := Tryz.func121.trans (congrArg some (by kernel_rfl))
 f29 := Tryz.func122.trans (congrArg some (by kernel_rfl))
 f46 := ⟨Tryz.f148.name,by decide,Tryz.func148.trans (congrArg some (by kernel_rfl))⟩
 f47 := Tryz.func143.trans (congrArg some (by kernel_rfl))
 f48 := Tryz.func144.trans (congrArg some (by kernel_rfl))
 f49 := ⟨Tryz.f149.name,by decide,Tryz.func149.trans (congrArg some (by kernel_rfl))⟩
 f50 := ⟨Tryz.f150.name,by decide,Tryz.func150.trans (congrArg some (by kernel_rfl))⟩
 f57 := ⟨Tryz.f156.name,by decide,Tryz.func156.trans (congrArg some (by kernel_rfl))⟩
 t0 := Tryz.underlying0
 a0 := Tryz.isAgg0
 z0 := Tryz.sizeOf0
 v0 := Tryz.zeroValue0
 t3 := Tryz.underlying3
 a3 := Tryz.isAgg3
 z3 := Tryz.sizeOf3
 v3 := Tryz.zeroValue3
 t4 := Tryz.underlying4
 a4 := Tryz.isAgg4
 z4 := Tryz.sizeOf4
 v4 := Tryz.zeroValue4
 t5 := Tryz.underlying5
 a5 := Tryz.isAgg5
 z5 := Tryz.sizeOf5
 v5 := Tryz.zeroValue5
 t9 := Tryz.underlying9
 a9 := Tryz.isAgg9
 z9 := Tryz.sizeOf9
 v9 := Tryz.zeroValue9
 t22 := Tryz.underlying82
 a22 := Tryz.isAgg82
 z22 := Tryz.sizeOf82
 v22 := Tryz.zeroValue82
 t25 := Tryz.underlying134
 a25 := Tryz.isAgg134
 z25 := Tryz.sizeOf134
 v25 := Tryz.zeroValue134
 t39 := Tryz.underlying147
 a39 := Tryz.isAgg147
 z39 := Tryz.sizeOf147
 v39 := Tryz.zeroValue147
 t45 := Tryz.underlying157
 a45 := Tryz.isAgg157
 z45 := Tryz.sizeOf157
 v45 := Tryz.zeroValue157
 t46 := Tryz.underlying158
 a46 := Tryz.isAgg158
 z46 := Tryz.sizeOf158
 v46 := Tryz.zeroValue158
 t50 := Tryz.underlying163
 a50 := Tryz.isAgg163
 z50 := Tryz.sizeOf163
 v50 := Tryz.zeroValue163
 t53 := Tryz.underlying166
 a53 := Tryz.isAgg166
 z53 := Tryz.sizeOf166
 v53 := Tryz.zeroValue166
 t55 := Tryz.underlying47
 a55 := Tryz.isAgg47
 z55 := Tryz.sizeOf47
 v55 := Tryz.zeroValue47
 t66 := Tryz.underlying180
 a66 := Tryz.isAgg180
 z66 := Tryz.sizeOf180
 v66 := Tryz.zeroValue180
 t70 := Tryz.underlying184
 a70 := Tryz.isAgg184
 z70 := Tryz.sizeOf184
 v70 := Tryz.zeroValue184
 t76 := Tryz.underlying190
 a76 := Tryz.isAgg190
 z76 := Tryz.sizeOf190
 v76 := Tryz.zeroValue190
 t77 := Tryz.underlying129
 a77 := Tryz.isAgg129
 z77 := Tryz.sizeOf129
 v77 := Tryz.zeroValue129 }
def Tryz.sortE_ren : Go.Shelf.Ren := ⟨fun | 6 => 80 | 15 => 86 | 14 => 111 | 28 => 121 | 29 => 122 | 20 => 134 | 21 => 135 | 22 => 136 | 23 => 137 | 24 => 138 | 25 => 139 | 26 => 140 | 27 => 141 | 46 => 151 | 47 => 143 | 48 => 144 | 49 => 152 | 50 => 153 | 57 => 157 | n => n,fun | 22 => 85 | 24 => 84 | 25 => 142 | 3 => 3 | 39 => 147 | 0 => 0 | 53 => 166 | 55 => 47 | 4 => 4 | 46 => 158 | 45 => 157 | 50 => 163 | 5 => 5 | 9 => 9 | 66 => 180 | 70 => 184 | 76 => 190 | 77 => 129 | n => n,fun | n => n⟩
theorem Tryz.sortE : Go.Proofs.SlLaysF0.n6 Tryz.prog Tryz.sortE_ren := {
 mixed := by kernel_rfl
 f6 := ⟨Tryz.f80.name,by decide,Tryz.func80.trans (congrArg some (by kernel_rfl))⟩
 f14 := ⟨Tryz.f111.name,by decide,Tryz.func111.trans (congrArg some (by kernel_rfl))⟩
 f15 := Tryz.func86.trans (congrArg some (by kernel_rfl))
 f20 := ⟨Tryz.f134.name,by decide,Tryz.func134.trans (congrArg some (by kernel_rfl))⟩
 f21 := ⟨Tryz.f135.name,by decide,Tryz.func135.trans (congrArg some (by kernel_rfl))⟩
 f22 := ⟨Tryz.f136.name,by decide,Tryz.func136.trans (congrArg some (by kernel_rfl))⟩
 f23 := ⟨Tryz.f137.name,by decide,Tryz.func137.trans (congrArg some (by kernel_rfl))⟩
 f24 := ⟨Tryz.f138.name,by decide,Tryz.func138.trans (congrArg some (by kernel_rfl))⟩
 f25 := ⟨Tryz.f139.name,by decide,Tryz.func139.trans (congrArg some (by kernel_rfl))⟩
 f26 := ⟨Tryz.f140.name,by decide,Tryz.func140.trans (congrArg some (by kernel_rfl))⟩
 f27 := ⟨Tryz.f141.name,by decide,Tryz.func141.trans (congrArg some (by kernel_rfl))⟩
 f28 := Tryz.func121.trans (congrArg some (by kernel_rfl))
 f29 := Tryz.func122.trans (congrArg some (by kernel_rfl))
 f46 := ⟨Tryz.f151.name,by decide,Tryz.func151.trans (congrArg some (by kernel_rfl))⟩
 f47 := Tryz.func143.trans (congrArg some (by kernel_rfl))
 f48 := Tryz.func144.trans (congrArg some (by kernel_rfl))
 f49 := ⟨Tryz.f152.name,by decide,Tryz.func152.trans (congrArg some (by kernel_rfl))⟩
 f50 := ⟨Tryz.f153.name,by decide,Tryz.func153.trans (congrArg some (by kernel_rfl))⟩
 f57 := ⟨Tryz.f157.name,by decide,Tryz.func157.trans (congrArg some (by kernel_rfl))⟩
 t0 := Tryz.underlying0
 a0 := Tryz.isAgg0
 z0 := Tryz.sizeOf0
 v0 := Tryz.zeroValue0
 t3 := Tryz.underlying3
 a3 := Tryz.isAgg3
 z3 := Tryz.sizeOf3
 v3 := Tryz.zeroValue3
 t4 := Tryz.underlying4
 a4 := Tryz.isAgg4
 z4 := Tryz.sizeOf4
 v4 := Tryz.zeroValue4
 t5 := Tryz.underlying5
 a5 := Tryz.isAgg5
 z5 := Tryz.sizeOf5
 v5 := Tryz.zeroValue5
 t9 := Tryz.underlying9
 a9 := Tryz.isAgg9
 z9 := Tryz.sizeOf9
 v9 := Tryz.zeroValue9
 t22 := Tryz.underlying85
 a22 := Tryz.isAgg85
 z22 := Tryz.sizeOf85
 v22 := Tryz.zeroValue85
 t25 := Tryz.underlying142
 a25 := Tryz.isAgg142
 z25 := Tryz.sizeOf142
 v25 := Tryz.zeroValue142
 t39 := Tryz.underlying147
 a39 := Tryz.isAgg147
 z39 := Tryz.sizeOf147
 v39 := Tryz.zeroValue147
 t45 := Tryz.underlying157
 a45 := Tryz.isAgg157
 z45 := Tryz.sizeOf157
 v45 := Tryz.zeroValue157
 t46 := Tryz.underlying158
 a46 := Tryz.isAgg158
 z46 := Tryz.sizeOf158
 v46 := Tryz.zeroValue158
 t50 := Tryz.underlying163
 a50 := Tryz.isAgg163
 z50 := Tryz.sizeOf163
 v50 := Tryz.zeroValue163
 t53 := Tryz.underlying166
 a53 := Tryz.isAgg166
 z53 := Tryz.sizeOf166
 v53 := Tryz.zeroValue166
 t55 := Tryz.underlying47
 a55 := Tryz.isAgg47
 z55 := Tryz.sizeOf47
 v55 := Tryz.zeroValue47
 t66 := Tryz.underlying180
 a66 := Tryz.isAgg180
 z66 := Tryz.sizeOf180
 v66 := Tryz.zeroValue180
 t70 := Tryz.underlying184
 a70 := Tryz.isAgg184
 z70 := Tryz.sizeOf184
 v70 := Tryz.zeroValue184
 t76 := Tryz.underlying190
 a76 := Tryz.isAgg190
 z76 := Tryz.sizeOf190
 v76 := Tryz.zeroValue190
 t77 := Tryz.underlying129
 a77 := Tryz.isAgg129
 z77 := Tryz.sizeOf129
 v77 := Tryz.zeroValue129 }
end Go.Proofs
namespace Go.Proofs.YtbpeemhfjgcnaaaGreat
open Go Go.RowKit Go.Sort Go.Proofs
section
variable {α : Type} {enc : α → List Value} {k : Nat}
theorem flat_length (hk : ∀ x,(enc x).length = k) : ∀ (xs : List α),(xs.flatMap enc).length = xs.length * k
 | [] => by simp
 | x :: r => by rw [List.flatMap_cons,List.length_append,hk,flat_length hk r,List.length_cons,Nat.add_mul,Nat.one_mul,Nat.add_comm]
theorem sorted_unique {lt : α → α → Bool} : ∀ (S l : List α),l.Perm S → S.Pairwise (fun x y => lt x y = true) → l.Pairwise (fun x y => lt y x = false) → l = S
 | [],l,hp,_,_ => hp.eq_nil
 | s :: S,[],hp,_,_ => by simpa using hp.length_eq
 | s :: S,a :: l,hp,hS,hl => by
  obtain ⟨h1,h2⟩ := List.pairwise_cons.1 hS
  obtain ⟨h3,h4⟩ := List.pairwise_cons.1 hl
  have ha : a = s := by
   rcases List.mem_cons.1 (hp.mem_iff.1 (List.mem_cons_self)) with h | h
   ·exact h
   ·rcases List.mem_cons.1 (hp.mem_iff.2 (List.mem_cons_self (a := s) (l := S))) with h' | h'
    ·exact h'.symm
    ·have := h1 a h
     rw [h3 s h'] at this
     cases this
  subst ha
  rw [sorted_unique S l ((List.perm_cons a).1 hp) h2 h4]
end
section
variable {α : Type} [Inhabited α] {enc : α → List Value} {k : Nat}
theorem flat_get (hk : ∀ x,(enc x).length = k) (hk0 : 0 < k) : ∀ (xs : List α) (t : Nat),t < xs.length * k → (xs.flatMap enc)[t]? = some ((enc (xs[t / k]!))[t % k]!)
 | [],t,h => by simp at h
 | x :: r,t,h => by
  rw [List.flatMap_cons]
  by_cases ht : t < k
  ·rw [List.getElem?_append_left (by rw [hk]; exact ht),Nat.div_eq_of_lt ht,Nat.mod_eq_of_lt ht]
   have : t < (enc x).length := by rw [hk]; exact ht
   simp [this]
  ·rw [List.getElem?_append_right (by rw [hk]; omega),hk]
   have hle : k ≤ t := by omega
   have h1 : t - k < r.length * k := by
    simp only [List.length_cons,Nat.add_mul,Nat.one_mul] at h
    omega
   rw [flat_get hk hk0 r (t - k) h1,Nat.div_eq_sub_div hk0 hle,Nat.mod_eq_sub_mod hle]
   simp
theorem flatK_list (hk : ∀ x,(enc x).length = k) (hk0 : 0 < k) (xs : List α) : (flatK enc k xs.toArray).toList = xs.flatMap enc := by
 apply List.ext_getElem?
 intro t
 by_cases ht : t < xs.length * k
 ·rw [flat_get hk hk0 xs t ht]
  have h1 := get_flatK enc k xs.toArray t (by simpa using ht)
  have hs : t < (flatK enc k xs.toArray).size := by simpa using ht
  rw [Array.getElem?_toList,Array.getElem?_eq_getElem hs]
  rw [getElem!_pos _ t hs] at h1
  rw [h1]
  simp
 ·rw [List.getElem?_eq_none (by simp; omega),List.getElem?_eq_none]
  rw [flat_length hk]
  omega
theorem sortedIn_pairwise {lt : α → α → Bool} {d : Array α} (h : SortedIn lt 0 d.size d) : d.toList.Pairwise (fun x y => lt y x = false) := by
 rw [List.pairwise_iff_getElem]
 intro i j hi hj hij
 have hj' : j < d.size := by simpa using hj
 have := h i j (Nat.zero_le _) hij hj'
 rw [getElem!_pos d i (by omega),getElem!_pos d j hj'] at this
 simpa using this
end
section
variable {P : Program} {ρ : Go.Shelf.Ren} {α : Type} [Inhabited α]
theorem sortRow_any (L : SlLaysF0.n6 P ρ) (k : Nat) (hk0 : 0 < k) (aE : ∀ w,(isAgg (ρ.t 24)).run P w = .ok true w) (zE : ∀ w,(Go.sizeOf (ρ.t 24)).run P w = .ok k w) (enc : α → List Value) (hk : ∀ x,(enc x).length = k) (h1 : ∀ x, ∀ v ∈ enc x,v.oneCell' = true)
  (cf : α → α → Int) (hO : SWO (ltOf cf)) (g : Nat) (eg : ∀ args w,(callFunc g args).run P w = .ok (.enter g args) w) (hcmp : ∀ x y W,Calls P g #[.agg (enc x).toArray, .agg (enc y).toArray] W fun e w' => e = .returned (.int .i64 (cf x y)) ∧ Gr W w')
  (base T : Nat) (v : Value) (xs S : List α) (w : World) (hown : w.ownsRow base T k v xs.length (xs.flatMap enc)) (hp : S.Perm xs) (hS : S.Pairwise (fun x y => ltOf cf x y = true)) (hsz : xs.length < 4611686018427387904) :
  Calls P (ρ.f 6) #[v, .func (.func g) #[] #[]] w fun e w' => e = .returned (.tuple #[]) ∧ w'.ownsRow base T k v xs.length (S.flatMap enc) ∧ w.grownBy w' v.ownBlock := by
 rcases hown.2 with ⟨rfl,h0⟩ | ⟨b,cap,cur,rfl,hb,hg,hn,hcap,hcur,htake⟩
 ·have hx : xs = [] := List.eq_nil_of_length_eq_zero h0
  subst hx
  have hS0 : S = [] := hp.eq_nil
  subst hS0
  exact (AnyF.slices_SortFunc_none L none 0 _ w).mono fun e w' ⟨he,hw⟩ => by
   subst hw
   exact ⟨he,hown,World.grownBy.refl _ _⟩
 ·have hflat : (flatK enc k xs.toArray).toList = cur.toList.take (xs.length * k) := by rw [htake]; exact flatK_list hk hk0 xs
  have hH : HoldsK enc k w b 0 xs.toArray := by
   intro j hj
   have hj' : j < xs.length * k := by simpa using hj
   refine ⟨?_,by simp [World.frozen?,hg]⟩
   have h2 : (cur.toList.take (xs.length * k))[j]? = (flatK enc k xs.toArray).toList[j]? := by rw [hflat]
   rw [List.getElem?_take_of_lt hj',Array.getElem?_toList,Array.getElem?_toList,Array.getElem?_eq_getElem hj] at h2
   simp only [World.cell?,hg,Nat.zero_add,Option.isSome_none,Bool.false_eq_true,if_false]
   rw [h2,getElem!_pos _ j hj]
   rfl
  have hlays : CmpLays P g #[] enc k cf b 0 xs.toArray.size w := fun m os dk _ x y => (hcmp x y _).mono fun _ _ h => h
  have hcon := AnyQ.slices_SortFunc L k aE zE enc hk h1 cf hO g #[] b 0 cap xs.toArray w eg hlays hH (Array.getElem?_eq_some_iff.1 hg).1 (by simpa using hsz)
  have hsize : xs.toArray.size = xs.length := by simp
  rw [hsize] at hcon
  refine hcon.mono fun e w' ⟨he,d',n,os,hperm,hsort,hw⟩ => ⟨he, ?_⟩
  obtain ⟨hs,_,hpl⟩ := hperm
  have hds : d'.size = xs.length := by simpa using hs
  have hdl : d'.toList = S := by
   refine sorted_unique S d'.toList ?_ hS (sortedIn_pairwise (by rw [hds]; exact hsort))
   have e1 : (d'.extract 0 xs.length).toList = d'.toList := by rw [← hds]; simp
   have e2 : (xs.toArray.extract 0 xs.length).toList = xs := by simp
   rw [e1,e2] at hpl
   exact hpl.trans hp.symm
  have hF : (flatK enc k d').toList = S.flatMap enc := by
   have := flatK_list hk hk0 d'.toList
   rw [hdl] at this
   rw [← this]
   congr 2
   rw [← hdl]
  have hbl : b < w.heap.size := (Array.getElem?_eq_some_iff.1 hg).1
  have hheap : w'.heap[b]? = some (.cells (putCells id 0 (flatK enc k d') cur) T (0,0)) := by
   rw [hw]
   unfold sortWorldK putRowK
   rw [heap_grow_old _ _ (by simpa [Sort.ahead] using hbl)]
   simp [putRow,mapBlock,Sort.ahead,Array.getElem?_modify,hg,onCells]
  have hSl : S.length = xs.length := hp.length_eq
  have hfs : (flatK enc k d').size = xs.length * k := by rw [size_flatK,hds]
  refine ⟨⟨by rw [flat_length hk,hSl], .inr ⟨b,cap,_,rfl,hb,hheap,hn,hcap,by simp [putCells,hcur], ?_⟩⟩,⟨by rw [hw]; rfl,by rw [hw]; rfl,by rw [hw]; rfl,by rw [hw]; simp [sortWorldK,putRowK,Sort.ahead],fun i hi hne => ?_⟩⟩
  ·rw [← hF]
   have hle : xs.length * k ≤ cur.size := by rw [hcur]; exact Nat.mul_le_mul_right k hn
   apply List.ext_getElem?
   intro j
   by_cases hj : j < xs.length * k
   ·have hjf : j < (flatK enc k d').size := by omega
    rw [List.getElem?_take_of_lt hj,Array.getElem?_toList,Array.getElem?_toList,Array.getElem?_eq_getElem hjf]
    simp [putCells,hfs,hj,show j < cur.size by omega]
   ·rw [List.getElem?_take_eq_none (by omega),List.getElem?_eq_none (by simp [hds]; omega)]
  ·have hib : i ≠ b := by simpa [Value.ownBlock] using hne
   rw [hw]
   unfold sortWorldK putRowK
   rw [heap_grow_old _ _ (by simpa [Sort.ahead] using hi)]
   simp [putRow,mapBlock,Sort.ahead,Array.getElem?_modify,Ne.symm hib]
end
theorem one_encV (x : Int × Thing) : ∀ v ∈ encV x,v.oneCell' = true := by
 intro v hv
 simp [encV] at hv
 rcases hv with rfl | rfl | rfl <;> rfl
theorem one_encE (x : (Int × Int) × Thing) : ∀ v ∈ encE x,v.oneCell' = true := by
 intro v hv
 simp [encE] at hv
 rcases hv with rfl | rfl | rfl | rfl <;> rfl
def ltV (x y : Int × Thing) : Prop := x.1 < y.1
def ltE (x y : (Int × Int) × Thing) : Prop := x.1.1 < y.1.1 ∨ x.1.1 = y.1.1 ∧ x.1.2 < y.1.2
theorem ltOf_V (x y : Int × Thing) : ltOf (fun x y : Int × Thing => cmpI x.1 y.1) x y = true ↔ ltV x y := by
 unfold ltOf cmpI ltV
 simp only [decide_eq_true_eq]
 split
 ·simp; omega
 ·split <;> simp <;> omega
theorem ltOf_E (x y : (Int × Int) × Thing) : ltOf (fun x y : (Int × Int) × Thing => cmpE x.1 y.1) x y = true ↔ ltE x y := by
 unfold ltOf cmpE orI cmpI ltE
 simp only [decide_eq_true_eq]
 repeat' split
 all_goals (simp; try omega)
theorem swoV : SWO (ltOf fun x y : Int × Thing => cmpI x.1 y.1) where
 irrefl x := by
  rw [Bool.eq_false_iff]
  intro h
  have := (ltOf_V x x).1 h
  unfold ltV at this
  omega
 trans x y z h1 h2 := by
  rw [ltOf_V] at *
  unfold ltV at *
  omega
 ntrans x y z h1 h2 := by
  rw [Bool.eq_false_iff] at *
  simp only [ne_eq,ltOf_V] at *
  unfold ltV at *
  omega
theorem swoE : SWO (ltOf fun x y : (Int × Int) × Thing => cmpE x.1 y.1) where
 irrefl x := by
  rw [Bool.eq_false_iff]
  intro h
  have := (ltOf_E x x).1 h
  unfold ltE at this
  omega
 trans x y z h1 h2 := by
  rw [ltOf_E] at *
  unfold ltE at *
  omega
 ntrans x y z h1 h2 := by
  rw [Bool.eq_false_iff] at *
  simp only [ne_eq,ltOf_E] at *
  unfold ltE at *
  omega
theorem sortV_any (base : Nat) (v : Value) (xs S : List (Int × Thing)) (w : World) (hown : w.ownsRow base 81 3 v xs.length (xs.flatMap encV)) (hp : S.Perm xs) (hS : S.Pairwise ltV) (hsz : xs.length ≤ 4096) :
  Calls Tryz.prog 76 #[v, .func (.func 77) #[] #[]] w fun e w' => e = .returned (.tuple #[]) ∧ w'.ownsRow base 81 3 v xs.length (S.flatMap encV) ∧ w.grownBy w' v.ownBlock := by
 have h := sortRow_any Tryz.sortV 3 (by omega) Tryz.isAgg81 Tryz.sizeOf81 encV (fun _ => rfl) one_encV (fun x y => cmpI x.1 y.1) swoV 77 (Go.Proofs.enters_of Tryz.func77 (by kernel_rfl) rfl) (fun x y W => vert1_any _ _ _ _ _ _ _)
  base 81 v xs S w hown hp (hS.imp fun h => (ltOf_V _ _).2 h) (by omega)
 exact h
theorem sortE_any (base : Nat) (v : Value) (xs S : List ((Int × Int) × Thing)) (w : World) (hown : w.ownsRow base 84 4 v xs.length (xs.flatMap encE)) (hp : S.Perm xs) (hS : S.Pairwise ltE) (hsz : xs.length ≤ 4096) :
  Calls Tryz.prog 80 #[v, .func (.func 81) #[] #[]] w fun e w' => e = .returned (.tuple #[]) ∧ w'.ownsRow base 84 4 v xs.length (S.flatMap encE) ∧ w.grownBy w' v.ownBlock := by
 have h := sortRow_any Tryz.sortE 4 (by omega) Tryz.isAgg84 Tryz.sizeOf84 encE (fun _ => rfl) one_encE (fun x y => cmpE x.1 y.1) swoE 81 (Go.Proofs.enters_of Tryz.func81 (by kernel_rfl) rfl) (fun x y W => edge1_any _ _ _ _ _ _ _ _ _)
  base 84 v xs S w hown hp (hS.imp fun h => (ltOf_E _ _).2 h) (by omega)
 exact h
end Go.Proofs.YtbpeemhfjgcnaaaGreat
namespace Go.Proofs.YtbpeemhfjgcnaaaGreat
open Go Go.RowKit
theorem own_keep {w w' : World} {base T k n : Nat} {v : Value} {xs : List Value} {S : List Nat} (h : w.ownsRow base T k v n xs) (hk : Keep S w w') (hS : ∀ g ∈ S,v.ownBlock ≠ some g) : w'.ownsRow base T k v n xs := by
 refine ⟨h.1, ?_⟩
 rcases h.2 with h0 | ⟨g,cap,cur,rfl,hb,hg,hr⟩
 ·exact .inl h0
 ·exact .inr ⟨g,cap,cur,rfl,hb,(hk.block g (Array.getElem?_eq_some_iff.1 hg).1 (fun hm => hS g hm rfl)).trans hg,hr⟩
theorem own_ext {w w' : World} {base T k n : Nat} {v : Value} {xs : List Value} (h : w.ownsRow base T k v n xs) (hk : Ext w w') : w'.ownsRow base T k v n xs :=
 own_keep h (hk.keep []) (by simp)
theorem own_base {w : World} {base T k n : Nat} {v : Value} {xs : List Value} (h : w.ownsRow base T k v n xs) {g : Nat} (hg : v.ownBlock = some g) : base ≤ g ∧ g < w.heap.size ∧ ∃ cur,w.heap[g]? = some (.cells cur T (0,0)) := by
 rcases h.2 with ⟨rfl,_⟩ | ⟨g',cap,cur,rfl,hb,hc,_⟩
 ·cases hg
 ·cases hg
  exact ⟨hb,(Array.getElem?_eq_some_iff.1 hc).1,cur,hc⟩
theorem Ext.grown {w wr w' : World} {v : Value} {B T k n : Nat} {xs : List Value} (h : Ext w wr) (hg : wr.grownBy w' v.ownBlock) (hB : w.heap.size ≤ B) (ho : wr.ownsRow B T k v n xs) : Ext w w' :=
 h.of_new (S' := v.ownBlock.toList) ⟨hg.os,hg.tape,hg.output,hg.size,fun i hi hne => hg.block i hi (by
  intro e
  rw [← e] at hne
  simp at hne)⟩ (by
  intro x hx
  have : v.ownBlock = some x := by simpa using hx
  exact Nat.le_trans hB (own_base ho this).1)
theorem iter_not_own {κ τ : Type} {ek : κ → Value} {ev : τ → Value} {ok : κ → Prop} {w : World} {r b base T k n : Nat} {m l : List (κ × τ)} {v : Value} {xs : List Value} (hit : IterIs ek ev ok w r b m l) (h : w.ownsRow base T k v n xs) : v.ownBlock ≠ some r := by
 intro e
 obtain ⟨_,_,cur,hc⟩ := own_base h e
 obtain ⟨es,clock,since,seen,c0,_,_,_,_,h1,_⟩ := hit
 rw [hc] at h1
 cases h1
theorem gath_step {κ τ : Type} {ek : κ → Value} {ev : τ → Value} {ok : κ → Prop} {enc : κ × τ → List Value} {w wr w2 w3 w' : World} {r b B T k : Nat} {v v' : Value} {M done l1 l2 : List (κ × τ)} {p : κ × τ}
  (hp : M.Perm (done ++ (l1 ++ p :: l2))) (hit : IterIs ek ev ok wr r b M (l1 ++ p :: l2)) (hit2 : IterIs ek ev ok w2 r b M (l1 ++ l2)) (hk2 : Keep [r] wr w2) (hx2 : Ext w2 w3) (hxw : Ext w wr) (hr : w.heap.size ≤ r) (hb : b < w.heap.size) (hB : w.heap.size ≤ B)
  (hown : wr.ownsRow B T k v done.length (done.flatMap enc)) (hown' : w'.ownsRow B T k v' (done.length + 1) (done.flatMap enc ++ enc p)) (hg : w3.grownBy w' v.ownBlock) :
  M.Perm ((done ++ [p]) ++ (l1 ++ l2)) ∧ IterIs ek ev ok w' r b M (l1 ++ l2) ∧ w'.ownsRow B T k v' (done ++ [p]).length ((done ++ [p]).flatMap enc) ∧ Ext w w' := by
 have hno := iter_not_own hit hown
 have hown2 := own_keep hown hk2 (by simpa using hno)
 have hown3 := own_ext hown2 hx2
 have hx3 : Ext w w3 := (hxw.of_new hk2 (by simpa using hr)).trans hx2
 refine ⟨?_, ?_, ?_,hx3.grown hg hB hown3⟩
 ·refine hp.trans ?_
  rw [List.append_assoc]
  exact (List.perm_middle).append_left done
 ·have hit3 := hit2.ext hx2
  refine hit3.of_blocks (hg.block r hit3.lt (fun e => hno e.symm)) (hg.block b hit3.map.lt (fun e => ?_))
  have := (own_base hown3 e.symm).1
  omega
 ·simpa using hown'
theorem infoV : (Tryz.prog.info? 81).map (fun i => (i.zero.map (·.cells.size),i.size,i.bytes)) = some (some 3,3,24) := by kernel_rfl
set_option maxRecDepth 100000 in
set_option maxHeartbeats 4000000 in
theorem vertices_any (g bv be : Nat) (V : List (Int × Thing)) (E : List ((Int × Int) × Thing)) (S : List (Int × Thing)) (w : World) (hg : GraphAt w g bv be V E) (hp : S.Perm V) (hS : S.Pairwise ltV) (hl : V.length ≤ 4096) :
  Calls Tryz.prog 41 #[.pointer (some ⟨g,0,none⟩)] w fun e w' => ∃ v,e = .returned v ∧ w'.ownsRow w.heap.size 81 3 v S.length (S.flatMap encV) ∧ Ext w w' := by
 have hi0 := infoV
 obtain ⟨i0,hi,hi1⟩ := Option.map_eq_some_iff.1 hi0
 simp only [Prod.mk.injEq] at hi1
 obtain ⟨hz1,hz2,hz3⟩ := hi1
 obtain ⟨z0,hz,hz4⟩ := Option.map_eq_some_iff.1 hz1
 clear hi0 hz1
 obtain ⟨w1,hrun,hit,hx1,hs1⟩ := hg.vs.range Tryz.underlying108
 have d0 := hg.ptr0
 have hbl := hg.vs.lt
 have hit' := hide hit
 have hs1' := hide hs1
 clear hg hit hs1
 go_enter Tryz.func41,Tryz.ntmps41
 go_wp2
 clear hrun
 try go_frame
 generalize hr : w.heap.size = r at *
 have hr' := hide hr
 clear hr
 go_loopw [3] (fun l wr => ∃ done left : List (Int × Thing),V.Perm (done ++ left) ∧ IterIs ekV evT i64ok wr r bv V left ∧ wr.ownsRow r 81 3 l done.length (done.flatMap encV) ∧ Ext w wr) (fun _ wr => wr.rangeLeft bv r)
 case atStart => exact ⟨[],V,List.Perm.refl _,unhide hit',World.ownsRow_nil _ _ _ _,hx1⟩
 case round =>
  obtain ⟨done,left,hpd,hit,hown,hxr⟩ := hrel
  have hlt := hit.left_eq
  rcases hit.next (P := Tryz.prog) 0 with ⟨hl0,hrun⟩ | ⟨p,l1,l2,w2,hl0,hrun,hit2,hk2,hs2,hen⟩
  ·have hrun : ∀ ty,(Instr.next (.pointer (some ⟨r,0,none⟩)) false ty).run Tryz.prog wr = .ok (.tuple #[.bool false]) wr := fun _ => hrun
   subst hl0
   rw [List.append_nil] at hpd
   have hlen : done.length = S.length := (hp.trans hpd).length_eq.symm
   have hown' := hide hown
   have hpd' := hide hpd
   clear hit hlt hown hpd
   go_wp2_with (go_at_call 76; refine (sortV_any r _ done S wr (unhide hown') (hp.trans (unhide hpd')) hS (by have := (unhide hpd').length_eq; omega)).mono ?_; rintro e w4 ⟨rfl,ho4,hg4⟩)
   go_ret
   exact ⟨_,rfl,by rw [← hlen,unhide hr']; exact ho4,hxr.grown hg4 (by rw [unhide hr']; exact Nat.le_refl _) (unhide hown')⟩
  ·have hrun : ∀ ty,(Instr.next (.pointer (some ⟨r,0,none⟩)) false ty).run Tryz.prog wr = .ok (.tuple #[.bool true,ekV p.1,evT p.2]) w2 := fun _ => hrun
   subst hl0
   have hown2 := own_keep hown hk2 (by simpa using iter_not_own hit hown)
   have hsl := hpd.length_eq
   simp only [List.length_append,List.length_cons] at hsl
   have hlt2 := hit2.left_eq
   have G := fun w3 w' v' (hx2 : Ext w2 w3) h1 h2 => gath_step (enc := encV) (w3 := w3) (w' := w') (v' := v') hpd hit hit2 hk2 hx2 hxr (by rw [unhide hr']; exact Nat.le_refl _) (by rw [unhide hr']; exact hbl) (by rw [unhide hr']; exact Nat.le_refl _) hown h1 h2
   have hxs' := hide (show r ≤ w2.heap.size by have := hxr.size; have := unhide hr'; omega)
   have hown2' := hide hown2
   have G' := hide G
   have hlt' := hide hlt
   have hsl' := hide hsl
   clear hit hlt hpd hown hown2 G hlt2 hs2 hsl
   obtain ⟨a,⟨lab0,wt0⟩⟩ := p
   simp only [ekV,evT] at hrun hen
   go_wp2_with (at_builtin; refine wpList_append_own_at _ rfl _ _ 82 rfl r 81 i0 z0 3 24 Tryz.underlying82 hi hz hz2 hz3 hz4 (by decide) _ _ _ rfl (own_ext (unhide hown2') (((Ext.refl w2).alloc _).alloc _)) ⟨w2.heap.size + 1,0,none⟩ 1 1 (encV (a,(lab0,wt0))) rfl rfl ?c1 ?c2 ?c3 ?c4 ?c5 ?_)
   case c1 =>
    intro j u hj
    match j,hj with
    | 0,hj => simp [encV] at hj; subst hj; simp
    | 1,hj => simp [encV] at hj; subst hj; simp
    | 2,hj => simp [encV] at hj; subst hj; simp
   case c2 => exact one_encV _
   case c3 => have := unhide hsl'; unfold maxLen; omega
   case c4 => have := unhide hsl'; omega
   case c5 => have := unhide hxs'; simp; omega
   intro v' w4 hown4 hgr4 _ _
   obtain ⟨g1,g2,g3,g4⟩ := unhide G' _ _ _ ((((Ext.refl w2).alloc _).alloc _)) hown4 hgr4
   have hm := g2.left_eq
   clear hown4 hgr4
   go_wp2
   go_roundw
   case rel => exact ⟨_,_,g1,g2,g3,g4⟩
   case measure =>
    rw [hm,unhide hlt']
    simp
theorem infoE : (Tryz.prog.info? 84).map (fun i => (i.zero.map (·.cells.size),i.size,i.bytes)) = some (some 4,4,32) := by kernel_rfl
set_option maxRecDepth 100000 in
set_option maxHeartbeats 4000000 in
theorem edges_any (g bv be : Nat) (V : List (Int × Thing)) (E : List ((Int × Int) × Thing)) (S : List ((Int × Int) × Thing)) (w : World) (hg : GraphAt w g bv be V E) (hp : S.Perm E) (hS : S.Pairwise ltE) (hl : E.length ≤ 4096) :
  Calls Tryz.prog 51 #[.pointer (some ⟨g,0,none⟩)] w fun e w' => ∃ v,e = .returned v ∧ w'.ownsRow w.heap.size 84 4 v S.length (S.flatMap encE) ∧ Ext w w' := by
 have hi0 := infoE
 obtain ⟨i0,hi,hi1⟩ := Option.map_eq_some_iff.1 hi0
 simp only [Prod.mk.injEq] at hi1
 obtain ⟨hz1,hz2,hz3⟩ := hi1
 obtain ⟨z0,hz,hz4⟩ := Option.map_eq_some_iff.1 hz1
 clear hi0 hz1
 obtain ⟨w1,hrun,hit,hx1,hs1⟩ := hg.es.range Tryz.underlying111
 have d0 := hg.ptr1
 have hbl := hg.es.lt
 have hit' := hide hit
 have hs1' := hide hs1
 clear hg hit hs1
 go_enter Tryz.func51,Tryz.ntmps51
 go_wp2
 clear hrun
 try go_frame
 generalize hr : w.heap.size = r at *
 have hr' := hide hr
 clear hr
 go_loopw [3] (fun l wr => ∃ done left : List ((Int × Int) × Thing),E.Perm (done ++ left) ∧ IterIs ekE evT okE wr r be E left ∧ wr.ownsRow r 84 4 l done.length (done.flatMap encE) ∧ Ext w wr) (fun _ wr => wr.rangeLeft be r)
 case atStart => exact ⟨[],E,List.Perm.refl _,unhide hit',World.ownsRow_nil _ _ _ _,hx1⟩
 case round =>
  obtain ⟨done,left,hpd,hit,hown,hxr⟩ := hrel
  have hlt := hit.left_eq
  rcases hit.next (P := Tryz.prog) 0 with ⟨hl0,hrun⟩ | ⟨p,l1,l2,w2,hl0,hrun,hit2,hk2,hs2,hen⟩
  ·have hrun : ∀ ty,(Instr.next (.pointer (some ⟨r,0,none⟩)) false ty).run Tryz.prog wr = .ok (.tuple #[.bool false]) wr := fun _ => hrun
   subst hl0
   rw [List.append_nil] at hpd
   have hlen : done.length = S.length := (hp.trans hpd).length_eq.symm
   have hown' := hide hown
   have hpd' := hide hpd
   clear hit hlt hown hpd
   go_wp2_with (go_at_call 80; refine (sortE_any r _ done S wr (unhide hown') (hp.trans (unhide hpd')) hS (by have := (unhide hpd').length_eq; omega)).mono ?_; rintro e w4 ⟨rfl,ho4,hg4⟩)
   go_ret
   exact ⟨_,rfl,by rw [← hlen,unhide hr']; exact ho4,hxr.grown hg4 (by rw [unhide hr']; exact Nat.le_refl _) (unhide hown')⟩
  ·have hrun : ∀ ty,(Instr.next (.pointer (some ⟨r,0,none⟩)) false ty).run Tryz.prog wr = .ok (.tuple #[.bool true,ekE p.1,evT p.2]) w2 := fun _ => hrun
   subst hl0
   have hown2 := own_keep hown hk2 (by simpa using iter_not_own hit hown)
   have hsl := hpd.length_eq
   simp only [List.length_append,List.length_cons] at hsl
   have hlt2 := hit2.left_eq
   have G := fun w3 w' v' (hx2 : Ext w2 w3) h1 h2 => gath_step (enc := encE) (w3 := w3) (w' := w') (v' := v') hpd hit hit2 hk2 hx2 hxr (by rw [unhide hr']; exact Nat.le_refl _) (by rw [unhide hr']; exact hbl) (by rw [unhide hr']; exact Nat.le_refl _) hown h1 h2
   have hxs' := hide (show r ≤ w2.heap.size by have := hxr.size; have := unhide hr'; omega)
   have hown2' := hide hown2
   have G' := hide G
   have hlt' := hide hlt
   have hsl' := hide hsl
   clear hit hlt hpd hown hown2 G hlt2 hs2 hsl
   obtain ⟨⟨a,b⟩,⟨lab0,wt0⟩⟩ := p
   simp only [ekE,evT] at hrun hen
   go_wp2_with (at_builtin; refine wpList_append_own_at _ rfl _ _ 85 rfl r 84 i0 z0 4 32 Tryz.underlying85 hi hz hz2 hz3 hz4 (by decide) _ _ _ rfl (own_ext (unhide hown2') ((((Ext.refl w2).alloc _).alloc _).alloc _)) ⟨w2.heap.size + 2,0,none⟩ 1 1 (encE ((a,b),(lab0,wt0))) rfl rfl ?c1 ?c2 ?c3 ?c4 ?c5 ?_)
   case c1 =>
    intro j u hj
    match j,hj with
    | 0,hj => simp [encE] at hj; subst hj; simp
    | 1,hj => simp [encE] at hj; subst hj; simp
    | 2,hj => simp [encE] at hj; subst hj; simp
    | 3,hj => simp [encE] at hj; subst hj; simp
   case c2 => exact one_encE _
   case c3 => have := unhide hsl'; unfold maxLen; omega
   case c4 => have := unhide hsl'; omega
   case c5 => have := unhide hxs'; simp; omega
   intro v' w4 hown4 hgr4 _ _
   obtain ⟨g1,g2,g3,g4⟩ := unhide G' _ _ _ (((((Ext.refl w2).alloc _).alloc _).alloc _)) hown4 hgr4
   have hm := g2.left_eq
   clear hown4 hgr4
   go_wp2
   go_roundw
   case rel => exact ⟨_,_,g1,g2,g3,g4⟩
   case measure =>
    rw [hm,unhide hlt']
    simp
end Go.Proofs.YtbpeemhfjgcnaaaGreat
