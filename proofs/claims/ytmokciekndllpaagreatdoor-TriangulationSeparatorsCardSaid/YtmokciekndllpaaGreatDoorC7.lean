/- Parts of a proof, laid together. Each part says its own conditions. -/
import Derived.Test.YtmokciekndllpaaGreatDoorC5
import Derived.Test.YtmokciekndllpaaGreatDoorC6
import Derived.Sort.OwnSorted
import Derived.Shelf.SlSortCmp.NoneTotal
import Derived.Maps.AppendAt
namespace Go.Proofs.YtmokciekndllpaaGreatDoor
open Go Go.RowKit Go.Sort Go.Proofs
section
variable {α : Type} {enc : α → List Value} {k : Nat}
theorem flat_length (hk : ∀ x,(enc x).length = k) : ∀ (xs : List α),(xs.flatMap enc).length = xs.length * k
 | [] => by simp
 | x :: r => by rw [List.flatMap_cons,List.length_append,hk,flat_length hk r,List.length_cons,Nat.add_mul,Nat.one_mul,Nat.add_comm]
theorem sorted_unique {lt : α → α → Bool} : ∀ (S l : List α),l.Perm S → S.Pairwise (fun x y => lt x y = true) → l.Pairwise (fun x y => lt y x = false) → l = S
 | [],l,hp,_,_ => hp.eq_nil
 | s :: S,[],hp,_,_ => by simpa using hp.length_eq
 | s :: S,a :: l,hp,hS,hl => by
  obtain ⟨h1,h2⟩ := List.pairwise_cons.1 hS
  obtain ⟨h3,h4⟩ := List.pairwise_cons.1 hl
  have ha : a = s := by
   rcases List.mem_cons.1 (hp.mem_iff.1 (List.mem_cons_self)) with h | h
   ·exact h
   ·rcases List.mem_cons.1 (hp.mem_iff.2 (List.mem_cons_self (a := s) (l := S))) with h' | h'
    ·exact h'.symm
    ·have := h1 a h
     rw [h3 s h'] at this
     cases this
  subst ha
  rw [sorted_unique S l ((List.perm_cons a).1 hp) h2 h4]
end
section
variable {α : Type} [Inhabited α] {enc : α → List Value} {k : Nat}
theorem flat_get (hk : ∀ x,(enc x).length = k) (hk0 : 0 < k) : ∀ (xs : List α) (t : Nat),t < xs.length * k → (xs.flatMap enc)[t]? = some ((enc (xs[t / k]!))[t % k]!)
 | [],t,h => by simp at h
 | x :: r,t,h => by
  rw [List.flatMap_cons]
  by_cases ht : t < k
  ·rw [List.getElem?_append_left (by rw [hk]; exact ht),Nat.div_eq_of_lt ht,Nat.mod_eq_of_lt ht]
   have : t < (enc x).length := by rw [hk]; exact ht
   simp [this]
  ·rw [List.getElem?_append_right (by rw [hk]; omega),hk]
   have hle : k ≤ t := by omega
   have h1 : t - k < r.length * k := by
    simp only [List.length_cons,Nat.add_mul,Nat.one_mul] at h
    omega
   rw [flat_get hk hk0 r (t - k) h1,Nat.div_eq_sub_div hk0 hle,Nat.mod_eq_sub_mod hle]
   simp
theorem flatK_list (hk : ∀ x,(enc x).length = k) (hk0 : 0 < k) (xs : List α) : (flatK enc k xs.toArray).toList = xs.flatMap enc := by
 apply List.ext_getElem?
 intro t
 by_cases ht : t < xs.length * k
 ·rw [flat_get hk hk0 xs t ht]
  have h1 := get_flatK enc k xs.toArray t (by simpa using ht)
  have hs : t < (flatK enc k xs.toArray).size := by simpa using ht
  rw [Array.getElem?_toList,Array.getElem?_eq_getElem hs]
  rw [getElem!_pos _ t hs] at h1
  rw [h1]
  simp
 ·rw [List.getElem?_eq_none (by simp; omega),List.getElem?_eq_none]
  rw [flat_length hk]
  omega
theorem sortedIn_pairwise {lt : α → α → Bool} {d : Array α} (h : SortedIn lt 0 d.size d) : d.toList.Pairwise (fun x y => lt y x = false) := by
 rw [List.pairwise_iff_getElem]
 intro i j hi hj hij
 have hj' : j < d.size := by simpa using hj
 have := h i j (Nat.zero_le _) hij hj'
 rw [getElem!_pos d i (by omega),getElem!_pos d j hj'] at this
 simpa using this
end
section
variable {P : Program} {ρ : Go.Shelf.Ren} {α : Type} [Inhabited α]
theorem sortRow_any (L : SlLaysF0.n6 P ρ) (k : Nat) (hk0 : 0 < k) (aE : ∀ w,(isAgg (ρ.t 24)).run P w = .ok true w) (zE : ∀ w,(Go.sizeOf (ρ.t 24)).run P w = .ok k w) (enc : α → List Value) (hk : ∀ x,(enc x).length = k) (h1 : ∀ x, ∀ v ∈ enc x,v.oneCell' = true)
  (cf : α → α → Int) (hO : SWO (ltOf cf)) (g : Nat) (eg : ∀ args w,(callFunc g args).run P w = .ok (.enter g args) w) (hcmp : ∀ x y W,Calls P g #[.agg (enc x).toArray, .agg (enc y).toArray] W fun e w' => e = .returned (.int .i64 (cf x y)) ∧ Gr W w')
  (base T : Nat) (v : Value) (xs S : List α) (w : World) (hown : w.ownsRow base T k v xs.length (xs.flatMap enc)) (hp : S.Perm xs) (hS : S.Pairwise (fun x y => ltOf cf x y = true)) (hsz : xs.length < 4611686018427387904) :
  Calls P (ρ.f 6) #[v, .func (.func g) #[] #[]] w fun e w' => e = .returned (.tuple #[]) ∧ w'.ownsRow base T k v xs.length (S.flatMap enc) ∧ w.grownBy w' v.ownBlock := by
 rcases hown.2 with ⟨rfl,h0⟩ | ⟨b,cap,cur,rfl,hb,hg,hn,hcap,hcur,htake⟩
 ·have hx : xs = [] := List.eq_nil_of_length_eq_zero h0
  subst hx
  have hS0 : S = [] := hp.eq_nil
  subst hS0
  exact (AnyF.slices_SortFunc_none L none 0 _ w).mono fun e w' ⟨he,hw⟩ => by
   subst hw
   exact ⟨he,hown,World.grownBy.refl _ _⟩
 ·have hflat : (flatK enc k xs.toArray).toList = cur.toList.take (xs.length * k) := by rw [htake]; exact flatK_list hk hk0 xs
  have hH : HoldsK enc k w b 0 xs.toArray := by
   intro j hj
   have hj' : j < xs.length * k := by simpa using hj
   refine ⟨?_,by simp [World.frozen?,hg]⟩
   have h2 : (cur.toList.take (xs.length * k))[j]? = (flatK enc k xs.toArray).toList[j]? := by rw [hflat]
   rw [List.getElem?_take_of_lt hj',Array.getElem?_toList,Array.getElem?_toList,Array.getElem?_eq_getElem hj] at h2
   simp only [World.cell?,hg,Nat.zero_add,Option.isSome_none,Bool.false_eq_true,if_false]
   rw [h2,getElem!_pos _ j hj]
   rfl
  have hlays : CmpLays P g #[] enc k cf b 0 xs.toArray.size w := fun m os dk _ x y => (hcmp x y _).mono fun _ _ h => h
  have hcon := AnyQ.slices_SortFunc L k aE zE enc hk h1 cf hO g #[] b 0 cap xs.toArray w eg hlays hH (Array.getElem?_eq_some_iff.1 hg).1 (by simpa using hsz)
  have hsize : xs.toArray.size = xs.length := by simp
  rw [hsize] at hcon
  refine hcon.mono fun e w' ⟨he,d',n,os,hperm,hsort,hw⟩ => ⟨he, ?_⟩
  obtain ⟨hs,_,hpl⟩ := hperm
  have hds : d'.size = xs.length := by simpa using hs
  have hdl : d'.toList = S := by
   refine sorted_unique S d'.toList ?_ hS (sortedIn_pairwise (by rw [hds]; exact hsort))
   have e1 : (d'.extract 0 xs.length).toList = d'.toList := by rw [← hds]; simp
   have e2 : (xs.toArray.extract 0 xs.length).toList = xs := by simp
   rw [e1,e2] at hpl
   exact hpl.trans hp.symm
  have hF : (flatK enc k d').toList = S.flatMap enc := by
   have := flatK_list hk hk0 d'.toList
   rw [hdl] at this
   rw [← this]
   congr 2
   rw [← hdl]
  have hbl : b < w.heap.size := (Array.getElem?_eq_some_iff.1 hg).1
  have hheap : w'.heap[b]? = some (.cells (putCells id 0 (flatK enc k d') cur) T (0,0)) := by
   rw [hw]
   unfold sortWorldK putRowK
   rw [heap_grow_old _ _ (by simpa [Sort.ahead] using hbl)]
   simp [putRow,mapBlock,Sort.ahead,Array.getElem?_modify,hg,onCells]
  have hSl : S.length = xs.length := hp.length_eq
  have hfs : (flatK enc k d').size = xs.length * k := by rw [size_flatK,hds]
  refine ⟨⟨by rw [flat_length hk,hSl], .inr ⟨b,cap,_,rfl,hb,hheap,hn,hcap,by simp [putCells,hcur], ?_⟩⟩,⟨by rw [hw]; rfl,by rw [hw]; rfl,by rw [hw]; rfl,by rw [hw]; simp [sortWorldK,putRowK,Sort.ahead],fun i hi hne => ?_⟩⟩
  ·rw [← hF]
   have hle : xs.length * k ≤ cur.size := by rw [hcur]; exact Nat.mul_le_mul_right k hn
   apply List.ext_getElem?
   intro j
   by_cases hj : j < xs.length * k
   ·have hjf : j < (flatK enc k d').size := by omega
    rw [List.getElem?_take_of_lt hj,Array.getElem?_toList,Array.getElem?_toList,Array.getElem?_eq_getElem hjf]
    simp [putCells,hfs,hj,show j < cur.size by omega]
   ·rw [List.getElem?_take_eq_none (by omega),List.getElem?_eq_none (by simp [hds]; omega)]
  ·have hib : i ≠ b := by simpa [Value.ownBlock] using hne
   rw [hw]
   unfold sortWorldK putRowK
   rw [heap_grow_old _ _ (by simpa [Sort.ahead] using hi)]
   simp [putRow,mapBlock,Sort.ahead,Array.getElem?_modify,Ne.symm hib]
end
theorem one_encV (x : Int × Thing) : ∀ v ∈ encV x,v.oneCell' = true := by
 intro v hv
 simp [encV] at hv
 rcases hv with rfl | rfl | rfl <;> rfl
theorem one_encE (x : (Int × Int) × Thing) : ∀ v ∈ encE x,v.oneCell' = true := by
 intro v hv
 simp [encE] at hv
 rcases hv with rfl | rfl | rfl | rfl <;> rfl
def ltV (x y : Int × Thing) : Prop := x.1 < y.1
def ltE (x y : (Int × Int) × Thing) : Prop := x.1.1 < y.1.1 ∨ x.1.1 = y.1.1 ∧ x.1.2 < y.1.2
theorem ltOf_V (x y : Int × Thing) : ltOf (fun x y : Int × Thing => cmpI x.1 y.1) x y = true ↔ ltV x y := by
 unfold ltOf cmpI ltV
 simp only [decide_eq_true_eq]
 split
 ·simp; omega
 ·split <;> simp <;> omega
theorem ltOf_E (x y : (Int × Int) × Thing) : ltOf (fun x y : (Int × Int) × Thing => cmpE x.1 y.1) x y = true ↔ ltE x y := by
 unfold ltOf cmpE orI cmpI ltE
 simp only [decide_eq_true_eq]
 repeat' split
 all_goals (simp; try omega)
theorem swoV : SWO (ltOf fun x y : Int × Thing => cmpI x.1 y.1) where
 irrefl x := by
  rw [Bool.eq_false_iff]
  intro h
  have := (ltOf_V x x).1 h
  unfold ltV at this
  omega
 trans x y z h1 h2 := by
  rw [ltOf_V] at *
  unfold ltV at *
  omega
 ntrans x y z h1 h2 := by
  rw [Bool.eq_false_iff] at *
  simp only [ne_eq,ltOf_V] at *
  unfold ltV at *
  omega
theorem swoE : SWO (ltOf fun x y : (Int × Int) × Thing => cmpE x.1 y.1) where
 irrefl x := by
  rw [Bool.eq_false_iff]
  intro h
  have := (ltOf_E x x).1 h
  unfold ltE at this
  omega
 trans x y z h1 h2 := by
  rw [ltOf_E] at *
  unfold ltE at *
  omega
 ntrans x y z h1 h2 := by
  rw [Bool.eq_false_iff] at *
  simp only [ne_eq,ltOf_E] at *
  unfold ltE at *
  omega
theorem sortV_any (base : Nat) (v : Value) (xs S : List (Int × Thing)) (w : World) (hown : w.ownsRow base 93 3 v xs.length (xs.flatMap encV)) (hp : S.Perm xs) (hS : S.Pairwise ltV) (hsz : xs.length ≤ 4096) :
  Calls Tryz.prog 150 #[v, .func (.func 151) #[] #[]] w fun e w' => e = .returned (.tuple #[]) ∧ w'.ownsRow base 93 3 v xs.length (S.flatMap encV) ∧ w.grownBy w' v.ownBlock := by
 have h := sortRow_any Tryz.sortV 3 (by omega) Tryz.isAgg93 Tryz.sizeOf93 encV (fun _ => rfl) one_encV (fun x y => cmpI x.1 y.1) swoV 151 (Go.Proofs.enters_of Tryz.func151 (by kernel_rfl) rfl) (fun x y W => vert1_any _ _ _ _ _ _ _)
  base 93 v xs S w hown hp (hS.imp fun h => (ltOf_V _ _).2 h) (by omega)
 exact h
theorem sortE_any (base : Nat) (v : Value) (xs S : List ((Int × Int) × Thing)) (w : World) (hown : w.ownsRow base 61 4 v xs.length (xs.flatMap encE)) (hp : S.Perm xs) (hS : S.Pairwise ltE) (hsz : xs.length ≤ 4096) :
  Calls Tryz.prog 78 #[v, .func (.func 152) #[] #[]] w fun e w' => e = .returned (.tuple #[]) ∧ w'.ownsRow base 61 4 v xs.length (S.flatMap encE) ∧ w.grownBy w' v.ownBlock := by
 have h := sortRow_any Tryz.sortE 4 (by omega) Tryz.isAgg61 Tryz.sizeOf61 encE (fun _ => rfl) one_encE (fun x y => cmpE x.1 y.1) swoE 152 (Go.Proofs.enters_of Tryz.func152 (by kernel_rfl) rfl) (fun x y W => edge1_any _ _ _ _ _ _ _ _ _)
  base 61 v xs S w hown hp (hS.imp fun h => (ltOf_E _ _).2 h) (by omega)
 exact h
end Go.Proofs.YtmokciekndllpaaGreatDoor
namespace Go.Proofs.YtmokciekndllpaaGreatDoor
open Go Go.RowKit
theorem own_keep {w w' : World} {base T k n : Nat} {v : Value} {xs : List Value} {S : List Nat} (h : w.ownsRow base T k v n xs) (hk : Keep S w w') (hS : ∀ g ∈ S,v.ownBlock ≠ some g) : w'.ownsRow base T k v n xs := by
 refine ⟨h.1, ?_⟩
 rcases h.2 with h0 | ⟨g,cap,cur,rfl,hb,hg,hr⟩
 ·exact .inl h0
 ·exact .inr ⟨g,cap,cur,rfl,hb,(hk.block g (Array.getElem?_eq_some_iff.1 hg).1 (fun hm => hS g hm rfl)).trans hg,hr⟩
theorem own_ext {w w' : World} {base T k n : Nat} {v : Value} {xs : List Value} (h : w.ownsRow base T k v n xs) (hk : Ext w w') : w'.ownsRow base T k v n xs :=
 own_keep h (hk.keep []) (by simp)
theorem own_base {w : World} {base T k n : Nat} {v : Value} {xs : List Value} (h : w.ownsRow base T k v n xs) {g : Nat} (hg : v.ownBlock = some g) : base ≤ g ∧ g < w.heap.size ∧ ∃ cur,w.heap[g]? = some (.cells cur T (0,0)) := by
 rcases h.2 with ⟨rfl,_⟩ | ⟨g',cap,cur,rfl,hb,hc,_⟩
 ·cases hg
 ·cases hg
  exact ⟨hb,(Array.getElem?_eq_some_iff.1 hc).1,cur,hc⟩
theorem Ext.grown {w wr w' : World} {v : Value} {B T k n : Nat} {xs : List Value} (h : Ext w wr) (hg : wr.grownBy w' v.ownBlock) (hB : w.heap.size ≤ B) (ho : wr.ownsRow B T k v n xs) : Ext w w' :=
 h.of_new (S' := v.ownBlock.toList) ⟨hg.os,hg.tape,hg.output,hg.size,fun i hi hne => hg.block i hi (by
  intro e
  rw [← e] at hne
  simp at hne)⟩ (by
  intro x hx
  have : v.ownBlock = some x := by simpa using hx
  exact Nat.le_trans hB (own_base ho this).1)
theorem iter_not_own {κ τ : Type} {ek : κ → Value} {ev : τ → Value} {ok : κ → Prop} {w : World} {r b base T k n : Nat} {m l : List (κ × τ)} {v : Value} {xs : List Value} (hit : IterIs ek ev ok w r b m l) (h : w.ownsRow base T k v n xs) : v.ownBlock ≠ some r := by
 intro e
 obtain ⟨_,_,cur,hc⟩ := own_base h e
 obtain ⟨es,clock,since,seen,c0,_,_,_,_,h1,_⟩ := hit
 rw [hc] at h1
 cases h1
theorem gath_step {κ τ : Type} {ek : κ → Value} {ev : τ → Value} {ok : κ → Prop} {enc : κ × τ → List Value} {w wr w2 w3 w' : World} {r b B T k : Nat} {v v' : Value} {M done l1 l2 : List (κ × τ)} {p : κ × τ}
  (hp : M.Perm (done ++ (l1 ++ p :: l2))) (hit : IterIs ek ev ok wr r b M (l1 ++ p :: l2)) (hit2 : IterIs ek ev ok w2 r b M (l1 ++ l2)) (hk2 : Keep [r] wr w2) (hx2 : Ext w2 w3) (hxw : Ext w wr) (hr : w.heap.size ≤ r) (hb : b < w.heap.size) (hB : w.heap.size ≤ B)
  (hown : wr.ownsRow B T k v done.length (done.flatMap enc)) (hown' : w'.ownsRow B T k v' (done.length + 1) (done.flatMap enc ++ enc p)) (hg : w3.grownBy w' v.ownBlock) :
  M.Perm ((done ++ [p]) ++ (l1 ++ l2)) ∧ IterIs ek ev ok w' r b M (l1 ++ l2) ∧ w'.ownsRow B T k v' (done ++ [p]).length ((done ++ [p]).flatMap enc) ∧ Ext w w' := by
 have hno := iter_not_own hit hown
 have hown2 := own_keep hown hk2 (by simpa using hno)
 have hown3 := own_ext hown2 hx2
 have hx3 : Ext w w3 := (hxw.of_new hk2 (by simpa using hr)).trans hx2
 refine ⟨?_, ?_, ?_,hx3.grown hg hB hown3⟩
 ·refine hp.trans ?_
  rw [List.append_assoc]
  exact (List.perm_middle).append_left done
 ·have hit3 := hit2.ext hx2
  refine hit3.of_blocks (hg.block r hit3.lt (fun e => hno e.symm)) (hg.block b hit3.map.lt (fun e => ?_))
  have := (own_base hown3 e.symm).1
  omega
 ·simpa using hown'
theorem infoV : (Tryz.prog.info? 93).map (fun i => (i.zero.map (·.cells.size),i.size,i.bytes)) = some (some 3,3,24) := by kernel_rfl
set_option maxRecDepth 100000 in
set_option maxHeartbeats 4000000 in
theorem vertices_any (g bv be : Nat) (V : List (Int × Thing)) (E : List ((Int × Int) × Thing)) (S : List (Int × Thing)) (w : World) (hg : GraphAt w g bv be V E) (hp : S.Perm V) (hS : S.Pairwise ltV) (hl : V.length ≤ 4096) :
  Calls Tryz.prog 95 #[.pointer (some ⟨g,0,none⟩)] w fun e w' => ∃ v,e = .returned v ∧ w'.ownsRow w.heap.size 93 3 v S.length (S.flatMap encV) ∧ Ext w w' := by
 have hi0 := infoV
 obtain ⟨i0,hi,hi1⟩ := Option.map_eq_some_iff.1 hi0
 simp only [Prod.mk.injEq] at hi1
 obtain ⟨hz1,hz2,hz3⟩ := hi1
 obtain ⟨z0,hz,hz4⟩ := Option.map_eq_some_iff.1 hz1
 clear hi0 hz1
 obtain ⟨w1,hrun,hit,hx1,hs1⟩ := hg.vs.range Tryz.underlying154
 have d0 := hg.ptr0
 have hbl := hg.vs.lt
 have hit' := hide hit
 have hs1' := hide hs1
 clear hg hit hs1
 go_enter Tryz.func95,Tryz.ntmps95
 go_wp2
 clear hrun
 try go_frame
 generalize hr : w.heap.size = r at *
 have hr' := hide hr
 clear hr
 go_loopw [3] (fun l wr => ∃ done left : List (Int × Thing),V.Perm (done ++ left) ∧ IterIs ekV evT i64ok wr r bv V left ∧ wr.ownsRow r 93 3 l done.length (done.flatMap encV) ∧ Ext w wr) (fun _ wr => wr.rangeLeft bv r)
 case atStart => exact ⟨[],V,List.Perm.refl _,unhide hit',World.ownsRow_nil _ _ _ _,hx1⟩
 case round =>
  obtain ⟨done,left,hpd,hit,hown,hxr⟩ := hrel
  have hlt := hit.left_eq
  rcases hit.next (P := Tryz.prog) 0 with ⟨hl0,hrun⟩ | ⟨p,l1,l2,w2,hl0,hrun,hit2,hk2,hs2,hen⟩
  ·have hrun : ∀ ty,(Instr.next (.pointer (some ⟨r,0,none⟩)) false ty).run Tryz.prog wr = .ok (.tuple #[.bool false]) wr := fun _ => hrun
   subst hl0
   rw [List.append_nil] at hpd
   have hlen : done.length = S.length := (hp.trans hpd).length_eq.symm
   have hown' := hide hown
   have hpd' := hide hpd
   clear hit hlt hown hpd
   go_wp2_with (go_at_call 150; refine (sortV_any r _ done S wr (unhide hown') (hp.trans (unhide hpd')) hS (by have := (unhide hpd').length_eq; omega)).mono ?_; rintro e w4 ⟨rfl,ho4,hg4⟩)
   go_ret
   exact ⟨_,rfl,by rw [← hlen,unhide hr']; exact ho4,hxr.grown hg4 (by rw [unhide hr']; exact Nat.le_refl _) (unhide hown')⟩
  ·have hrun : ∀ ty,(Instr.next (.pointer (some ⟨r,0,none⟩)) false ty).run Tryz.prog wr = .ok (.tuple #[.bool true,ekV p.1,evT p.2]) w2 := fun _ => hrun
   subst hl0
   have hown2 := own_keep hown hk2 (by simpa using iter_not_own hit hown)
   have hsl := hpd.length_eq
   simp only [List.length_append,List.length_cons] at hsl
   have hlt2 := hit2.left_eq
   have G := fun w3 w' v' (hx2 : Ext w2 w3) h1 h2 => gath_step (enc := encV) (w3 := w3) (w' := w') (v' := v') hpd hit hit2 hk2 hx2 hxr (by rw [unhide hr']; exact Nat.le_refl _) (by rw [unhide hr']; exact hbl) (by rw [unhide hr']; exact Nat.le_refl _) hown h1 h2
   have hxs' := hide (show r ≤ w2.heap.size by have := hxr.size; have := unhide hr'; omega)
   have hown2' := hide hown2
   have G' := hide G
   have hlt' := hide hlt
   have hsl' := hide hsl
   clear hit hlt hpd hown hown2 G hlt2 hs2 hsl
   obtain ⟨a,⟨lab0,wt0⟩⟩ := p
   simp only [ekV,evT] at hrun hen
   go_wp2_with (at_builtin; refine wpList_append_own_at _ rfl _ _ 94 rfl r 93 i0 z0 3 24 Tryz.underlying94 hi hz hz2 hz3 hz4 (by decide) _ _ _ rfl (own_ext (unhide hown2') (((Ext.refl w2).alloc _).alloc _)) ⟨w2.heap.size + 1,0,none⟩ 1 1 (encV (a,(lab0,wt0))) rfl rfl ?c1 ?c2 ?c3 ?c4 ?c5 ?_)
   case c1 =>
    intro j u hj
    match j,hj with
    | 0,hj => simp [encV] at hj; subst hj; simp
    | 1,hj => simp [encV] at hj; subst hj; simp
    | 2,hj => simp [encV] at hj; subst hj; simp
   case c2 => exact one_encV _
   case c3 => have := unhide hsl'; unfold maxLen; omega
   case c4 => have := unhide hsl'; omega
   case c5 => have := unhide hxs'; simp; omega
   intro v' w4 hown4 hgr4 _ _
   obtain ⟨g1,g2,g3,g4⟩ := unhide G' _ _ _ ((((Ext.refl w2).alloc _).alloc _)) hown4 hgr4
   have hm := g2.left_eq
   clear hown4 hgr4
   go_wp2
   go_roundw
   case rel => exact ⟨_,_,g1,g2,g3,g4⟩
   case measure =>
    rw [hm,unhide hlt']
    simp
theorem infoE : (Tryz.prog.info? 61).map (fun i => (i.zero.map (·.cells.size),i.size,i.bytes)) = some (some 4,4,32) := by kernel_rfl
set_option maxRecDepth 100000 in
set_option maxHeartbeats 4000000 in
theorem edges_any (g bv be : Nat) (V : List (Int × Thing)) (E : List ((Int × Int) × Thing)) (S : List ((Int × Int) × Thing)) (w : World) (hg : GraphAt w g bv be V E) (hp : S.Perm E) (hS : S.Pairwise ltE) (hl : E.length ≤ 4096) :
  Calls Tryz.prog 96 #[.pointer (some ⟨g,0,none⟩)] w fun e w' => ∃ v,e = .returned v ∧ w'.ownsRow w.heap.size 61 4 v S.length (S.flatMap encE) ∧ Ext w w' := by
 have hi0 := infoE
 obtain ⟨i0,hi,hi1⟩ := Option.map_eq_some_iff.1 hi0
 simp only [Prod.mk.injEq] at hi1
 obtain ⟨hz1,hz2,hz3⟩ := hi1
 obtain ⟨z0,hz,hz4⟩ := Option.map_eq_some_iff.1 hz1
 clear hi0 hz1
 obtain ⟨w1,hrun,hit,hx1,hs1⟩ := hg.es.range Tryz.underlying155
 have d0 := hg.ptr1
 have hbl := hg.es.lt
 have hit' := hide hit
 have hs1' := hide hs1
 clear hg hit hs1
 go_enter Tryz.func96,Tryz.ntmps96
 go_wp2
 clear hrun
 try go_frame
 generalize hr : w.heap.size = r at *
 have hr' := hide hr
 clear hr
 go_loopw [3] (fun l wr => ∃ done left : List ((Int × Int) × Thing),E.Perm (done ++ left) ∧ IterIs ekE evT okE wr r be E left ∧ wr.ownsRow r 61 4 l done.length (done.flatMap encE) ∧ Ext w wr) (fun _ wr => wr.rangeLeft be r)
 case atStart => exact ⟨[],E,List.Perm.refl _,unhide hit',World.ownsRow_nil _ _ _ _,hx1⟩
 case round =>
  obtain ⟨done,left,hpd,hit,hown,hxr⟩ := hrel
  have hlt := hit.left_eq
  rcases hit.next (P := Tryz.prog) 0 with ⟨hl0,hrun⟩ | ⟨p,l1,l2,w2,hl0,hrun,hit2,hk2,hs2,hen⟩
  ·have hrun : ∀ ty,(Instr.next (.pointer (some ⟨r,0,none⟩)) false ty).run Tryz.prog wr = .ok (.tuple #[.bool false]) wr := fun _ => hrun
   subst hl0
   rw [List.append_nil] at hpd
   have hlen : done.length = S.length := (hp.trans hpd).length_eq.symm
   have hown' := hide hown
   have hpd' := hide hpd
   clear hit hlt hown hpd
   go_wp2_with (go_at_call 78; refine (sortE_any r _ done S wr (unhide hown') (hp.trans (unhide hpd')) hS (by have := (unhide hpd').length_eq; omega)).mono ?_; rintro e w4 ⟨rfl,ho4,hg4⟩)
   go_ret
   exact ⟨_,rfl,by rw [← hlen,unhide hr']; exact ho4,hxr.grown hg4 (by rw [unhide hr']; exact Nat.le_refl _) (unhide hown')⟩
  ·have hrun : ∀ ty,(Instr.next (.pointer (some ⟨r,0,none⟩)) false ty).run Tryz.prog wr = .ok (.tuple #[.bool true,ekE p.1,evT p.2]) w2 := fun _ => hrun
   subst hl0
   have hown2 := own_keep hown hk2 (by simpa using iter_not_own hit hown)
   have hsl := hpd.length_eq
   simp only [List.length_append,List.length_cons] at hsl
   have hlt2 := hit2.left_eq
   have G := fun w3 w' v' (hx2 : Ext w2 w3) h1 h2 => gath_step (enc := encE) (w3 := w3) (w' := w') (v' := v') hpd hit hit2 hk2 hx2 hxr (by rw [unhide hr']; exact Nat.le_refl _) (by rw [unhide hr']; exact hbl) (by rw [unhide hr']; exact Nat.le_refl _) hown h1 h2
   have hxs' := hide (show r ≤ w2.heap.size by have := hxr.size; have := unhide hr'; omega)
   have hown2' := hide hown2
   have G' := hide G
   have hlt' := hide hlt
   have hsl' := hide hsl
   clear hit hlt hpd hown hown2 G hlt2 hs2 hsl
   obtain ⟨⟨a,b⟩,⟨lab0,wt0⟩⟩ := p
   simp only [ekE,evT] at hrun hen
   go_wp2_with (at_builtin; refine wpList_append_own_at _ rfl _ _ 57 rfl r 61 i0 z0 4 32 Tryz.underlying57 hi hz hz2 hz3 hz4 (by decide) _ _ _ rfl (own_ext (unhide hown2') ((((Ext.refl w2).alloc _).alloc _).alloc _)) ⟨w2.heap.size + 2,0,none⟩ 1 1 (encE ((a,b),(lab0,wt0))) rfl rfl ?c1 ?c2 ?c3 ?c4 ?c5 ?_)
   case c1 =>
    intro j u hj
    match j,hj with
    | 0,hj => simp [encE] at hj; subst hj; simp
    | 1,hj => simp [encE] at hj; subst hj; simp
    | 2,hj => simp [encE] at hj; subst hj; simp
    | 3,hj => simp [encE] at hj; subst hj; simp
   case c2 => exact one_encE _
   case c3 => have := unhide hsl'; unfold maxLen; omega
   case c4 => have := unhide hsl'; omega
   case c5 => have := unhide hxs'; simp; omega
   intro v' w4 hown4 hgr4 _ _
   obtain ⟨g1,g2,g3,g4⟩ := unhide G' _ _ _ (((((Ext.refl w2).alloc _).alloc _).alloc _)) hown4 hgr4
   have hm := g2.left_eq
   clear hown4 hgr4
   go_wp2
   go_roundw
   case rel => exact ⟨_,_,g1,g2,g3,g4⟩
   case measure =>
    rw [hm,unhide hlt']
    simp
end Go.Proofs.YtmokciekndllpaaGreatDoor
namespace Go.Proofs.YtmokciekndllpaaGreatDoor
open Go Go.RowKit
theorem Blk.set {w : World} {b : Nat} {t : TypeId} {cs : Array Value} (h : Blk w b t cs) (i : Nat) (v : Value) : Blk (w.setCell ⟨b,i,none⟩ v) b t (cs.setIfInBounds i v) := by
 unfold Blk at *
 simp [World.setCell,Array.getElem?_modify,h]
theorem Keep.setCell (w : World) (b i : Nat) (v : Value) : Keep [b] w (w.setCell ⟨b,i,none⟩ v) :=
 ⟨rfl,rfl,rfl,by simp [World.setCell],fun k _ hn => Below.heap_setCell _ _ _ _ (by simpa using hn)⟩
theorem fld_step {wI wr w2 w4 : World} {b T k n n' i : Nat} {S : TypeId} {cs : Array Value} {v v' : Value} {xs xs' : List Value} (hk : Keep [b] wI wr) (hbI : b < wI.heap.size) (hb : Blk wr b S cs) (hown : wr.ownsRow wI.heap.size T k v n xs) (hx2 : Ext wr w2)
  (hown4 : w4.ownsRow wI.heap.size T k v' n' xs') (hg : w2.grownBy w4 v.ownBlock) (hi : i < cs.size) :
  ∃ W5,w4.setCell ⟨b,i,none⟩ v' = W5 ∧ w4.cell? ⟨b,i,none⟩ = some cs[i] ∧ w4.frozen? ⟨b,i,none⟩ = false ∧ Keep [b] wI W5 ∧ Blk W5 b S (cs.setIfInBounds i v') ∧ W5.ownsRow wI.heap.size T k v' n' xs' ∧
   (∀ j t c,Blk w2 j t c → j ≠ b → v.ownBlock ≠ some j → Blk W5 j t c) ∧ w2.heap.size ≤ W5.heap.size := by
 have hob : ∀ j,j < wI.heap.size → some j ≠ v.ownBlock := fun j hj e => by
  have := (own_base hown e.symm).1
  omega
 have hbr := hb.lt
 have hb4 : Blk w4 b S cs := hb.of_block ((hg.block b (by have := hx2.size; omega) (hob b hbI)).trans (hx2.block b hbr))
 have hs4 := hg.size
 refine ⟨_,rfl,by rw [hb4.cell]; simp [hi],hb4.frozen i, ?_,hb4.set i v', ?_,fun j t c hj hjb hjo => ?_,by simpa [World.setCell] using hs4⟩
 ·have h1 : Keep [b] wI w4 := by
   refine hk.of_new (S' := v.ownBlock.toList) ⟨hg.os.trans hx2.os,hg.tape.trans hx2.tape,hg.output.trans hx2.output,Nat.le_trans hx2.size hs4,fun j hj hjo => ?_⟩ ?_
   ·exact (hg.block j (by have := hx2.size; omega) (by
     intro e
     rw [← e] at hjo
     simp at hjo)).trans (hx2.block j hj)
   ·intro x hx
    have hx' : v.ownBlock = some x := by simpa using hx
    exact .inr (own_base hown hx').1
  exact h1.trans (Keep.setCell w4 b i v')
 ·exact own_keep hown4 (Keep.setCell w4 b i v') (fun g hg' e => by
   have hgb : g = b := by simpa using hg'
   subst hgb
   have := (own_base hown4 e).1
   omega)
 ·have hj4 : Blk w4 j t c := hj.of_block (hg.block j hj.lt (fun e => hjo e.symm))
  exact hj4.keep (Keep.setCell w4 b i v') (by simpa using hjb)
theorem flat_at {α : Type} {enc : α → List Value} {k : Nat} (hk : ∀ x,(enc x).length = k) {xs : List α} (i : Nat) (x : α) (j : Nat) (u : Value) (hx : xs[i]? = some x) (hu : (enc x)[j]? = some u) : (xs.flatMap enc)[i * k + j]? = some u := by
 have hj : j < k := by rw [← hk x]; exact (List.getElem?_eq_some_iff.1 hu).1
 induction xs generalizing i with
 | nil => simp at hx
 | cons y r ih =>
  rw [List.flatMap_cons]
  cases i with
  | zero =>
   simp only [Nat.zero_mul,Nat.zero_add]
   rw [List.getElem?_append_left (by rw [hk]; exact hj)]
   simp only [List.getElem?_cons_zero,Option.some.injEq] at hx
   rw [hx]
   exact hu
  | succ i =>
   rw [List.getElem?_append_right (by rw [hk,Nat.succ_mul]; omega),hk]
   rw [show (i + 1) * k + j - k = i * k + j by rw [Nat.succ_mul]; omega]
   exact ih i (by simpa using hx)
theorem own_slice {w : World} {base T k n : Nat} {v : Value} {xs : List Value} (h : w.ownsRow base T k v n xs) : ∃ A c,v = .slice A n c := by
 rcases h.2 with ⟨rfl,rfl⟩ | ⟨g,cap,cur,rfl,_⟩
 ·exact ⟨_,_,rfl⟩
 ·exact ⟨_,_,rfl⟩
theorem fin_row {w W : World} {b4 B T k n : Nat} {v : Value} {xs : List Value} (hx : Ext w W) (h4 : w.heap.size ≤ b4) (hown : W.ownsRow B T k v n xs) (hB : b4 < B) (p q : Value) :
  Ext w ((W.setCell ⟨b4,0,none⟩ p).setCell ⟨b4,1,none⟩ q) ∧ ((W.setCell ⟨b4,0,none⟩ p).setCell ⟨b4,1,none⟩ q).ownsRow B T k v n xs :=
 ⟨Below.setCell (Below.setCell hx h4 p) h4 q,ownsRow_setCell_below (ownsRow_setCell_below hown hB p) hB q⟩
theorem SlAt.of_own {α : Type} {enc : α → List Value} {w : World} {base T k : Nat} {v : Value} {xs : List α} (h : w.ownsRow base T k v xs.length (xs.flatMap enc)) (hk : ∀ x,(enc x).length = k) : ∃ A c,v = .slice A xs.length c ∧ SlAt enc k w A xs := by
 rcases h.2 with ⟨rfl,h0⟩ | ⟨g,cap,cur,rfl,hb,hg,hn,hcap,hcur,htake⟩
 ·have : xs = [] := List.eq_nil_of_length_eq_zero h0
  subst this
  exact ⟨none,0,rfl,SlAt.nil⟩
 ·refine ⟨_,_,rfl,fun _ => ⟨g,0,rfl,(Array.getElem?_eq_some_iff.1 hg).1,fun i x hx j u hu => ?_⟩⟩
  have hi : i < xs.length := (List.getElem?_eq_some_iff.1 hx).1
  have hj : j < k := by rw [← hk x]; exact (List.getElem?_eq_some_iff.1 hu).1
  have hlt : i * k + j < xs.length * k := by
   have := Nat.mul_le_mul_right k (Nat.succ_le_of_lt hi)
   rw [Nat.succ_mul] at this
   omega
  have h2 : (cur.toList.take (xs.length * k))[i * k + j]? = (xs.flatMap enc)[i * k + j]? := by rw [htake]
  rw [List.getElem?_take_of_lt hlt,Array.getElem?_toList] at h2
  have h3 := flat_at hk i x j u hx hu
  simp only [World.cell?,hg,Nat.zero_add,Option.isSome_none,Bool.false_eq_true,if_false]
  rw [h2,h3]
theorem inforV : (Tryz.prog.info? 141).map (fun i => (i.zero.map (·.cells.size),i.size,i.bytes)) = some (some 3,3,24) := by kernel_rfl
theorem wp_rV {ops : Array Oper} {rest : List Oper} {o : Oper} {a : Act} {Q : Exit → Act → World → Prop} (w : World) (hgd : o.guard = none) (s x : Operand)
  (ho : o.op = .call { callee := .builtin .append,args := #[s,x],argTypes := #[27,27] }) (base : Nat) (v : Value) (n : Nat) (xs : List (Int × Thing)) (e : (Int × Thing)) (hn : xs.length = n) (g : Nat) (W : World) (hW : W = w.alloc (.cells (encV e).toArray 141)) (hsg : w.heap.size = g) (hs : a.eval s = v) (hx : a.eval x = .slice (some ⟨g,0,none⟩) 1 1)
  (hown : w.ownsRow base 141 3 v n (xs.flatMap encV)) (hl : n ≤ 100000) (hb : base ≤ w.heap.size)
  (h : ∀ A' c' w',w'.ownsRow base 141 3 (.slice A' (n + 1) c') (n + 1) ((xs ++ [e]).flatMap encV) → (w.alloc (.cells (encV e).toArray 141)).grownBy w' v.ownBlock → wpList Tryz.prog ops Q rest (a.put o.dst (.slice A' (n + 1) c')) w') :
  wpList Tryz.prog ops Q (o :: rest) a W := by
 subst hW
 subst hn
 subst hsg
 have hi0 := inforV
 obtain ⟨i0,hi,hi1⟩ := Option.map_eq_some_iff.1 hi0
 simp only [Prod.mk.injEq] at hi1
 obtain ⟨hz1,hz2,hz3⟩ := hi1
 obtain ⟨z0,hz,hz4⟩ := Option.map_eq_some_iff.1 hz1
 have hown' := own_ext hown ((Ext.refl w).alloc (.cells (encV e).toArray 141))
 refine wpList_append_own_at _ hgd s x _ ho base 141 i0 z0 3 24 Tryz.underlying27 hi hz hz2 hz3 hz4 (by decide) v xs.length _ hs hown' ⟨w.heap.size,0,none⟩ 1 1 (encV e) hx rfl ?_ (one_encV e) (by unfold maxLen; omega) (by omega) (by simp; omega) ?_
 ·intro j u hj
  have := (Blk.new w 141 (encV e).toArray).cell j
  rw [show (⟨w.heap.size,0,none⟩ : Addr).add j = ⟨w.heap.size,j,none⟩ by simp [Addr.add]; omega,this]
  simpa using hj
 ·intro v' w' h1 h2 _ _
  obtain ⟨A',c',rfl⟩ := own_slice h1
  exact h A' c' w' (by simpa using h1) h2
theorem run_rV (w : World) (base : Nat) (v : Value) (xs : List (Int × Thing)) (e : (Int × Thing)) (hown : w.ownsRow base 141 3 v xs.length (xs.flatMap encV)) (hl : xs.length ≤ 100000) (hb : base ≤ w.heap.size) (ty : TypeId) :
  ∃ v' w',(Builtin.append_ #[27,27] ty #[v, .slice (some ⟨w.heap.size,0,none⟩) 1 1]).run Tryz.prog (w.alloc (.cells (encV e).toArray 141)) = .ok v' w' ∧
   w'.ownsRow base 141 3 v' (xs ++ [e]).length ((xs ++ [e]).flatMap encV) ∧ (w.alloc (.cells (encV e).toArray 141)).grownBy w' v.ownBlock := by
 have hi0 := inforV
 obtain ⟨i0,hi,hi1⟩ := Option.map_eq_some_iff.1 hi0
 simp only [Prod.mk.injEq] at hi1
 obtain ⟨hz1,hz2,hz3⟩ := hi1
 obtain ⟨z0,hz,hz4⟩ := Option.map_eq_some_iff.1 hz1
 have hown' := own_ext hown ((Ext.refl w).alloc (.cells (encV e).toArray 141))
 obtain ⟨v',w',h0,h1,h2,_,_⟩ := run_append_own_at (P := Tryz.prog) _ base 27 ty 141 i0 z0 3 24 Tryz.underlying27 hi hz hz2 hz3 hz4 (by decide) v xs.length _ hown' ⟨w.heap.size,0,none⟩ 1 1 (encV e) rfl (fun j u hj => by
  have := (Blk.new w 141 (encV e).toArray).cell j
  rw [show (⟨w.heap.size,0,none⟩ : Addr).add j = ⟨w.heap.size,j,none⟩ by simp [Addr.add]; omega,this]
  simpa using hj) (one_encV e) (by unfold maxLen; omega) (by omega) (by simp; omega)
 exact ⟨v',w',h0,by simpa using h1,h2⟩
theorem inforE : (Tryz.prog.info? 142).map (fun i => (i.zero.map (·.cells.size),i.size,i.bytes)) = some (some 4,4,32) := by kernel_rfl
theorem wp_rE {ops : Array Oper} {rest : List Oper} {o : Oper} {a : Act} {Q : Exit → Act → World → Prop} (w : World) (hgd : o.guard = none) (s x : Operand)
  (ho : o.op = .call { callee := .builtin .append,args := #[s,x],argTypes := #[28,28] }) (base : Nat) (v : Value) (n : Nat) (xs : List ((Int × Int) × Thing)) (e : ((Int × Int) × Thing)) (hn : xs.length = n) (g : Nat) (W : World) (hW : W = w.alloc (.cells (encE e).toArray 142)) (hsg : w.heap.size = g) (hs : a.eval s = v) (hx : a.eval x = .slice (some ⟨g,0,none⟩) 1 1)
  (hown : w.ownsRow base 142 4 v n (xs.flatMap encE)) (hl : n ≤ 100000) (hb : base ≤ w.heap.size)
  (h : ∀ A' c' w',w'.ownsRow base 142 4 (.slice A' (n + 1) c') (n + 1) ((xs ++ [e]).flatMap encE) → (w.alloc (.cells (encE e).toArray 142)).grownBy w' v.ownBlock → wpList Tryz.prog ops Q rest (a.put o.dst (.slice A' (n + 1) c')) w') :
  wpList Tryz.prog ops Q (o :: rest) a W := by
 subst hW
 subst hn
 subst hsg
 have hi0 := inforE
 obtain ⟨i0,hi,hi1⟩ := Option.map_eq_some_iff.1 hi0
 simp only [Prod.mk.injEq] at hi1
 obtain ⟨hz1,hz2,hz3⟩ := hi1
 obtain ⟨z0,hz,hz4⟩ := Option.map_eq_some_iff.1 hz1
 have hown' := own_ext hown ((Ext.refl w).alloc (.cells (encE e).toArray 142))
 refine wpList_append_own_at _ hgd s x _ ho base 142 i0 z0 4 32 Tryz.underlying28 hi hz hz2 hz3 hz4 (by decide) v xs.length _ hs hown' ⟨w.heap.size,0,none⟩ 1 1 (encE e) hx rfl ?_ (one_encE e) (by unfold maxLen; omega) (by omega) (by simp; omega) ?_
 ·intro j u hj
  have := (Blk.new w 142 (encE e).toArray).cell j
  rw [show (⟨w.heap.size,0,none⟩ : Addr).add j = ⟨w.heap.size,j,none⟩ by simp [Addr.add]; omega,this]
  simpa using hj
 ·intro v' w' h1 h2 _ _
  obtain ⟨A',c',rfl⟩ := own_slice h1
  exact h A' c' w' (by simpa using h1) h2
theorem ret_cell1 {P : Program} {fn : Func} {t T : Nat} {tmps : Array Value} {p : Addr} {W : World} {v : Value} (h : fn.results = #[.cell t T]) (hp : tmps.getD t undef = .pointer (some p)) (hl : (loadVar T p).run P W = .ok v W) :
  (results fn tmps).run P W = .ok v W := by
 simp only [Array.getD_eq_getD_getElem?] at hp
 simp [results,h,hp,asAddr,hl]
theorem ret_cell2 {P : Program} {fn : Func} {t T u : Nat} {tmps : Array Value} {p : Addr} {W : World} {v : Value} (h : fn.results = #[.cell t T, .tmp u]) (hp : tmps.getD t undef = .pointer (some p)) (hl : (loadVar T p).run P W = .ok v W) :
  (results fn tmps).run P W = .ok (.tuple #[v,tmps.getD u undef]) W := by
 simp only [Array.getD_eq_getD_getElem?] at hp
 simp [results,h,hp,asAddr,hl]
theorem load_G (W : World) (b : Nat) (p q : Value) (h0 : W.cell? ⟨b,0,none⟩ = some p) (h1 : W.cell? ⟨b,1,none⟩ = some q) : (loadVar 30 ⟨b,0,none⟩).run Tryz.prog W = .ok (.agg #[p,q]) W := by
 simp [loadVar,h0,h1,go_sem]
theorem load_G2 (W : World) (b : Nat) (p q u v : Value) (h0 : W.cell? ⟨b,0,none⟩ = some u) (h1 : W.cell? ⟨b,1,none⟩ = some v) : (loadVar 30 ⟨b,0,none⟩).run Tryz.prog ((W.setCell ⟨b,0,none⟩ p).setCell ⟨b,1,none⟩ q) = .ok (.agg #[p,q]) ((W.setCell ⟨b,0,none⟩ p).setCell ⟨b,1,none⟩ q) := by
 refine load_G _ b p q ?_ ?_
 ·rw [World.cell?_setCell_other _ _ _ _ (by simp)]
  exact World.cell?_setCell_same _ _ _ h0
 ·have h2 : (W.setCell ⟨b,0,none⟩ p).cell? ⟨b,1,none⟩ = some v := by
   rw [World.cell?_setCell_other _ _ _ _ (by simp)]
   exact h1
  exact World.cell?_setCell_same _ _ _ h2
end Go.Proofs.YtmokciekndllpaaGreatDoor
