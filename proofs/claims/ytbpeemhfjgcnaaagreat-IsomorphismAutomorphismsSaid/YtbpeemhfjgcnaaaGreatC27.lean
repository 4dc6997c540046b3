/- Parts of a proof, laid together. Each part says its own conditions. -/
import Derived.Test.YtbpeemhfjgcnaaaGreatC26
import Derived.Deep.DeepAppendRoom
namespace Go.Proofs.YtbpeemhfjgcnaaaGreat
open Go Go.RowKit Go.Shelf
theorem flatI : ∀ xs : List Int,xs.flatMap encI = xs.map fun x => Value.int .i64 x
 | [] => rfl
 | x :: r => by rw [List.flatMap_cons,flatI r]; rfl
theorem flatI_len (xs : List Int) : (xs.flatMap encI).length = xs.length := by rw [flatI,List.length_map]
theorem own_front {w : World} {b T n m cap g : Nat} {xs ys : List Value} (h : w.ownsRow b T 1 (.slice (some ⟨g,0,none⟩) m cap) m (xs ++ ys)) (hx : xs.length = n) (hn : n ≤ m) : w.ownsRow b T 1 (.slice (some ⟨g,0,none⟩) n cap) n xs := by
 obtain ⟨_,h2⟩ := h
 refine ⟨by omega, ?_⟩
 rcases h2 with ⟨h2,_⟩ | ⟨g',cap',cur,e,h3,h4,h5,h6,h7,h8⟩
 ·cases h2
 ·cases e
  refine .inr ⟨g,cap,cur,rfl,h3,h4,by omega,h6,h7, ?_⟩
  rw [Nat.mul_one] at h8 ⊢
  have h9 : cur.toList.take n = (cur.toList.take m).take n := by rw [List.take_take,Nat.min_eq_left hn]
  rw [h9,h8, ← hx,List.take_left]
def Grew (v v' : Value) (n b : Nat) : Prop := (∃ g cap,v = .slice (some ⟨g,0,none⟩) n cap ∧ v' = .slice (some ⟨g,0,none⟩) (n + 1) cap) ∨ (v'.ownBlock = some b ∧ v.ownBlock ≠ some b)
theorem Grew.back {v v' : Value} {n b B : Nat} {W W' : World} {xs : List Int} {x : Int} {S : List Nat} (h : Grew v v' n b) (hW : W.ownsRow B 3 1 v n (xs.flatMap encI)) (hW' : W'.ownsRow B 3 1 v' (n + 1) ((xs ++ [x]).flatMap encI)) (hn : n = xs.length) (hk : Keep S W W') (hS : ∀ g,v.ownBlock = some g → v'.ownBlock ≠ some g → g ∉ S) : W'.ownsRow B 3 1 v n (xs.flatMap encI) := by
 rcases h with ⟨g,cap,e,e'⟩ | ⟨h,h2⟩
 ·subst e e'
  rw [List.flatMap_append] at hW'
  exact own_front hW' (by rw [flatI_len,hn]) (by omega)
 ·exact own_keep hW hk fun g hg e => hS g e (fun h3 => h2 (by rw [e, ← h3,h])) hg
theorem Grew.at {v v' : Value} {n b : Nat} (h : Grew v v' n b) : v'.ownBlock = v.ownBlock ∨ v'.ownBlock = some b := by
 rcases h with ⟨g,cap,e,e'⟩ | ⟨h,_⟩
 ·exact .inl (by rw [e,e']; rfl)
 ·exact .inr h
section
variable {ρ : Operand → Value} {o : Oper} {s x : Operand} {W : World}
theorem run_ap1R (ho : o.op = .call { callee := .builtin .append,args := #[s,x],argTypes := #[31,31] }) {base : Nat} {v : Value} {n : Nat} {xs : List Int} (e : Int) {g t : Nat} (hs : ρ s = v) (hx : ρ x = .slice (some ⟨g,0,none⟩) 1 1) (hg : Blk W g t #[.int .i64 e])
  (hown : W.ownsRow base 3 1 v n (xs.flatMap encI)) (hn : n = xs.length) (hl : n ≤ 100000) (hb : base ≤ W.heap.size) :
  ∃ A' c' w',(execOp ρ o).run Tryz.prog W = .ok (.value (.slice A' (n + 1) c')) w' ∧ w'.ownsRow base 3 1 (.slice A' (n + 1) c') (n + 1) ((xs ++ [e]).flatMap encI) ∧ w'.ownsRow base 3 1 v n (xs.flatMap encI) ∧ W.grownBy w' v.ownBlock ∧ Grew v (.slice A' (n + 1) c') n W.heap.size := by
 obtain ⟨A',c',w',h1,h2,h3,h4⟩ := run_ap1 (enc := encI) (k := 1) infoI Tryz.underlying31 one_encI (fun _ => rfl) (by decide) (by decide) ho e hs hx hg hown (by omega) hb
 obtain ⟨i0,hi,hi1⟩ := Option.map_eq_some_iff.1 infoI
 simp only [Prod.mk.injEq] at hi1
 obtain ⟨hz1,hz2,hz3⟩ := hi1
 obtain ⟨z0,hz,hz4⟩ := Option.map_eq_some_iff.1 hz1
 rcases hown.2 with ⟨rfl,h0⟩ | ⟨gv,cap,cur,rfl,hgb,hgc,hnc,hcm,hcs,htk⟩
 ·refine ⟨A',c',w',h1,h2, ?_,h3, .inr ⟨?_,by simp [Value.ownBlock]⟩⟩
  ·have hx0 : xs = [] := List.eq_nil_of_length_eq_zero (by omega)
   subst hx0 h0
   exact World.ownsRow_nil _ _ _ _
  ·rcases h4 with h4 | h4
   ·exfalso
    rcases h2.2 with ⟨_,h5⟩ | ⟨g5,c5,cu5,e5,_⟩
    ·omega
    ·rw [e5] at h4
     cases h4
   ·exact h4
 ·have hlt : gv < W.heap.size := (Array.getElem?_eq_some_iff.1 hgc).1
  have hnew : ∀ j u,([Value.int .i64 e] : List Value)[j]? = some u → W.cell? ((⟨g,0,none⟩ : Addr).add j) = some u := fun j u hu => by
   match j,hu with
   | 0,hu =>
    simp at hu
    subst hu
    have := hg.cell 0
    simpa [Addr.add] using this
   | j + 1,hu => simp at hu
  by_cases hr : n + 1 ≤ cap
  ·obtain ⟨w2,r2,o2,g2⟩ := run_append_own_spare (P := Tryz.prog) (w := W) base 31 o.type 3 i0 1 Tryz.underlying31 hi hz2 gv n cap (xs.flatMap encI) hown ⟨g,0,none⟩ 1 1 [.int .i64 e] rfl hnew (by intro u hu; rw [List.mem_singleton] at hu; subst hu; rfl) hr
   refine ⟨some ⟨gv,0,none⟩,cap,w2, ?_,by rw [List.flatMap_append]; exact o2,own_front o2 (by rw [flatI_len,hn]) (by omega),g2, .inl ⟨gv,cap,rfl,rfl⟩⟩
   unfold execOp
   simp only [ho,resolve,invoke,builtin,Sem.run_bind,Sem.run_pure,Result.andThen_ok,List.map_toArray,List.map_cons,List.map_nil,hs,hx,r2]
  ·have r2 := run_append_grow (P := Tryz.prog) (w := W) 31 o.type 3 i0 z0 Tryz.underlying31 hi hz ⟨gv,0,none⟩ n cap (xs.flatMap encI) (by rw [flatI_len,hz2, ← hn,Nat.mul_one]) (fun j u hu => by
    rw [← htk,Nat.mul_one] at hu
    have hj : j < n := by
     have h5 := (List.getElem?_eq_some_iff.1 hu).1
     rw [List.length_take] at h5
     omega
    rw [List.getElem?_take_of_lt hj,Array.getElem?_toList] at hu
    have ha : (⟨gv,0,none⟩ : Addr).add j = ⟨gv,j,none⟩ := by
     by_cases hj0 : j = 0
     ·subst hj0; simp [Addr.add]
     ·simp [Addr.add,hj0]
    rw [ha]
    simp [World.cell?,hgc,hu]) ⟨g,0,none⟩ 1 1 [.int .i64 e] (by rw [hz2]; rfl) hnew (by omega) (by omega) (growslice_fits (by omega) (by rw [hz3]; omega))
   have h1' := h1
   unfold execOp at h1'
   simp only [ho,resolve,invoke,builtin,Sem.run_bind,Sem.run_pure,Result.andThen_ok,List.map_toArray,List.map_cons,List.map_nil,hs,hx,r2] at h1'
   injection h1' with h5 h6
   injection h5 with h5
   injection h5 with h7 h8 h9
   have hx2 : Ext W w' := by
    rw [← h6]
    exact (Ext.refl W).drew.trans (ext_self1 _ _)
   refine ⟨A',c',w',h1,h2,own_keep hown (hx2.keep []) (by simp),h3, .inr ⟨by rw [← h7]; rfl, ?_⟩⟩
   intro h
   have : gv = W.heap.size := by simpa [Value.ownBlock] using h
   omega
end
end Go.Proofs.YtbpeemhfjgcnaaaGreat
namespace Go.Proofs.YtbpeemhfjgcnaaaGreat
open Go Go.RowKit Go.Shelf
def ansV : Option Bool → Value
 | none => .tuple #[]
 | some b => .bool b
structure Tell (fd : Nat) (caps : Array Value) (ans : Option Bool) (m : Nat) (J : List (List Int) → List Nat → World → Prop) : Prop where
 enters : ∀ args w,(callFunc fd args).run Tryz.prog w = .ok (.enter fd args) w
 keep : ∀ k T W W' S,J k T W → Keep S W W' → (∀ x ∈ S,x ∉ T) → J k T W'
 lt : ∀ k T W,J k T W → ∀ x ∈ T,x < W.heap.size
 step : ∀ told (l : List Int) T W A n c,J told T W → n = l.length → n = m → n ≤ c → SlAt encI 1 W A l → (∀ b off,A = some ⟨b,off,none⟩ → b ∉ T) →
  Calls Tryz.prog fd (#[.slice A n c] ++ caps) W fun e W' => e = .returned (ansV ans) ∧ ∃ T',J (told ++ [l]) T' W' ∧ Keep T W W' ∧ ∀ x ∈ T',x ∈ T ∨ W.heap.size ≤ x
structure PlH (J : List (List Int) → List Nat → World → Prop) (F : World → Prop) (TF : List Nat) (told : List (List Int)) (T : List Nat) (v : Value) (n : Nat) (xs : List Int) (W : World) : Prop where
 f : F W
 j : J told T W
 own : W.ownsRow 0 3 1 v n (xs.flatMap encI)
 tf : ∀ x ∈ TF,x < W.heap.size ∧ x ∉ T
 vf : ∀ x,v.ownBlock = some x → x ∉ TF ∧ x ∉ T
structure PlI (J : List (List Int) → List Nat → World → Prop) (T : List Nat) (v : Value) (n : Nat) (xs : List Int) (w : World) (told : List (List Int)) (W : World) : Prop where
 j : ∃ Tc,J told Tc W ∧ ∀ x ∈ Tc,x ∈ T ∨ w.heap.size ≤ x
 own : W.ownsRow 0 3 1 v n (xs.flatMap encI)
 keep : Keep (T ++ v.ownBlock.toList) w W
section
variable {J : List (List Int) → List Nat → World → Prop} {F : World → Prop} {TF : List Nat} {told : List (List Int)} {T : List Nat} {v : Value} {n : Nat} {xs : List Int} {w W : World}
theorem PlH.start (h : PlH J F TF told T v n xs w) : PlI J T v n xs w told w := ⟨⟨T,h.j,fun _ h => .inl h⟩,h.own,Keep.refl _ _⟩
theorem PlH.fix (h : PlH J F TF told T v n xs w) (hF : ∀ S W W',F W → Keep S W W' → (∀ x ∈ S,x ∉ TF) → F W') {told' : List (List Int)} (k : PlI J T v n xs w told' W) : F W := hF _ _ _ h.f k.keep fun x hx => by
 rcases List.mem_append.1 hx with hx | hx
 ·exact fun hm => (h.tf x hm).2 hx
 ·exact (h.vf x (by simpa using hx)).1
theorem PlI.ext {W' : World} (hJ : ∀ k T W W' S,J k T W → Keep S W W' → (∀ x ∈ S,x ∉ T) → J k T W') {told' : List (List Int)} (k : PlI J T v n xs w told' W) (hx : Ext W W') : PlI J T v n xs w told' W' := by
 obtain ⟨Tc,h1,h2⟩ := k.j
 exact ⟨⟨Tc,hJ _ _ _ _ [] h1 (hx.keep []) (by simp),h2⟩,own_keep k.own (hx.keep []) (by simp),k.keep.of_new (hx.keep []) (by simp)⟩
theorem PlH.step (h : PlH J F TF told T v n xs w) (hF : ∀ S W W',F W → Keep S W W' → (∀ x ∈ S,x ∉ TF) → F W') (hJ : ∀ k T W W' S,J k T W → Keep S W W' → (∀ x ∈ S,x ∉ T) → J k T W') (hl : ∀ k T W,J k T W → ∀ x ∈ T,x < W.heap.size)
  (hn : n = xs.length) {told' : List (List Int)} (k : PlI J T v n xs w told' W) {y w6 : World} {v' : Value} {x : Int} (hx : Ext W y) (ho' : w6.ownsRow 0 3 1 v' (n + 1) ((xs ++ [x]).flatMap encI)) (ho : w6.ownsRow 0 3 1 v n (xs.flatMap encI)) (hg : y.grownBy w6 v.ownBlock) (hG : Grew v v' n y.heap.size) :
  ∃ Tc,PlH J F TF told' Tc v' (n + 1) (xs ++ [x]) w6 ∧ ∀ W7 told'',PlI J Tc v' (n + 1) (xs ++ [x]) w6 told'' W7 → PlI J T v n xs w told'' W7 := by
 have hf := h.fix hF k
 obtain ⟨Tc,h1,h2⟩ := k.j
 have hsz := k.keep.size
 have hsx := Below.size hx
 have hvw : ∀ g,v.ownBlock = some g → g < w.heap.size := fun g hg => (own_base h.own hg).2.1
 have hvT : ∀ g,v.ownBlock = some g → g ∉ Tc := fun g hg hm => by
  rcases h2 g hm with h3 | h3
  ·exact (h.vf g hg).2 h3
  ·have := hvw g hg
   omega
 have hTc := hl _ _ _ h1
 have k6 : Keep v.ownBlock.toList W w6 := (hx.keep _).trans (Keep.of_grown hg)
 have hj6 : J told' Tc w6 := hJ _ _ _ _ _ h1 k6 fun g hg => hvT g (by simpa using hg)
 have hv' : ∀ g,v'.ownBlock = some g → v.ownBlock = some g ∨ g = y.heap.size := fun g hg' => by
  rcases hG.at with e | e
  ·exact .inl (by rw [← e,hg'])
  ·rw [hg'] at e
   exact .inr (by injection e)
 refine ⟨Tc,⟨hF _ _ _ hf k6 fun g hg => (h.vf g (by simpa using hg)).1,hj6,ho',fun g hg => ⟨?_,fun hm => ?_⟩,fun g hg => ⟨fun hm => ?_,fun hm => ?_⟩⟩,fun W7 told'' q => ?_⟩
 ·have := (h.tf g hg).1
  have := k6.size
  omega
 ·rcases h2 g hm with h3 | h3
  ·exact (h.tf g hg).2 h3
  ·have := (h.tf g hg).1
   omega
 ·rcases hv' g hg with e | e
  ·exact (h.vf g e).1 hm
  ·have := (h.tf g hm).1
   omega
 ·rcases hv' g hg with e | e
  ·exact hvT g e hm
  ·have := hTc g hm
   omega
 ·obtain ⟨T7,q1,q2⟩ := q.j
  have h6 := k6.size
  refine ⟨⟨T7,q1,fun g hg => ?_⟩, ?_, ?_⟩
  ·rcases q2 g hg with h3 | h3
   ·exact h2 g h3
   ·exact .inr (by omega)
  ·refine hG.back ho q.own hn q.keep fun g hg hne hm => ?_
   rcases List.mem_append.1 hm with hm | hm
   ·exact hvT g hg hm
   ·exact hne (by simpa using hm)
  ·refine (k.keep.of_new k6 fun g hg => .inl (List.mem_append.2 (.inr hg))).of_new q.keep fun g hg => ?_
   rcases List.mem_append.1 hg with hg | hg
   ·rcases h2 g hg with h3 | h3
    ·exact .inl (List.mem_append.2 (.inl h3))
    ·exact .inr h3
   ·rcases hv' g (by simpa using hg) with e | e
    ·exact .inl (List.mem_append.2 (.inr (by simp [e])))
    ·exact .inr (by omega)
theorem PlH.tell (h : PlH J F TF told T v n xs w) {W' : World} {T' : List Nat} {l : List Int} (h1 : J (told ++ [l]) T' W') (hk : Keep T w W') (h2 : ∀ x ∈ T',x ∈ T ∨ w.heap.size ≤ x) : PlI J T v n xs w (told ++ [l]) W' :=
 ⟨⟨T',h1,h2⟩,own_keep h.own hk fun g hg e => (h.vf g e).2 hg,hk.mono fun _ hx => List.mem_append.2 (.inl hx)⟩
end
end Go.Proofs.YtbpeemhfjgcnaaaGreat
namespace Go.Proofs.YtbpeemhfjgcnaaaGreat
open Go Go.RowKit Go.Shelf
attribute [local go_sem] qUpon lUpon
attribute [local irreducible] wpO wpX wpQL
structure FxN (b2 b3 b4 b5 : Nat) (Av : Option Addr) (nv cv : Nat) (ws : List (Int × Thing)) (fd : Nat) (caps : Array Value) (W : World) : Prop where
 c2 : Blk W b2 82 #[.slice Av nv cv]
 c3 : Blk W b3 95 #[.func (.func fd) #[] caps]
 c4 : Blk W b4 134 #[.func (.func 71) #[] #[]]
 c5 : Blk W b5 136 #[.func (.func 75) #[] #[.pointer (some ⟨b2,0,none⟩), .pointer (some ⟨b3,0,none⟩), .pointer (some ⟨b4,0,none⟩), .pointer (some ⟨b5,0,none⟩)]]
 vs : SlAt encV 3 W Av ws
def blkA : Option Addr → List Nat
 | some a => [a.block]
 | none => []
def tfN (b2 b3 b4 b5 : Nat) (Av : Option Addr) : List Nat := b2 :: b3 :: b4 :: b5 :: blkA Av
theorem FxN.keep {b2 b3 b4 b5 nv cv fd : Nat} {Av : Option Addr} {ws : List (Int × Thing)} {caps : Array Value} : ∀ S W W',FxN b2 b3 b4 b5 Av nv cv ws fd caps W → Keep S W W' → (∀ x ∈ S,x ∉ tfN b2 b3 b4 b5 Av) → FxN b2 b3 b4 b5 Av nv cv ws fd caps W' := by
 intro S W W' h hk hS
 refine ⟨h.c2.keep hk fun hm => hS _ hm (by simp [tfN]),h.c3.keep hk fun hm => hS _ hm (by simp [tfN]),h.c4.keep hk fun hm => hS _ hm (by simp [tfN]),h.c5.keep hk fun hm => hS _ hm (by simp [tfN]),h.vs.keepS hk fun b off e hm => hS b hm ?_⟩
 subst e
 simp [tfN,blkA]
def UsedI (ws : List (Int × Thing)) (u : Nat) (xs : List Int) : Prop := ∀ i (h : i < ws.length),u.testBit i = decide (ws[i].1 ∈ xs)
theorem UsedI.add {ws : List (Int × Thing)} {u : Nat} {xs : List Int} (h : UsedI ws u xs) (hn : (ws.map (·.1)).Nodup) {i : Nat} (hi : i < ws.length) : UsedI ws (u ||| 2 ^ i) (xs ++ [ws[i].1]) := by
 intro j hj
 rw [Nat.testBit_or,h j hj,Nat.testBit_two_pow,Bool.eq_iff_iff]
 simp only [Bool.or_eq_true,decide_eq_true_eq,List.mem_append,List.mem_singleton]
 constructor
 ·rintro (h1 | h1)
  ·exact .inl h1
  ·subst h1; exact .inr rfl
 ·rintro (h1 | h1)
  ·exact .inl h1
  ·refine .inr ?_
   have h2 : (ws.map (·.1))[i]'(by simpa using hi) = (ws.map (·.1))[j]'(by simpa using hj) := by simp [h1]
   exact (List.getElem_inj hn).1 h2
theorem okM_num {V : List (Int × Thing)} {ws : List (Int × Thing)} (hth : ∀ p ∈ ws,thV V p.1 = p.2) {xs : List Int} {n : Nat} (hxn : n = xs.length) (hn : n < ws.length) {i : Nat} (hi : i < ws.length) : okM V [] (ws.map (·.1)) V [] xs ws[i].1 = (decide (ws[i].1 ∉ xs) && decide (ws[i].2 = ws[n].2)) := by
 subst hxn
 unfold okM
 have h1 : (ws.map (·.1)).getD xs.length 0 = ws[xs.length].1 := by
  rw [List.getD_eq_getElem?_getD,List.getElem?_map,List.getElem?_eq_getElem hn]
  rfl
 rw [h1,hth _ (List.getElem_mem hi),hth _ (List.getElem_mem hn)]
 have h2 : ((List.range xs.length).all fun i_1 => decide (betE [] ((ws.map (·.1)).getD i_1 0) ws[xs.length].1 = betE [] (xs.getD i_1 0) ws[i].1)) = true := List.all_eq_true.2 fun x _ => by simp [betE]
 rw [h2,Bool.and_true]
def numT (V : List (Int × Thing)) (wi : List Int) (f : Nat) (xs : List Int) (i : Nat) : List (List Int) := ((wi.take i).filter (okM V [] wi V [] xs)).flatMap fun u => extL V [] wi V [] wi f (xs ++ [u])
theorem numT_zero {V : List (Int × Thing)} {wi : List Int} {f : Nat} {xs : List Int} : numT V wi f xs 0 = [] := rfl
theorem numT_full {V : List (Int × Thing)} {wi : List Int} {f : Nat} {xs : List Int} {n : Nat} (hn : wi.length ≤ n) : numT V wi f xs n = extL V [] wi V [] wi (f + 1) xs := by
 unfold numT
 rw [List.take_of_length_le hn]
 rfl
theorem numT_no {V : List (Int × Thing)} {wi : List Int} {f : Nat} {xs : List Int} {i : Nat} (hi : i < wi.length) (h : okM V [] wi V [] xs wi[i] = false) : numT V wi f xs (i + 1) = numT V wi f xs i := by
 unfold numT
 rw [List.take_succ_eq_append_getElem hi,List.filter_append,List.filter_cons,List.filter_nil,h]
 simp
theorem numT_yes {V : List (Int × Thing)} {wi : List Int} {f : Nat} {xs : List Int} {i : Nat} (hi : i < wi.length) (h : okM V [] wi V [] xs wi[i] = true) : numT V wi f xs (i + 1) = numT V wi f xs i ++ extL V [] wi V [] wi f (xs ++ [wi[i]]) := by
 unfold numT
 rw [List.take_succ_eq_append_getElem hi,List.filter_append,List.filter_cons,List.filter_nil,h]
 simp
def PlPost (J : List (List Int) → List Nat → World → Prop) (T : List Nat) (v : Value) (n : Nat) (xs : List Int) (w : World) (told : List (List Int)) (e : Ending) (w' : World) : Prop := e = .returned (.tuple #[]) ∧ PlI J T v n xs w told w'
theorem kind_ext (x y : Int × Thing) (w : World) : Calls Tryz.prog 71 #[.agg #[.int .i64 x.1, .int .u8 x.2.1, .int .i64 x.2.2], .agg #[.int .i64 y.1, .int .u8 y.2.1, .int .i64 y.2.2]] w fun e w' => e = .returned (.int .i64 (cmpT x.2 y.2)) ∧ Ext w w' := (kind_any x.1 x.2.1 x.2.2 y.1 y.2.1 y.2.2 w).mono fun _ _ h => ⟨h.1,h.2.ext⟩
set_option maxRecDepth 100000 in
set_option maxHeartbeats 16000000 in
theorem place_end {b2 b3 b4 b5 nv cv fd : Nat} {Av : Option Addr} {ws : List (Int × Thing)} {caps : Array Value} {J : List (List Int) → List Nat → World → Prop} (hC : Tell fd caps none nv J) (hnv : nv = ws.length) (told : List (List Int)) (T : List Nat) (w : World) (A : Option Addr) (n c : Nat) (xs : List Int) (u : Nat) (h : PlH J (FxN b2 b3 b4 b5 Av nv cv ws fd caps) (tfN b2 b3 b4 b5 Av) told T (.slice A n c) n xs w) (hn : n = xs.length) (hf : n = nv) :
  Calls Tryz.prog 75 (#[.slice A n c, .int .i64 u] ++ #[.pointer (some ⟨b2,0,none⟩), .pointer (some ⟨b3,0,none⟩), .pointer (some ⟨b4,0,none⟩), .pointer (some ⟨b5,0,none⟩)]) w (PlPost J T (.slice A n c) n xs w (told ++ [xs])) := by
 have h' := hide h
 have hn' := hide hn
 have hC' := hide hC
 have hen := hC.enters
 have e2 := h.f.c2.cells 0 (v := .slice Av nv cv) rfl
 have e3 := h.f.c3.cells 0 (v := .func (.func fd) #[] caps) rfl
 have hself := Ext.refl w
 have hq : ((n : Int) == (nv : Int)) = true := by rw [hf]; simp
 have hf' := hide hf
 clear h hn hC hf
 rw [show (#[Value.slice A n c, .int .i64 u] ++ #[.pointer (some ⟨b2,0,none⟩), .pointer (some ⟨b3,0,none⟩), .pointer (some ⟨b4,0,none⟩), .pointer (some ⟨b5,0,none⟩)] : Array Value) = #[.slice A n c, .int .i64 u, .pointer (some ⟨b2,0,none⟩), .pointer (some ⟨b3,0,none⟩), .pointer (some ⟨b4,0,none⟩), .pointer (some ⟨b5,0,none⟩)] from rfl]
 have hP := hide (Sp.new w)
 refine callsIn_wide.1 (callsIn_of_wp_marks (n := 0) Tryz.func75 rfl trivial (wpIn_wide.2 ?_))
 simp only [Tryz.ntmps75,List.size_toArray,List.length_cons,List.length_nil,Nat.reduceAdd,Nat.reduceSub,Array.replicate_succ,Array.replicate_zero,List.push_toArray,List.append_toArray,List.nil_append,List.cons_append]
 try dsimp only
 repeat ((fail_if_success (with_reducible refine wp_reg (id := 0) ?_)); (first | go_values | go_skip | go_step | go_guarded | go_upon | go_in | go_back | fail))
 with_reducible refine wp_reg (id := 0) ?_
 iterate 5
  refine wpO_want rfl ?_
  go_simp
 refine wpO_done ?_
 try go_frame
 try dsimp only
 repeat ((fail_if_success (with_reducible refine wp_reg (id := 1) ?_)); (first | go_values | go_skip | go_step | go_guarded | go_upon | go_in | go_back | fail))
 with_reducible refine wp_reg (id := 1) ?_
 iterate 3
  refine wpO_want rfl ?_
  go_simp
 have hst := (unhide hC').step told xs T w A n c (unhide h').j (unhide hn') (unhide hf') (own_cap (unhide h').own) (own_at (by have h := (unhide h').own; rw [unhide hn'] at h; exact h) (fun _ => rfl)) (fun b off e => ((unhide h').vf b (by rw [e]; rfl)).2)
 refine hst.mono ?_
 rintro _ W' ⟨rfl,T',h1,h2,h3⟩
 refine ⟨_,rfl, ?_⟩
 have hfin := hide (PlH.tell (unhide h') h1 h2 h3)
 clear h1 h2 h3 hst e2 e3 hself
 refine wpO_done ?_
 try go_frame
 go_wp2_with fail
 refine Sp.leaves0 ?_
 exact ⟨_,results_none rfl _ _ _,rfl,unhide hfin⟩
end Go.Proofs.YtbpeemhfjgcnaaaGreat
