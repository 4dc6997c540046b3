/- Parts of a proof, laid together. Each part says its own conditions. -/
import Derived.Test.YtbpeemhfjgcnaaaGreatC31
import Derived.Test.YtbpeemhfjgcnaaaGreatC33
import Derived.Test.YtbpeemhfjgcnaaaGreatC24
import Derived.Test.YtbpeemhfjgcnaaaGreatC21
import Derived.Test.YtbpeemhfjgcnaaaGreatC16
import Derived.Test.YtbpeemhfjgcnaaaGreatC17
namespace Go.Proofs.YtbpeemhfjgcnaaaGreat
open Go Go.RowKit Go.Shelf
attribute [local go_sem] qUpon lUpon
attribute [local irreducible] wpO wpX wpQL
def wrS : List Int → List Int → Int
 | _,[] => 0
 | s,x :: r => if x < 0 ∨ 1023 < x then 2 else if x ∈ s then 7 else wrS (s ++ [x]) r
theorem wrS_cons (s : List Int) (x : Int) (r : List Int) : wrS s (x :: r) = if x < 0 ∨ 1023 < x then 2 else if x ∈ s then 7 else wrS (s ++ [x]) r := rfl
def wrT (V : List (Int × Thing)) (to : List Int) : Int := if to.length = V.length then wrS [] to else 3
theorem wrS_ok : ∀ (r s : List Int),s.Nodup → (∀ x ∈ s,0 ≤ x ∧ x ≤ 1023) → (wrS s r = 0 ↔ (s ++ r).Nodup ∧ ∀ x ∈ s ++ r,0 ≤ x ∧ x ≤ 1023)
 | [],s,h1,h2 => by simp only [wrS,List.append_nil,true_iff]; exact ⟨h1,h2⟩
 | x :: r,s,h1,h2 => by
  unfold wrS
  by_cases ha : x < 0 ∨ 1023 < x
  ·rw [if_pos ha]
   refine ⟨fun h => by omega,fun h => ?_⟩
   have := h.2 x (by simp)
   omega
  ·rw [if_neg ha]
   by_cases hb : x ∈ s
   ·rw [if_pos hb]
    refine ⟨fun h => by omega,fun h => ?_⟩
    exact absurd rfl ((List.nodup_append.1 h.1).2.2 x hb x (by simp))
   ·rw [if_neg hb]
    have h3 : (s ++ [x]).Nodup := List.nodup_append.2 ⟨h1,by simp,fun a ha9 b hb' e => by simp at hb'; subst hb'; subst e; exact hb ha9⟩
    rw [wrS_ok r (s ++ [x]) h3 (fun y hy => by
     rcases List.mem_append.1 hy with hy | hy
     ·exact h2 y hy
     ·simp at hy; omega)]
    simp only [List.append_assoc,List.cons_append,List.nil_append]
theorem wrT_ok {V : List (Int × Thing)} {to : List Int} : wrT V to = 0 ↔ OkTo V to := by
 unfold wrT
 by_cases h : to.length = V.length
 ·rw [if_pos h,wrS_ok to [] .nil (by simp)]
  exact ⟨fun k => ⟨h,k.1,k.2⟩,fun k => ⟨k.nd,k.rng⟩⟩
 ·rw [if_neg h]
  exact ⟨fun k => by omega,fun k => absurd k.len h⟩
theorem flat_set {α : Type} {enc : α → List Value} {k : Nat} (hk : ∀ x,(enc x).length = k) {j : Nat} {v : Value} (hj : j < k) (y : α) : ∀ (ys : List α) (i : Nat) (h : i < ys.length),enc y = (enc ys[i]).set j v → (ys.flatMap enc).set (i * k + j) v = (ys.set i y).flatMap enc
 | x :: r,0,_,e => by
  simp only [List.getElem_cons_zero] at e
  rw [List.set_cons_zero,List.flatMap_cons,List.flatMap_cons,Nat.zero_mul,Nat.zero_add,List.set_append,if_pos (by rw [hk]; exact hj),e]
 | x :: r,i + 1,h,e => by
  simp only [List.getElem_cons_succ] at e
  rw [List.set_cons_succ,List.flatMap_cons,List.flatMap_cons,List.set_append,if_neg (by rw [hk,Nat.add_mul]; omega),hk,show (i + 1) * k + j - k = i * k + j by rw [Nat.add_mul]; omega,flat_set hk hj y r i (by simpa using h) e]
def mixL {α : Type} (f : Nat → α → α) (l : List α) (i : Nat) : List α := ((l.take i).mapIdx f) ++ l.drop i
theorem mixL_zero {α : Type} (f : Nat → α → α) (l : List α) : mixL f l 0 = l := by simp [mixL]
theorem mixL_full {α : Type} (f : Nat → α → α) (l : List α) : mixL f l l.length = l.mapIdx f := by simp [mixL]
theorem mixL_len {α : Type} (f : Nat → α → α) (l : List α) (i : Nat) : (mixL f l i).length = l.length := by
 unfold mixL
 rw [List.length_append,List.length_mapIdx,List.length_take,List.length_drop]
 omega
theorem mixL_get? {α : Type} (f : Nat → α → α) (l : List α) (i : Nat) (h : i < l.length) : (mixL f l i)[i]? = some l[i] := by
 unfold mixL
 rw [List.getElem?_append_right (by rw [List.length_mapIdx,List.length_take]; omega),List.length_mapIdx,List.length_take,Nat.min_eq_left (Nat.le_of_lt h),Nat.sub_self,List.getElem?_drop,Nat.add_zero,List.getElem?_eq_getElem h]
theorem mixL_get {α : Type} (f : Nat → α → α) (l : List α) (i : Nat) (h : i < l.length) (h2 : i < (mixL f l i).length) : (mixL f l i)[i] = l[i] := Option.some.inj ((List.getElem?_eq_getElem h2).symm.trans (mixL_get? f l i h))
theorem mixL_step {α : Type} (f : Nat → α → α) (l : List α) (i : Nat) (h : i < l.length) : (mixL f l i).set i (f i l[i]) = mixL f l (i + 1) := by
 unfold mixL
 rw [List.set_append,if_neg (by rw [List.length_mapIdx,List.length_take]; omega),List.length_mapIdx,List.length_take,Nat.min_eq_left (Nat.le_of_lt h),Nat.sub_self,List.drop_eq_getElem_cons h,List.set_cons_zero,List.take_succ_eq_append_getElem h,List.mapIdx_concat,List.length_take,Nat.min_eq_left (Nat.le_of_lt h),List.append_assoc]
 rfl
def renF (to : List Int) (i : Nat) (p : Int × Thing) : Int × Thing := (to.getD i 0,p.2)
def renG (ids to : List Int) (_ : Nat) (e : (Int × Int) × Thing) : (Int × Int) × Thing := ((tr ids to e.1.1,tr ids to e.1.2),e.2)
theorem renV_idx {V : List (Int × Thing)} {to : List Int} (h : to.length = V.length) : V.mapIdx (renF to) = renV V to := by
 unfold renV
 apply List.ext_getElem
 ·rw [List.length_mapIdx,List.length_zipWith,h,Nat.min_self]
 ·intro i h1 h2
  rw [List.getElem_mapIdx,List.getElem_zipWith]
  unfold renF
  rw [getD_at (by rw [h]; simpa using h1)]
theorem renE_idx (E : List ((Int × Int) × Thing)) (ids to : List Int) : E.mapIdx (renG ids to) = renE E ids to := by
 unfold renE
 apply List.ext_getElem
 ·rw [List.length_mapIdx,List.length_map]
 ·intro i h1 h2
  rw [List.getElem_mapIdx,List.getElem_map]
  rfl
def tkB (s : List Int) : List (Int × Bool) := s.map fun y => (y,true)
theorem tkB_look (s : List Int) (x : Int) : (lookM (tkB s) x).getD false = decide (x ∈ s) := by
 by_cases h : x ∈ s
 ·have : lookM (tkB s) x = some true := by
   unfold lookM
   cases hf : (tkB s).find? fun p => decide (p.1 = x) with
   | none =>
    have := List.find?_eq_none.1 hf (x,true) (List.mem_map.2 ⟨x,h,rfl⟩)
    simp at this
   | some p =>
    obtain ⟨y,_,rfl⟩ := List.mem_map.1 (List.mem_of_find?_eq_some hf)
    rfl
  rw [this,decide_eq_true h]; rfl
 ·have : lookM (tkB s) x = none := lookM_none.2 fun p hp => by
   obtain ⟨y,hy,rfl⟩ := List.mem_map.1 hp
   exact fun e => h (e ▸ hy)
  rw [this,decide_eq_false h]; rfl
theorem putM_app {κ τ : Type} [DecidableEq κ] {m : List (κ × τ)} {x : κ} {v : τ} (h : ∀ p ∈ m,p.1 ≠ x) : putM m x v = m ++ [(x,v)] := by
 unfold putM
 rw [lookM_none.2 h]
 rfl
theorem tkB_put {s : List Int} {x : Int} (h : x ∉ s) : putM (tkB s) x true = tkB (s ++ [x]) := by
 rw [putM_app fun p hp => by
  obtain ⟨y,hy,rfl⟩ := List.mem_map.1 hp
  exact fun e => h (e ▸ hy)]
 simp [tkB]
theorem zip_put {x y : List Int} (hn : x.Nodup) (hl : x.length = y.length) {i : Nat} (h : i < x.length) (h2 : i < y.length) : putM ((x.take i).zip (y.take i)) x[i] y[i] = (x.take (i + 1)).zip (y.take (i + 1)) := by
 rw [putM_app fun p hp e => by
  obtain ⟨j,hj,hx⟩ := List.mem_iff_getElem.1 (List.of_mem_zip hp).1
  rw [List.getElem_take] at hx
  rw [List.length_take] at hj
  have := (List.getElem_inj hn).1 (hx.trans e)
  omega,List.take_succ_eq_append_getElem h,List.take_succ_eq_append_getElem h2,List.zip_append (by rw [List.length_take,List.length_take,hl])]
 rfl
theorem zip_look : ∀ {x y : List Int} (_ : x.length = y.length) (u : Int),(lookM (x.zip y) u).getD 0 = tr x y u
 | [],[],_,u => rfl
 | a :: x,b :: y,hl,u => by
  unfold lookM tr
  rw [List.zip_cons_cons,List.find?_cons,List.idxOf_cons]
  by_cases h : a = u
  ·simp [h]
  ·have h2 : (a == u) = false := by simp [h]
   simp only [h,decide_false,h2,cond_false]
   have := zip_look (x := x) (y := y) (by simpa using hl) u
   unfold lookM tr at this
   rw [List.getD_cons_succ]
   exact this
def RelPost (V : List (Int × Thing)) (E : List ((Int × Int) × Thing)) (to : List Int) (w : World) (e : Ending) (w' : World) : Prop :=
 (wrT V to ≠ 0 ∧ e = .returned (.tuple #[.pointer none, .int .i64 (wrT V to)]) ∧ Ext w w') ∨
 (OkTo V to ∧ ∃ g bv be V2 E2,IsRen V E to V2 E2 ∧ e = .returned (.tuple #[.pointer (some ⟨g,0,none⟩), .int .i64 0]) ∧ IsG w' g bv be V2 E2 ∧ Ext w w' ∧ w.heap.size ≤ g ∧ w.heap.size ≤ bv ∧ w.heap.size ≤ be)
theorem RelPost.bad {V : List (Int × Thing)} {E : List ((Int × Int) × Thing)} {to : List Int} {w w' : World} {z : Int} (h : wrT V to = z) (hz : z ≠ 0) (hx : Ext w w') : RelPost V E to w (.returned (.tuple #[.pointer none, .int .i64 z])) w' := .inl ⟨by rw [h]; exact hz,by rw [h],hx⟩
theorem own_zero {w : World} {base T k n c : Nat} {A : Option Addr} {xs : List Value} (h : w.ownsRow base T k (.slice A n c) n xs) (hn : n ≠ 0) : ∃ b,A = some ⟨b,0,none⟩ := by
 obtain ⟨_,h | ⟨g,cap,cur,hv,_⟩⟩ := h
 ·exact absurd h.2 hn
 ·injection hv with hv
  exact ⟨g,hv⟩
theorem run_store_ownC {P : Program} {ρ : Operand → Value} {o : Oper} {t : TypeId} {p x : Operand} {w : World} {base T k cap n b q : Nat} {xs : List Value} {v : Value} (ho : o.op = .store t p x) (hp : ρ p = .pointer (some ⟨b,q,none⟩)) (hx : ρ x = v) (hcl : v.cells = #[v]) (h1c : v.oneCell' = true) (hs : (sizeOf t).run P w = .ok 1 w)
  (hown : w.ownsRow base T k (.slice (some ⟨b,0,none⟩) n cap) n xs) (hi : q < xs.length) :
  ∃ cs,(execOp ρ o).run P w = .ok .skip (w.setRow b cs) ∧ (w.setRow b cs).ownsRow base T k (.slice (some ⟨b,0,none⟩) n cap) n (xs.set q v) ∧ w.grownBy (w.setRow b cs) (some b) := by
 obtain ⟨hlen,h | ⟨g,cap',cur,hv,hb,hg,hn,hm,hsz,htk⟩⟩ := hown
 ·cases h.1
 ·injection hv with hv1 _ hv2
  injection hv1 with hv1
  injection hv1 with hv1 _
  subst hv1
  subst hv2
  have hic : q < cur.size := by
   have h1 : xs.length ≤ cur.toList.length := by rw [← htk,List.length_take]; exact Nat.min_le_right _ _
   have h2 : cur.toList.length = cur.size := rfl
   omega
  have hst := run_storeCells_at (P := P) b q T [v] 0 cur w hg (by simp; omega) (fun u hv => by simp at hv; subst hv; exact h1c)
  rw [Nat.add_zero] at hst
  refine ⟨(cur.toList.take q ++ [v] ++ cur.toList.drop (q + 1)).toArray, ?_, ?_, ?_⟩
  ·unfold execOp
   simp only [ho,hp,hx]
   simp only [List.length_cons,List.length_nil,Nat.zero_add] at hst
   simp [Instr.storeAt,Instr.sureAddr,storeVar,hs,hst,hcl,Result.andThen]
  ·have he2 : cur.toList.take q ++ [v] ++ cur.toList.drop (q + 1) = cur.toList.set q v := by
    rw [List.set_eq_take_append_cons_drop,if_pos (by simpa using hic)]
    simp
   rw [he2]
   refine ⟨by rw [List.length_set]; exact hlen, .inr ⟨b,cap,_,rfl,hb,Blk.row (w := w) (b := b) (t := T) (cs := cur) hg _,hn,hm,by simpa using hsz, ?_⟩⟩
   rw [← htk,List.toList_toArray,List.take_set]
  ·exact ⟨rfl,rfl,rfl,by simp [World.setRow],fun k _ hne => setRow_other w b k _ (fun e => hne (by rw [e]))⟩
theorem Sp.putC {P : Program} {wf : World} {T0 : List Nat} {w W : World} {ds : List Deferred} {L : List Cl} {Rs : List Rw} {l : List Oper} {K : Act → World → Prop} {r : List Oper} {o : Oper} {a : Act} (h : Sp wf T0 w ds L Rs W) (i : Nat) {T k n b cap q : Nat} {xs : List Value} (xs' : List Value) (hi : Rs[i]? = some (T,k, .slice (some ⟨b,0,none⟩) n cap,n,xs)) (hk0 : k ≠ 0) (hw : Region.wanted o (yielded l.toArray a.tmps) = true)
  {t : TypeId} {p x : Operand} {v : Value} (ho : o.op = .store t p x) (hp : a.eval p = .pointer (some ⟨b,q,none⟩)) (hx : a.eval x = v) (hcl : v.cells = #[v]) (h1c : v.oneCell' = true) (hz : (sizeOf t).run P W = .ok 1 W) (hq : q < xs.length) (he : xs.set q v = xs')
  (hk : ∀ W',Sp wf T0 w ds L (Rs.set i (T,k, .slice (some ⟨b,0,none⟩) n cap,n,xs')) W' → wpO P l K r (a.put o.dst undef) W') : wpO P l K (o :: r) a W := by
 obtain ⟨cs,h1,h2,h3⟩ := run_store_ownC (P := P) ho hp hx hcl h1c hz (h.row i hi hk0) hq
 rw [he] at h2
 exact wpO_skip hw h1 (hk _ (h.push i hk0 hi (Ext.refl W) h2 h3 (.inl rfl)))
theorem ids_rng9 {V : List (Int × Thing)} {E : List ((Int × Int) × Thing)} (hi : GInv V E) {i : Nat} (h : i < (idsV V).length) : 0 ≤ (idsV V)[i] ∧ (idsV V)[i] < 1024 := by
 obtain ⟨p,hp,e⟩ := List.mem_map.1 (List.getElem_mem h)
 have := hi.ids p hp
 rw [← e]
 unfold idB at this
 simpa using this
def evJ (n : Int) : Value := .int .i64 n
def evB (b : Bool) : Value := .bool b
theorem zeroJ (w : World) : (zeroValue 3).run Tryz.prog w = .ok (evJ 0) w := by kernel_rfl
theorem zeroB (w : World) : (zeroValue 4).run Tryz.prog w = .ok (evB false) w := by kernel_rfl
theorem encV_len (x : Int × Thing) : (encV x).length = 3 := rfl
theorem encE_len (x : (Int × Int) × Thing) : (encE x).length = 4 := rfl
theorem flat_len {α : Type} {enc : α → List Value} {k : Nat} (hk : ∀ x,(enc x).length = k) : ∀ l : List α,(l.flatMap enc).length = l.length * k
 | [] => by simp
 | x :: r => by rw [List.flatMap_cons,List.length_append,hk,flat_len hk r,List.length_cons,Nat.add_mul]; omega
set_option maxRecDepth 100000 in
set_option maxHeartbeats 16000000 in
theorem relabel_any (g bv be : Nat) (V : List (Int × Thing)) (E : List ((Int × Int) × Thing)) (A : Option Addr) (to : List Int) (n cA : Nat) (w : World) (hg : IsG w g bv be V E) (hA : SlAt encI 1 w A to) (hn : n = to.length) (hok : ∀ x ∈ to,i64ok x) :
  Calls Tryz.prog 20 #[.pointer (some ⟨g,0,none⟩), .slice A n cA] w (RelPost V E to w) := by
 have hg' := hide hg
 have hA' := hide hA
 have hn' := hide hn
 have hok' := hide hok
 have hi := hide hg.inv
 have hv4 := hide hg.nV
 have he4 := hide hg.nE
 obtain ⟨nv,hnv0⟩ : ∃ nv,nv = V.length := ⟨_,rfl⟩
 obtain ⟨ne,hne0⟩ : ∃ ne,ne = E.length := ⟨_,rfl⟩
 have hnv := hide hnv0
 have hne := hide hne0
 clear hg hA hn hok hnv0 hne0
 have hP := hide (Sp.new w)
 refine callsIn_wide.1 (callsIn_of_wp_marks (n := 0) Tryz.func20 rfl trivial (wpIn_wide.2 ?_))
 simp only [Tryz.ntmps20,List.size_toArray,List.length_cons,List.length_nil,Nat.reduceAdd,Nat.reduceSub,Array.replicate_succ,Array.replicate_zero,List.push_toArray,List.append_toArray,List.nil_append,List.cons_append]
 try dsimp only
 repeat ((fail_if_success (with_reducible refine wp_reg (id := 0) ?_)); (first | go_values | go_skip | go_step | go_guarded | go_upon | go_in | go_back | fail))
 with_reducible refine wp_reg (id := 0) ?_
 iterate 2
  refine wpO_want rfl ?_
  go_simp
 refine wpO_done ?_
 try go_frame
 try dsimp only
 repeat ((fail_if_success (with_reducible refine wp_reg (id := 1) ?_)); (first | go_values | go_skip | go_step | go_guarded | go_upon | go_in | go_back | fail))
 with_reducible refine wp_reg (id := 1) ?_
 iterate 2
  refine wpO_want rfl ?_
  go_simp
 refine wpO_done ?_
 try go_frame
 try dsimp only
 repeat ((fail_if_success (with_reducible refine wp_reg (id := 3) ?_)); (first | go_values | go_skip | go_step | go_guarded | go_upon | go_in | go_back | fail))
 with_reducible refine wp_reg (id := 3) ?_
 refine wpO_want rfl ?_
 go_simp
 refine wpO_want rfl ?_
 go_simp
 have hca := vertices_rel g bv be V E w ((unhide hg').ext (unhide hP).extf)
 rw [← unhide hnv] at hca
 refine hca.mono ?_
 clear hca
 rintro _ y1 ⟨A1,c1,rfl,ho1,hxc⟩
 refine ⟨_,rfl, ?_⟩
 replace hP : Hid (Sp w [] w [] [] [(81,3, .slice A1 nv c1,nv,V.flatMap encV)] y1) := hide ((unhide hP).addRow hxc ho1)
 clear hxc ho1
 refine wpO_want rfl ?_
 go_simp
 refine wpO_want rfl ?_
 go_simp
 have hca := edges_rel g bv be V E y1 ((unhide hg').ext (unhide hP).extf)
 rw [← unhide hne] at hca
 refine hca.mono ?_
 clear hca
 rintro _ y2 ⟨B1,c2,rfl,ho1,hxc⟩
 refine ⟨_,rfl, ?_⟩
 replace hP : Hid (Sp w [] w [] [] [(81,3, .slice A1 nv c1,nv,V.flatMap encV),(84,4, .slice B1 ne c2,ne,E.flatMap encE)] y2) := hide ((unhide hP).addRow hxc ho1)
 clear hxc ho1
 iterate 2
  refine wpO_want rfl ?_
  go_simp
 refine wpO_done ?_
 try go_frame
 by_cases hlen : n = nv
 ·skip
  subst hlen
  have hq : ((n : Int) != (n : Int)) = false := by simp
  have hTl := hide (show to.length = V.length by rw [← unhide hn', ← unhide hnv])
  have hwT := hide (show wrT V to = wrS [] to by unfold wrT; rw [if_pos (unhide hTl)])
  try dsimp only
  repeat ((fail_if_success (with_reducible refine wp_reg (id := 4) ?_)); (first | go_values | go_skip | go_step | go_guarded | go_upon | go_in | go_back | fail))
  with_reducible refine wp_reg (id := 4) ?_
  iterate 5
   refine wpO_want rfl ?_
   go_simp
  refine wpO_done ?_
  try go_frame
  clear hq
  try dsimp only
  repeat ((fail_if_success (with_reducible refine wp_reg (id := 6) ?_)); (first | go_values | go_skip | go_step | go_guarded | go_upon | go_in | go_back | fail))
  with_reducible refine wp_reg (id := 6) ?_
  refine (unhide hP).mapNewO 104 0 rfl (run_makeMapO rfl) ?_
  intro b8 y3 hQ
  replace hP : Hid (Sp w [] w [] [] [(81,3, .slice A1 n c1,n,V.flatMap encV),(84,4, .slice B1 ne c2,ne,E.flatMap encE),(104,0, .map (some b8),0,[])] y3) := hide hQ
  clear hQ
  go_frame
  refine wpO_want rfl ?_
  go_simp
  refine wpO_done ?_
  try go_frame
  try dsimp only
  repeat ((fail_if_success (with_reducible refine wp_reg (id := 7) ?_)); (first | go_values | go_skip | go_step | go_guarded | go_upon | go_in | go_back | fail))
  with_reducible refine wp_reg (id := 7) ?_
  refine (unhide hP).mapNewO 105 0 rfl (run_makeMapO rfl) ?_
  intro b9 y4 hQ
  replace hP : Hid (Sp w [] w [] [] [(81,3, .slice A1 n c1,n,V.flatMap encV),(84,4, .slice B1 ne c2,ne,E.flatMap encE),(104,0, .map (some b8),0,[]),(105,0, .map (some b9),0,[])] y4) := hide hQ
  clear hQ
  go_frame
  refine wpO_want rfl ?_
  go_simp
  refine wpO_done ?_
  try go_frame
  try dsimp only
  repeat ((fail_if_success (with_reducible refine wp_reg (id := 8) ?_)); (first | go_values | go_skip | go_step | go_guarded | go_upon | go_in | go_back | fail))
  with_reducible refine wp_reg (id := 8) ?_
  iterate 3
   refine wpO_want rfl ?_
   go_simp
  refine wpO_done ?_
  try go_frame
  go_wp2_with fail
  obtain ⟨I4_4,hI4_40⟩ : ∃ I : Nat → Act → World → Prop,I = fun fi a' wr => ∃ (i : Nat),a'.tmps.size = 89 ∧ a'.tmps.getD 0 undef = .pointer (some ⟨g,0,none⟩) ∧ a'.tmps.getD 1 undef = .slice A n cA ∧ a'.tmps.getD 6 undef = .slice A1 n c1 ∧ a'.tmps.getD 7 undef = .slice B1 ne c2 ∧ a'.tmps.getD 8 undef = .map (some b8) ∧ a'.tmps.getD 9 undef = .map (some b9) ∧ a'.tmps.getD 27 undef = .slice A n cA ∧ a'.tmps.getD 28 undef = .int .i64 (n : Nat) ∧ a'.tmps.getD 29 undef = .int .i64 (i : Nat) ∧ a'.defers = [] ∧ i ≤ n ∧ wrS (to.take i) (to.drop i) = wrS [] to ∧ (to.take i).Nodup ∧ (∀ x ∈ to.take i,0 ≤ x ∧ x ≤ 1023) ∧ Sp w [] w [] [] [(81,3, .slice A1 n c1,n,(mixL (renF to) V i).flatMap encV),(84,4, .slice B1 ne c2,ne,E.flatMap encE),(104,0, .map (some b8),0,mapXs ekV evJ (((idsV V).take i).zip (to.take i))),(105,0, .map (some b9),0,mapXs ekV evB (tkB (to.take i)))] wr ∧ fi = n - i := ⟨_,rfl⟩
  have hI4_4 := hide hI4_40
  clear hI4_40
  refine wp_loop_ix I4_4 (n - 0) ?_ ?_
  ·rw [unhide hI4_4]; exact ⟨0,rfl,rfl,rfl,rfl,rfl,rfl,rfl,rfl,rfl,rfl,rfl,Nat.zero_le _,rfl,List.nodup_nil,(fun x hx => by cases hx),by rw [mixL_zero]; exact unhide hP,rfl⟩
  ·rintro fi ⟨tm,dfs⟩ wr hrel
   rw [unhide hI4_4] at hrel
   obtain ⟨i,hsz,e0,e1,e6,e7,e8,e9,e27,e28,e29,hdf,hin,hws,hnd,hrg,hPr,hfm⟩ := hrel
   obtain ⟨us,rfl⟩ : ∃ us : Nat → Value,tm = #[us 0,us 1,us 2,us 3,us 4,us 5,us 6,us 7,us 8,us 9,us 10,us 11,us 12,us 13,us 14,us 15,us 16,us 17,us 18,us 19,us 20,us 21,us 22,us 23,us 24,us 25,us 26,us 27,us 28,us 29,us 30,us 31,us 32,us 33,us 34,us 35,us 36,us 37,us 38,us 39,us 40,us 41,us 42,us 43,us 44,us 45,us 46,us 47,us 48,us 49,us 50,us 51,us 52,us 53,us 54,us 55,us 56,us 57,us 58,us 59,us 60,us 61,us 62,us 63,us 64,us 65,us 66,us 67,us 68,us 69,us 70,us 71,us 72,us 73,us 74,us 75,us 76,us 77,us 78,us 79,us 80,us 81,us 82,us 83,us 84,us 85,us 86,us 87,us 88] := ⟨fun i => tm.getD i undef,arr_fn hsz⟩
   have h0 : us 0 = .pointer (some ⟨g,0,none⟩) := e0
   have h1 : us 1 = .slice A n cA := e1
   have h6 : us 6 = .slice A1 n c1 := e6
   have h7 : us 7 = .slice B1 ne c2 := e7
   have h8 : us 8 = .map (some b8) := e8
   have h9 : us 9 = .map (some b9) := e9
   have h27 : us 27 = .slice A n cA := e27
   have h28 : us 28 = .int .i64 (n : Nat) := e28
   have h29 : us 29 = .int .i64 (i : Nat) := e29
   have hdf2 : dfs = [] := hdf
   subst hdf2
   clear hdf hsz e0 e1 e6 e7 e8 e9 e27 e28 e29
   simp only [h0,h1,h6,h7,h8,h9,h27,h28,h29]
   clear h0 h1 h6 h7 h8 h9 h27 h28 h29
   clear hP
   have hP := hide hPr
   have hfm' := hide hfm
   have hws' := hide hws
   have hnd' := hide hnd
   have hrg' := hide hrg
   clear hPr hfm hws hnd hrg
   by_cases hlt : i < n
   ·skip
    have hil : (i : Int) < (n : Int) := by omega
    have hiT : i < to.length := by have := unhide hn'; omega
    have hiV : i < V.length := by have := unhide hnv; omega
    have hiI : i < (idsV V).length := by rw [idsV_len]; exact hiV
    have hib : (i : Int) ≤ 100000 := by have := unhide hv4; have := unhide hnv; omega
    have hdr := hide (List.drop_eq_getElem_cons hiT)
    have htk := hide (List.take_succ_eq_append_getElem hiT)
    have hoz := unhide hok' _ (List.getElem_mem hiT)
    have hzp := hide (zip_put (y := to) (unhide hi).idsN (by rw [idsV_len]; exact (unhide hTl).symm) hiI hiT)
    have hst := hide (mixL_step (renF to) V i hiV)
    have hgd : to.getD i 0 = to[i] := getD_at hiT
    obtain ⟨x,hx0⟩ : ∃ x,x = to[i] := ⟨_,rfl⟩
    obtain ⟨⟨v0,lab,wt⟩,hp0⟩ : ∃ p,p = V[i] := ⟨_,rfl⟩
    have hvi : (idsV V)[i] = v0 := by simp [idsV, ← hp0]
    have hv0 := hide (show i64ok v0 from okK (by have := ids_rng9 (unhide hi) hiI; rw [hvi] at this; exact this))
    rw [← hx0] at hdr htk hzp hoz hgd
    rw [hvi] at hzp
    rw [← hp0] at hst
    simp only [renF,hgd] at hst
    have hox := hide hoz
    obtain ⟨ys,hys0⟩ : ∃ ys,ys = mixL (renF to) V i := ⟨_,rfl⟩
    obtain ⟨m0,hm0⟩ : ∃ m,m = ((idsV V).take i).zip (to.take i) := ⟨_,rfl⟩
    obtain ⟨s0,hs0⟩ : ∃ s,s = to.take i := ⟨_,rfl⟩
    have hyl := hide (show n = ys.length by rw [hys0,mixL_len]; exact unhide hnv)
    have hyi : i < ys.length := by rw [← unhide hyl]; exact hlt
    have hyg := hide (show ys[i] = (v0,(lab,wt)) by simp only [hys0]; rw [mixL_get _ _ _ hiV,hp0])
    have hmk := hide (show ∀ p ∈ m0,i64ok p.1 from fun p hp => by
     rw [hm0] at hp
     have h1 := List.mem_of_mem_take (List.of_mem_zip hp).1
     obtain ⟨j,hj,e⟩ := List.mem_iff_getElem.1 h1
     rw [← e]
     exact okK (ids_rng9 (unhide hi) hj))
    have hsk := hide (show ∀ p ∈ tkB s0,i64ok p.1 from fun p hp => by
     obtain ⟨y,hy,rfl⟩ := List.mem_map.1 hp
     have := unhide hrg' y (by rw [← hs0]; exact hy)
     exact okK ⟨this.1,by omega⟩)
    rw [← hm0] at hP hzp
    rw [← hs0] at hP hws' hnd' hrg' htk
    rw [← hys0] at hP hst
    obtain ⟨b,off,rfl,t0⟩ := atI ((unhide hA').ext (unhide hP).extf) hiT
    rw [← hx0] at t0
    have hself := Ext.refl wr
    have hlt' := hide hlt
    clear hx0 hp0 hvi hoz hgd hys0 hm0 hs0
    try dsimp only
    repeat ((fail_if_success (with_reducible refine wp_reg (id := 9) ?_)); (first | go_values | go_skip | go_step | go_guarded | go_upon | go_in | go_back | fail))
    with_reducible refine wp_reg (id := 9) ?_
    refine wpO_want rfl ?_
    go_simp
    refine wpO_done ?_
    try go_frame
    try dsimp only
    repeat ((fail_if_success (with_reducible refine wp_reg (id := 10) ?_)); (first | go_values | go_skip | go_step | go_guarded | go_upon | go_in | go_back | fail))
    with_reducible refine wp_reg (id := 10) ?_
    iterate 5
     refine wpO_want rfl ?_
     go_simp
    refine wpO_done ?_
    try go_frame
    clear t0
    by_cases hr1 : x < 0
    ·skip
     have hr1' := hide hr1
     try dsimp only
     repeat ((fail_if_success (with_reducible refine wp_reg (id := 11) ?_)); (first | go_values | go_skip | go_step | go_guarded | go_upon | go_in | go_back | fail))
     with_reducible refine wp_reg (id := 11) ?_
     iterate 3
      refine wpO_want rfl ?_
      go_simp
     refine wpO_out (by rfl) ?_
     go_frame
     refine wpO_out (by rfl) ?_
     go_frame
     iterate 2
      refine wpO_want rfl ?_
      go_simp
     refine wpO_done ?_
     try go_frame
     clear hr1
     try dsimp only
     repeat ((fail_if_success (with_reducible refine wp_reg (id := 12) ?_)); (first | go_values | go_skip | go_step | go_guarded | go_upon | go_in | go_back | fail))
     with_reducible refine wp_reg (id := 12) ?_
     iterate 2
      refine wpO_want rfl ?_
      go_simp
     refine wpO_done ?_
     try go_frame
     go_wp2_with fail
     have hwe : wrT V to = 2 := by
      rw [unhide hwT, ← unhide hws',unhide hdr]
      unfold wrS
      exact if_pos (.inl (unhide hr1'))
     refine Sp.leaves0 ?_
     exact ⟨_,results_tmp2 (t := 4) (u := 5) rfl _ _ _, .bad hwe (by decide) (unhide hP).extf⟩
    ·skip
     have hr1' := hide hr1
     by_cases hr2 : (1023:Int) < x
     ·skip
      have hr2' := hide hr2
      try dsimp only
      repeat ((fail_if_success (with_reducible refine wp_reg (id := 11) ?_)); (first | go_values | go_skip | go_step | go_guarded | go_upon | go_in | go_back | fail))
      with_reducible refine wp_reg (id := 11) ?_
      iterate 7
       refine wpO_want rfl ?_
       go_simp
      refine wpO_done ?_
      try go_frame
      clear hr1 hr2
      try dsimp only
      repeat ((fail_if_success (with_reducible refine wp_reg (id := 12) ?_)); (first | go_values | go_skip | go_step | go_guarded | go_upon | go_in | go_back | fail))
      with_reducible refine wp_reg (id := 12) ?_
      iterate 2
       refine wpO_want rfl ?_
       go_simp
      refine wpO_done ?_
      try go_frame
      go_wp2_with fail
      have hwe : wrT V to = 2 := by
       rw [unhide hwT, ← unhide hws',unhide hdr]
       unfold wrS
       exact if_pos (.inr (unhide hr2'))
      refine Sp.leaves0 ?_
      exact ⟨_,results_tmp2 (t := 4) (u := 5) rfl _ _ _, .bad hwe (by decide) (unhide hP).extf⟩
     ·skip
      have hr2' := hide hr2
      try dsimp only
      repeat ((fail_if_success (with_reducible refine wp_reg (id := 11) ?_)); (first | go_values | go_skip | go_step | go_guarded | go_upon | go_in | go_back | fail))
      with_reducible refine wp_reg (id := 11) ?_
      iterate 7
       refine wpO_want rfl ?_
       go_simp
      refine wpO_done ?_
      try go_frame
      clear hr1 hr2
      obtain ⟨q,hq0⟩ : ∃ q,q = decide (x ∈ s0) := ⟨_,rfl⟩
      have hq := hide hq0
      try dsimp only
      repeat ((fail_if_success (with_reducible refine wp_reg (id := 13) ?_)); (first | go_values | go_skip | go_step | go_guarded | go_upon | go_in | go_back | fail))
      with_reducible refine wp_reg (id := 13) ?_
      iterate 2
       refine wpO_want rfl ?_
       go_simp
      refine (unhide hP).look1O 3 (m := tkB s0) (ek := ekV) (ev := evB) rfl (unhide hsk) rfl keV Tryz.underlying105 (zeroB _) (unhide hox) rfl rfl rfl ?_
      rw [tkB_look, ← hq0]
      clear hq0
      simp only [evB]
      go_frame
      refine wpO_want rfl ?_
      go_simp
      refine wpO_done ?_
      try go_frame
      cases q
      ·skip
       have hnx := hide (of_decide_eq_false (unhide hq).symm)
       try dsimp only
       repeat ((fail_if_success (with_reducible refine wp_reg (id := 15) ?_)); (first | go_values | go_skip | go_step | go_guarded | go_upon | go_in | go_back | fail))
       with_reducible refine wp_reg (id := 15) ?_
       iterate 2
        refine wpO_want rfl ?_
        go_simp
       refine (unhide hP).mapPutO 3 (m := tkB s0) (ek := ekV) (ev := evB) rfl (unhide hsk) rfl keV Tryz.underlying105 (x := x) (unhide hox) true rfl rfl rfl rfl 0 ?_
       intro y5 hQ
       rw [show putM (tkB s0) x true = tkB (s0 ++ [x]) from tkB_put (unhide hnx)] at hQ
       replace hP : Hid (Sp w [] w [] [] [(81,3, .slice A1 n c1,n,ys.flatMap encV),(84,4, .slice B1 ne c2,ne,E.flatMap encE),(104,0, .map (some b8),0,mapXs ekV evJ m0),(105,0, .map (some b9),0,mapXs ekV evB (tkB (s0 ++ [x])))] y5) := hide hQ
       clear hQ
       try go_frame
       refine wpO_done ?_
       try go_frame
       obtain ⟨b1,o1,rfl,k0,k1,k2⟩ := atV (own_at (by have h := (unhide hP).row 0 rfl; rw [unhide hyl] at h; exact h) (fun _ => rfl)) hyi
       rw [unhide hyg] at k0
       dsimp only at k0
       clear k1 k2
       have hself2 := Ext.refl y5
       try dsimp only
       repeat ((fail_if_success (with_reducible refine wp_reg (id := 16) ?_)); (first | go_values | go_skip | go_step | go_guarded | go_upon | go_in | go_back | fail))
       with_reducible refine wp_reg (id := 16) ?_
       iterate 7
        refine wpO_want rfl ?_
        go_simp
       refine (unhide hP).mapPutO 2 (m := m0) (ek := ekV) (ev := evJ) rfl (unhide hmk) rfl keV Tryz.underlying104 (x := v0) (unhide hv0) x rfl rfl rfl rfl 0 ?_
       intro y6 hQ
       rw [show putM m0 v0 x = ((idsV V).take (i + 1)).zip (to.take (i + 1)) from unhide hzp] at hQ
       replace hP : Hid (Sp w [] w [] [] [(81,3, .slice (some ⟨b1,o1,none⟩) n c1,n,ys.flatMap encV),(84,4, .slice B1 ne c2,ne,E.flatMap encE),(104,0, .map (some b8),0,mapXs ekV evJ (((idsV V).take (i + 1)).zip (to.take (i + 1)))),(105,0, .map (some b9),0,mapXs ekV evB (tkB (s0 ++ [x])))] y6) := hide hQ
       clear hQ
       try go_frame
       refine wpO_done ?_
       try go_frame
       clear k0 hself2
       obtain ⟨bq,hbq⟩ := own_zero ((unhide hP).row 0 rfl) (by have := unhide hlt'; omega)
       cases hbq
       try dsimp only
       repeat ((fail_if_success (with_reducible refine wp_reg (id := 17) ?_)); (first | go_values | go_skip | go_step | go_guarded | go_upon | go_in | go_back | fail))
       with_reducible refine wp_reg (id := 17) ?_
       iterate 5
        refine wpO_want rfl ?_
        go_simp
       refine (unhide hP).putC 0 ((ys.set i (x,(lab,wt))).flatMap encV) (b := b1) (q := i * 3 + 0) rfl (by decide) rfl rfl (by first | rfl | (go_simp; done)) (v := .int .i64 x) rfl rfl rfl (by kernel_rfl) (by rw [flat_len encV_len]; omega) (by exact flat_set encV_len (by decide) (x,(lab,wt)) ys i hyi (by rw [unhide hyg]; rfl)) ?_
       intro y7 hQ
       replace hP : Hid (Sp w [] w [] [] [(81,3, .slice (some ⟨b1,0,none⟩) n c1,n,(ys.set i (x,(lab,wt))).flatMap encV),(84,4, .slice B1 ne c2,ne,E.flatMap encE),(104,0, .map (some b8),0,mapXs ekV evJ (((idsV V).take (i + 1)).zip (to.take (i + 1)))),(105,0, .map (some b9),0,mapXs ekV evB (tkB (s0 ++ [x])))] y7) := hide hQ
       clear hQ
       try go_frame
       refine wpO_done ?_
       try go_frame
       clear hself
       go_wp2_with fail
       have hp9 := unhide hP
       rw [unhide hst, ← unhide htk] at hp9
       have hnd9 : (s0 ++ [x]).Nodup := List.nodup_append.2 ⟨unhide hnd',by simp,fun a ha b hb e => by simp at hb; subst hb; subst e; exact unhide hnx ha⟩
       have hws9 := unhide hws'
       rw [unhide hdr,wrS_cons,if_neg (by have := unhide hr1'; have := unhide hr2'; omega),if_neg (unhide hnx)] at hws9
       have hrg9 : ∀ y ∈ s0 ++ [x],0 ≤ y ∧ y ≤ 1023 := fun y hy => by
        rcases List.mem_append.1 hy with hy | hy
        ·exact unhide hrg' y hy
        ·simp at hy; have := unhide hr1'; have := unhide hr2'; omega
       rw [← unhide htk] at hnd9 hws9 hrg9
       refine ⟨n - (i + 1), ?_,by have := unhide hfm'; have := unhide hlt'; omega⟩
       rw [unhide hI4_4]
       exact ⟨i + 1,(by first | rfl | trivial),(by first | rfl | trivial),(by first | rfl | trivial),(by first | rfl | trivial),(by first | rfl | trivial),(by first | rfl | trivial),(by first | rfl | trivial),(by first | rfl | trivial),(by first | rfl | trivial),(by first | rfl | (show _ = Value.int _ _; go_num) | go_num),(by first | rfl | trivial),by have := unhide hlt'; omega,hws9,hnd9,hrg9,hp9,rfl⟩
      ·skip
       try dsimp only
       repeat ((fail_if_success (with_reducible refine wp_reg (id := 14) ?_)); (first | go_values | go_skip | go_step | go_guarded | go_upon | go_in | go_back | fail))
       with_reducible refine wp_reg (id := 14) ?_
       iterate 2
        refine wpO_want rfl ?_
        go_simp
       refine wpO_done ?_
       try go_frame
       go_wp2_with fail
       have hwe : wrT V to = 7 := by
        rw [unhide hwT, ← unhide hws',unhide hdr]
        unfold wrS
        rw [if_neg (by have := unhide hr1'; have := unhide hr2'; omega)]
        exact if_pos (of_decide_eq_true (unhide hq).symm)
       refine Sp.leaves0 ?_
       exact ⟨_,results_tmp2 (t := 4) (u := 5) rfl _ _ _, .bad hwe (by decide) (unhide hP).extf⟩
   ·skip
    have hil : ¬ (i : Int) < (n : Int) := by omega
    obtain rfl : n = i := by omega
    have hw0 : wrT V to = 0 := by
     rw [unhide hwT, ← unhide hws',List.drop_eq_nil_of_le (by rw [← unhide hn']; exact Nat.le_refl _)]
     rfl
    have hoT := hide (wrT_ok.1 hw0)
    have hzl := hide (show ∀ u,(lookM ((idsV V).zip to) u).getD 0 = tr (idsV V) to u from zip_look (by rw [idsV_len]; exact (unhide hTl).symm))
    have hmk := hide (show ∀ p ∈ (idsV V).zip to,i64ok p.1 from fun p hp => by
     obtain ⟨j,hj,e⟩ := List.mem_iff_getElem.1 (List.of_mem_zip hp).1
     rw [← e]
     exact okK (ids_rng9 (unhide hi) hj))
    rw [show mixL (renF to) V n = renV V to by rw [unhide hnv,mixL_full,renV_idx (unhide hTl)],List.take_of_length_le (by rw [idsV_len, ← unhide hnv]; exact Nat.le_refl _),List.take_of_length_le (by rw [← unhide hn']; exact Nat.le_refl _)] at hP
    clear hlt hin hw0
    try dsimp only
    repeat ((fail_if_success (with_reducible refine wp_reg (id := 9) ?_)); (first | go_values | go_skip | go_step | go_guarded | go_upon | go_in | go_back | fail))
    with_reducible refine wp_reg (id := 9) ?_
    refine wpO_want rfl ?_
    go_simp
    refine wpO_done ?_
    try go_frame
    clear hil
    try dsimp only
    repeat ((fail_if_success (with_reducible refine wp_reg (id := 19) ?_)); (first | go_values | go_skip | go_step | go_guarded | go_upon | go_in | go_back | fail))
    with_reducible refine wp_reg (id := 19) ?_
    iterate 3
     refine wpO_want rfl ?_
     go_simp
    refine wpO_done ?_
    try go_frame
    go_wp2_with fail
    obtain ⟨I4_8,hI4_80⟩ : ∃ I : Nat → Act → World → Prop,I = fun fj a' wr => ∃ (j : Nat),a'.tmps.size = 89 ∧ a'.tmps.getD 0 undef = .pointer (some ⟨g,0,none⟩) ∧ a'.tmps.getD 6 undef = .slice A1 n c1 ∧ a'.tmps.getD 7 undef = .slice B1 ne c2 ∧ a'.tmps.getD 8 undef = .map (some b8) ∧ a'.tmps.getD 60 undef = .slice B1 ne c2 ∧ a'.tmps.getD 61 undef = .int .i64 (ne : Nat) ∧ a'.tmps.getD 62 undef = .int .i64 (j : Nat) ∧ a'.defers = [] ∧ j ≤ ne ∧ Sp w [] w [] [] [(81,3, .slice A1 n c1,n,(renV V to).flatMap encV),(84,4, .slice B1 ne c2,ne,(mixL (renG (idsV V) to) E j).flatMap encE),(104,0, .map (some b8),0,mapXs ekV evJ ((idsV V).zip to)),(105,0, .map (some b9),0,mapXs ekV evB (tkB to))] wr ∧ fj = ne - j := ⟨_,rfl⟩
    have hI4_8 := hide hI4_80
    clear hI4_80
    refine wp_loop_ix I4_8 (ne - 0) ?_ ?_
    ·rw [unhide hI4_8]; exact ⟨0,rfl,rfl,rfl,rfl,rfl,rfl,rfl,rfl,rfl,Nat.zero_le _,by rw [mixL_zero]; exact unhide hP,rfl⟩
    ·rintro fj ⟨tm,dfs⟩ wr hrel
     rw [unhide hI4_8] at hrel
     obtain ⟨j,hsz,e0,e6,e7,e8,e60,e61,e62,hdf,hjn,hPs,hgm⟩ := hrel
     obtain ⟨us,rfl⟩ : ∃ us : Nat → Value,tm = #[us 0,us 1,us 2,us 3,us 4,us 5,us 6,us 7,us 8,us 9,us 10,us 11,us 12,us 13,us 14,us 15,us 16,us 17,us 18,us 19,us 20,us 21,us 22,us 23,us 24,us 25,us 26,us 27,us 28,us 29,us 30,us 31,us 32,us 33,us 34,us 35,us 36,us 37,us 38,us 39,us 40,us 41,us 42,us 43,us 44,us 45,us 46,us 47,us 48,us 49,us 50,us 51,us 52,us 53,us 54,us 55,us 56,us 57,us 58,us 59,us 60,us 61,us 62,us 63,us 64,us 65,us 66,us 67,us 68,us 69,us 70,us 71,us 72,us 73,us 74,us 75,us 76,us 77,us 78,us 79,us 80,us 81,us 82,us 83,us 84,us 85,us 86,us 87,us 88] := ⟨fun i => tm.getD i undef,arr_fn hsz⟩
     have h0 : us 0 = .pointer (some ⟨g,0,none⟩) := e0
     have h6 : us 6 = .slice A1 n c1 := e6
     have h7 : us 7 = .slice B1 ne c2 := e7
     have h8 : us 8 = .map (some b8) := e8
     have h60 : us 60 = .slice B1 ne c2 := e60
     have h61 : us 61 = .int .i64 (ne : Nat) := e61
     have h62 : us 62 = .int .i64 (j : Nat) := e62
     have hdf2 : dfs = [] := hdf
     subst hdf2
     clear hdf hsz e0 e6 e7 e8 e60 e61 e62
     simp only [h0,h6,h7,h8,h60,h61,h62]
     clear h0 h6 h7 h8 h60 h61 h62
     clear hP
     have hP := hide hPs
     have hgm' := hide hgm
     clear hPs hgm
     by_cases hlt : j < ne
     ·skip
      have hil : (j : Int) < (ne : Int) := by omega
      have hjE : j < E.length := by have := unhide hne; omega
      have hjb : (j : Int) ≤ 100000 := by have := unhide he4; have := unhide hne; omega
      have hst := hide (mixL_step (renG (idsV V) to) E j hjE)
      obtain ⟨⟨⟨eu,ev⟩,⟨lab,wt⟩⟩,hp0⟩ : ∃ p,p = E[j] := ⟨_,rfl⟩
      have hem : ((eu,ev),(lab,wt)) ∈ E := by rw [hp0]; exact List.getElem_mem _
      have hme := ids_mem (unhide hi) hem
      dsimp only at hme
      have hou := hide (show i64ok eu by
       obtain ⟨z,hz,e⟩ := List.mem_iff_getElem.1 hme.1
       rw [← e]
       exact okK (ids_rng9 (unhide hi) hz))
      have hov := hide (show i64ok ev by
       obtain ⟨z,hz,e⟩ := List.mem_iff_getElem.1 hme.2
       rw [← e]
       exact okK (ids_rng9 (unhide hi) hz))
      rw [← hp0] at hst
      simp only [renG] at hst
      obtain ⟨tu,htu0⟩ : ∃ t,t = tr (idsV V) to eu := ⟨_,rfl⟩
      obtain ⟨tv,htv0⟩ : ∃ t,t = tr (idsV V) to ev := ⟨_,rfl⟩
      rw [← htu0, ← htv0] at hst
      have htu := hide htu0
      have htv := hide htv0
      obtain ⟨ys,hys0⟩ : ∃ ys,ys = mixL (renG (idsV V) to) E j := ⟨_,rfl⟩
      have hyl := hide (show ne = ys.length by rw [hys0,mixL_len]; exact unhide hne)
      have hyi : j < ys.length := by rw [← unhide hyl]; exact hlt
      have hyg := hide (show ys[j] = ((eu,ev),(lab,wt)) by simp only [hys0]; rw [mixL_get _ _ _ hjE,hp0])
      rw [← hys0] at hP hst
      obtain ⟨b1,o1,rfl,k0,k1,k2,k3⟩ := atE (own_at (by have h := (unhide hP).row 1 rfl; rw [unhide hyl] at h; exact h) (fun _ => rfl)) hyi
      rw [unhide hyg] at k0 k1 k2 k3
      dsimp only at k0 k1 k2 k3
      have hself := Ext.refl wr
      have hlt' := hide hlt
      clear hp0 hem hme htu0 htv0 hys0
      try dsimp only
      repeat ((fail_if_success (with_reducible refine wp_reg (id := 20) ?_)); (first | go_values | go_skip | go_step | go_guarded | go_upon | go_in | go_back | fail))
      with_reducible refine wp_reg (id := 20) ?_
      refine wpO_want rfl ?_
      go_simp
      refine wpO_done ?_
      try go_frame
      try dsimp only
      repeat ((fail_if_success (with_reducible refine wp_reg (id := 21) ?_)); (first | go_values | go_skip | go_step | go_guarded | go_upon | go_in | go_back | fail))
      with_reducible refine wp_reg (id := 21) ?_
      iterate 3
       refine wpO_want rfl ?_
       go_simp
      refine (unhide hP).allocO 84 #[.int .i64 0, .int .i64 0, .int .u8 0, .int .i64 0] rfl (by go_simp) ?_
      intro r13 y5 hQ
      replace hP : Hid (Sp w [] w [] [(r13,84, #[.int .i64 0, .int .i64 0, .int .u8 0, .int .i64 0])] [(81,3, .slice A1 n c1,n,(renV V to).flatMap encV),(84,4, .slice (some ⟨b1,o1,none⟩) ne c2,ne,ys.flatMap encE),(104,0, .map (some b8),0,mapXs ekV evJ ((idsV V).zip to)),(105,0, .map (some b9),0,mapXs ekV evB (tkB to))] y5) := hide hQ
      clear hQ
      refine wpO_want rfl ?_
      go_simp
      refine (unhide hP).setO 0 #[.int .i64 eu, .int .i64 ev, .int .u8 lab, .int .i64 wt] rfl rfl (fun hb => run_store_row (v := .agg #[.int .i64 eu, .int .i64 ev, .int .u8 lab, .int .i64 wt]) rfl (by rfl) (by rfl) (by simp [go_sem]) hb rfl (fun u hu => by simp [Value.cells] at hu; rcases hu with rfl | rfl | rfl | rfl <;> rfl)) ?_
      intro y6 hQ
      replace hP : Hid (Sp w [] w [] [(r13,84, #[.int .i64 eu, .int .i64 ev, .int .u8 lab, .int .i64 wt])] [(81,3, .slice A1 n c1,n,(renV V to).flatMap encV),(84,4, .slice (some ⟨b1,o1,none⟩) ne c2,ne,ys.flatMap encE),(104,0, .map (some b8),0,mapXs ekV evJ ((idsV V).zip to)),(105,0, .map (some b9),0,mapXs ekV evB (tkB to))] y6) := hide hQ
      clear hQ
      refine wpO_done ?_
      try go_frame
      clear k0 k1 k2 k3 hself
      obtain ⟨bq,hbq⟩ := own_zero ((unhide hP).row 1 rfl) (by have := unhide hlt'; omega)
      cases hbq
      have d0 := (unhide hP).cell 0 0 (v := .int .i64 eu) rfl rfl
      have d1 := (unhide hP).cell 0 1 (v := .int .i64 ev) rfl rfl
      have hself := Ext.refl y6
      try dsimp only
      repeat ((fail_if_success (with_reducible refine wp_reg (id := 22) ?_)); (first | go_values | go_skip | go_step | go_guarded | go_upon | go_in | go_back | fail))
      with_reducible refine wp_reg (id := 22) ?_
      iterate 7
       refine wpO_want rfl ?_
       go_simp
      refine (unhide hP).look1O 2 (m := (idsV V).zip to) (ek := ekV) (ev := evJ) rfl (unhide hmk) rfl keV Tryz.underlying104 (zeroJ _) (unhide hou) rfl rfl rfl ?_
      rw [unhide hzl, ← unhide htu]
      simp only [evJ]
      go_frame
      iterate 3
       refine wpO_want rfl ?_
       go_simp
      refine (unhide hP).look1O 2 (m := (idsV V).zip to) (ek := ekV) (ev := evJ) rfl (unhide hmk) rfl keV Tryz.underlying104 (zeroJ _) (unhide hov) rfl rfl rfl ?_
      rw [unhide hzl, ← unhide htv]
      simp only [evJ]
      go_frame
      iterate 2
       refine wpO_want rfl ?_
       go_simp
      clear d0 d1 hself
      refine (unhide hP).putC 1 ((ys.set j ((tu,ev),(lab,wt))).flatMap encE) (b := b1) (q := j * 4 + 0) rfl (by decide) rfl rfl (by first | rfl | (go_simp; done)) (v := .int .i64 tu) rfl rfl rfl (by kernel_rfl) (by rw [flat_len encE_len]; omega) (by exact flat_set encE_len (by decide) ((tu,ev),(lab,wt)) ys j hyi (by rw [unhide hyg]; rfl)) ?_
      intro y7 hQ
      replace hP : Hid (Sp w [] w [] [(r13,84, #[.int .i64 eu, .int .i64 ev, .int .u8 lab, .int .i64 wt])] [(81,3, .slice A1 n c1,n,(renV V to).flatMap encV),(84,4, .slice (some ⟨b1,0,none⟩) ne c2,ne,(ys.set j ((tu,ev),(lab,wt))).flatMap encE),(104,0, .map (some b8),0,mapXs ekV evJ ((idsV V).zip to)),(105,0, .map (some b9),0,mapXs ekV evB (tkB to))] y7) := hide hQ
      clear hQ
      try go_frame
      iterate 2
       refine wpO_want rfl ?_
       go_simp
      refine (unhide hP).putC 1 ((ys.set j ((tu,tv),(lab,wt))).flatMap encE) (b := b1) (q := j * 4 + 1) rfl (by decide) rfl rfl (by first | rfl | (go_simp; done)) (v := .int .i64 tv) rfl rfl rfl (by kernel_rfl) (by rw [flat_len encE_len,List.length_set]; omega) (by rw [flat_set encE_len (by decide) ((tu,tv),(lab,wt)) (ys.set j ((tu,ev),(lab,wt))) j (by rw [List.length_set]; exact hyi) (by rw [List.getElem_set_self]; rfl),List.set_set]) ?_
      intro y8 hQ
      replace hP : Hid (Sp w [] w [] [(r13,84, #[.int .i64 eu, .int .i64 ev, .int .u8 lab, .int .i64 wt])] [(81,3, .slice A1 n c1,n,(renV V to).flatMap encV),(84,4, .slice (some ⟨b1,0,none⟩) ne c2,ne,(ys.set j ((tu,tv),(lab,wt))).flatMap encE),(104,0, .map (some b8),0,mapXs ekV evJ ((idsV V).zip to)),(105,0, .map (some b9),0,mapXs ekV evB (tkB to))] y8) := hide hQ
      clear hQ
      try go_frame
      refine wpO_done ?_
      try go_frame
      replace hP : Hid (Sp w [] w [] [] [(81,3, .slice A1 n c1,n,(renV V to).flatMap encV),(84,4, .slice (some ⟨b1,0,none⟩) ne c2,ne,(ys.set j ((tu,tv),(lab,wt))).flatMap encE),(104,0, .map (some b8),0,mapXs ekV evJ ((idsV V).zip to)),(105,0, .map (some b9),0,mapXs ekV evB (tkB to))] y8) := hide ((unhide hP).sub (List.sublist_append_left _ ([(r13,84, #[.int .i64 eu, .int .i64 ev, .int .u8 lab, .int .i64 wt])] : List Cl)) (List.Sublist.refl _))
      go_wp2_with fail
      have hp9 := unhide hP
      rw [unhide hst] at hp9
      refine ⟨ne - (j + 1), ?_,by have := unhide hgm'; have := unhide hlt'; omega⟩
      rw [unhide hI4_8]
      exact ⟨j + 1,(by first | rfl | trivial),(by first | rfl | trivial),(by first | rfl | trivial),(by first | rfl | trivial),(by first | rfl | trivial),(by first | rfl | trivial),(by first | rfl | trivial),(by first | rfl | (show _ = Value.int _ _; go_num) | go_num),(by first | rfl | trivial),by have := unhide hlt'; omega,hp9,rfl⟩
     ·skip
      have hil : ¬ (j : Int) < (ne : Int) := by omega
      obtain rfl : ne = j := by omega
      rw [show mixL (renG (idsV V) to) E ne = renE E (idsV V) to by rw [unhide hne,mixL_full,renE_idx]] at hP
      obtain ⟨V2,E2,hb0,hbS,hren⟩ := ren_raw (unhide hi) (unhide hoT)
      have hren' := hide hren
      have hVl : (renV V to).length = n := by unfold renV; rw [List.length_zipWith,unhide hTl,Nat.min_self]; exact (unhide hnv).symm
      have hEl : (renE E (idsV V) to).length = ne := by unfold renE; rw [List.length_map]; exact (unhide hne).symm
      have hoV : ∀ d ∈ renV V to,okV d := fun d hd => by
       obtain ⟨h1,p,hp,e⟩ := mem_renV hd
       have h2 := (unhide hi).okV p hp
       unfold okV at h2 ⊢
       rw [e]
       exact ⟨unhide hok' _ h1,h2.2⟩
      have hoE : ∀ d ∈ renE E (idsV V) to,okEd d := fun d hd => by
       obtain ⟨p,hp,rfl⟩ := List.mem_map.1 hd
       have h1 := ids_mem (unhide hi) hp
       have h2 := (unhide hi).okE p hp
       exact ⟨unhide hok' _ (tr_mem (unhide hi) (unhide hoT) h1.1),unhide hok' _ (tr_mem (unhide hi) (unhide hoT) h1.2),h2.2.2⟩
      try dsimp only
      repeat ((fail_if_success (with_reducible refine wp_reg (id := 20) ?_)); (first | go_values | go_skip | go_step | go_guarded | go_upon | go_in | go_back | fail))
      with_reducible refine wp_reg (id := 20) ?_
      refine wpO_want rfl ?_
      go_simp
      refine wpO_done ?_
      try go_frame
      clear hil
      try dsimp only
      repeat ((fail_if_success (with_reducible refine wp_reg (id := 24) ?_)); (first | go_values | go_skip | go_step | go_guarded | go_upon | go_in | go_back | fail))
      with_reducible refine wp_reg (id := 24) ?_
      iterate 2
       refine wpO_want rfl ?_
       go_simp
      refine wpO_want rfl ?_
      go_simp
      have hca := build_any A1 B1 (renV V to) (renE E (idsV V) to) c1 c2 wr (own_at (by have h := (unhide hP).row 0 rfl; rw [← hVl] at h; exact h) (fun _ => rfl)) (own_at (by have h := (unhide hP).row 1 rfl; rw [← hEl] at h; exact h) (fun _ => rfl)) hoV hoE (by rw [hVl]; have := unhide hv4; have := unhide hnv; omega) (by rw [hEl]; have := unhide he4; have := unhide hne; omega)
      rw [hVl,hEl] at hca
      refine hca.mono ?_
      clear hca hVl hEl hoV hoE hlt hjn
      rintro _ y5 (⟨_,g2,bv2,be2,rfl,hg2,hxc,n1,n2,n3⟩ | ⟨hne9,_⟩)
      rotate_left
      ·exact absurd hb0 hne9
      rw [hbS] at hg2
      have hg2' := hide hg2
      have hz := Below.size (unhide hP).extf
      have n1' := hide (Nat.le_trans hz n1)
      have n2' := hide (Nat.le_trans hz n2)
      have n3' := hide (Nat.le_trans hz n3)
      refine ⟨_,rfl, ?_⟩
      replace hP : Hid (Sp w [] w [] [] [(81,3, .slice A1 n c1,n,(renV V to).flatMap encV),(84,4, .slice B1 ne c2,ne,(renE E (idsV V) to).flatMap encE),(104,0, .map (some b8),0,mapXs ekV evJ ((idsV V).zip to)),(105,0, .map (some b9),0,mapXs ekV evB (tkB to))] y5) := hide ((unhide hP).ext hxc)
      clear hxc hg2 hb0 hbS hren n1 n2 n3 hz
      generalize htu0 : Value.tuple _ = tu
      have htu := hide htu0
      clear htu0
      refine wpO_val rfl (run_extract (i := 0) (v := .pointer (some ⟨g2,0,none⟩)) rfl (unhide htu).symm rfl) ?_
      go_frame
      refine wpO_val rfl (run_extract (i := 1) (v := .int .i64 0) rfl (unhide htu).symm rfl) ?_
      go_frame
      iterate 2
       refine wpO_want rfl ?_
       go_simp
      refine wpO_done ?_
      try go_frame
      clear htu
      go_wp2_with fail
      refine Sp.leaves0 ?_
      exact ⟨_,results_tmp2 (t := 4) (u := 5) rfl _ _ _, .inr ⟨unhide hoT,g2,bv2,be2,V2,E2,unhide hren',rfl,unhide hg2',(unhide hP).extf,unhide n1',unhide n2',unhide n3'⟩⟩
 ·skip
  have hq : ((n : Int) != (nv : Int)) = true := by simp; omega
  have hw3 := hide (show wrT V to = 3 by unfold wrT; rw [if_neg (by rw [← unhide hn', ← unhide hnv]; exact hlen)])
  clear hlen
  try dsimp only
  repeat ((fail_if_success (with_reducible refine wp_reg (id := 4) ?_)); (first | go_values | go_skip | go_step | go_guarded | go_upon | go_in | go_back | fail))
  with_reducible refine wp_reg (id := 4) ?_
  iterate 5
   refine wpO_want rfl ?_
   go_simp
  refine wpO_done ?_
  try go_frame
  clear hq
  try dsimp only
  repeat ((fail_if_success (with_reducible refine wp_reg (id := 5) ?_)); (first | go_values | go_skip | go_step | go_guarded | go_upon | go_in | go_back | fail))
  with_reducible refine wp_reg (id := 5) ?_
  iterate 2
   refine wpO_want rfl ?_
   go_simp
  refine wpO_done ?_
  try go_frame
  go_wp2_with fail
  refine Sp.leaves0 ?_
  exact ⟨_,results_tmp2 (t := 4) (u := 5) rfl _ _ _, .bad (unhide hw3) (by decide) (unhide hP).extf⟩
end Go.Proofs.YtbpeemhfjgcnaaaGreat
