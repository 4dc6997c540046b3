/- Parts of a proof, laid together. Each part says its own conditions. -/
import Derived.Test.YtoacpebmhbkmbaaGreatDoorC5
import Derived.Test.YtoacpebmhbkmbaaGreatDoorC21
import Derived.Laws.Cells
import Derived.Laws.Rows
import Derived.Test.YtoacpebmhbkmbaaGreatDoorC20
import Derived.Test.YtoacpebmhbkmbaaGreatDoorC14
import Derived.Deep.Upon
namespace Go.Proofs.YtoacpebmhbkmbaaGreatDoor
open Go Go.RowKit
def wpO (P : Program) (l : List Oper) (K : Act → World → Prop) : List Oper → Act → World → Prop
 | [],a,w => K a w
 | o :: r,a,w => if Region.wanted o (yielded l.toArray a.tmps) = true then lUpon P (fun v w' => wpO P l K r (a.put o.dst v) w') ((execOp a.eval o).run P w) else wpO P l K r (a.put o.dst undef) w
section
variable {P : Program} {l : List Oper} {K : Act → World → Prop} {r : List Oper} {o : Oper} {a : Act} {w w' : World} {v : Value}
theorem wpO_want (hw : Region.wanted o (yielded l.toArray a.tmps) = true) (h : lUpon P (fun v w' => wpO P l K r (a.put o.dst v) w') ((execOp a.eval o).run P w)) : wpO P l K (o :: r) a w := by
 rw [wpO,if_pos hw]; exact h
theorem wpO_out (hw : Region.wanted o (yielded l.toArray a.tmps) = false) (h : wpO P l K r (a.put o.dst undef) w) : wpO P l K (o :: r) a w := by
 rw [wpO,if_neg (by rw [hw]; simp)]; exact h
theorem wpO_val (hw : Region.wanted o (yielded l.toArray a.tmps) = true) (h : (execOp a.eval o).run P w = .ok (.value v) w') (hk : wpO P l K r (a.put o.dst v) w') : wpO P l K (o :: r) a w :=
 wpO_want hw (by rw [h]; exact hk)
theorem wpO_skip (hw : Region.wanted o (yielded l.toArray a.tmps) = true) (h : (execOp a.eval o).run P w = .ok .skip w') (hk : wpO P l K r (a.put o.dst undef) w') : wpO P l K (o :: r) a w :=
 wpO_want hw (by rw [h]; exact hk)
theorem wpO_done (h : K a w) : wpO P l K [] a w := h
end
theorem wpOps_of_wpO {P : Program} {l : List Oper} {Q : Exit → Act → World → Prop} : ∀ (r pre : List Oper) (a : Act) (w : World),l = pre ++ r → wpO P l (fun a w => Q .normal a w) r a w → wpOps P l.toArray Q (List.range' pre.length r.length) a w
 | [],pre,a,w,_,h => h
 | o :: r,pre,a,w,e,h => by
  have ho : l.toArray[pre.length]? = some o := by rw [e]; simp
  rw [List.length_cons,List.range'_succ,wpOps,ho]
  simp only
  have ih := fun a w h => wpOps_of_wpO (P := P) (l := l) (Q := Q) r (pre ++ [o]) a w (by rw [e]; simp) h
  rw [List.length_append,List.length_singleton] at ih
  rw [wpO] at h
  split at h
  ·rename_i hw
   rw [if_pos hw]
   refine .inl ?_
   unfold Oper.wp
   generalize (execOp a.eval o).run P w = res at *
   cases res with
   | ok n w' =>
    cases n <;> simp only [lUpon] at h <;> simp only [Oper.upon]
    case value v => exact ih _ _ h
    case skip => exact ih _ _ h
    case enter f args => exact h.mono fun e w'' ⟨v,he,hk⟩ => by subst he; exact ih _ _ hk
   | halt x w' => simp only [lUpon] at h
  ·rename_i hw
   rw [if_neg hw]
   exact ih _ _ h
theorem wp_reg {P : Program} {id : Nat} {l : List Oper} {Q : Exit → Act → World → Prop} {a : Act} {w : World} (h : wpO P l (fun a w => Q .normal a w) l a w) : (Code.region id l.toArray false).wp P Q a w := by
 refine wp_region ?_
 have := wpOps_of_wpO (P := P) (Q := Q) l [] a w rfl h
 simpa [List.range_eq_range'] using this
theorem wpOpsIn_of_wpO {P : Program} {l0 m : Nat} {l : List Oper} {Q : Exit → Act → World → Prop} (hnd : noDefer l.toArray = true) : ∀ (r pre : List Oper) (a : Act) (w : World),l = pre ++ r → wpO P l (fun a w => Q .normal a w) r a w → wpOpsIn (RF l0) m P l.toArray Q (List.range' pre.length r.length) a w
 | [],pre,a,w,_,h => h
 | o :: r,pre,a,w,e,h => by
  have ho : l.toArray[pre.length]? = some o := by rw [e]; simp
  have hd := noDefer_at hnd ho
  rw [List.length_cons,List.range'_succ,wpOpsIn,ho]
  simp only
  have ih := fun a w h => wpOpsIn_of_wpO (P := P) (l0 := l0) (m := m) (l := l) (Q := Q) hnd r (pre ++ [o]) a w (by rw [e]; simp) h
  rw [List.length_append,List.length_singleton] at ih
  rw [wpO] at h
  split at h
  ·rename_i hw
   rw [if_pos hw]
   unfold Oper.wpIn
   refine ⟨fun _ _ => trivial, ?_⟩
   rw [Oper.semAt_plain _ _ _ hd]
   generalize (execOp a.eval o).run P w = res at *
   cases res with
   | ok n w' =>
    cases n <;> simp only [lUpon] at h <;> simp only [Oper.uponIn]
    case value v => exact ih _ _ h
    case skip => exact ih _ _ h
    case enter f args => exact ⟨fun h => by simp [Fence.wide] at h,(calls_in l0 _ h).mono fun e w'' ⟨v,he,hk⟩ => by subst he; exact ih _ _ hk⟩
   | halt x w' => simp only [lUpon] at h
  ·rename_i hw
   rw [if_neg hw]
   exact ⟨fun _ _ => trivial,ih _ _ h⟩
theorem wpI_reg {P : Program} {id l0 m : Nat} {l : List Oper} {Q : Exit → Act → World → Prop} {a : Act} {w : World} (hnd : noDefer l.toArray = true) (h : wpO P l (fun a w => Q .normal a w) l a w) : (Code.region id l.toArray false).wpIn (RF l0) m P Q a w := by
 refine wpIn_region ?_
 have := wpOpsIn_of_wpO (P := P) (l0 := l0) (m := m) (Q := Q) hnd l [] a w rfl h
 simpa [List.range_eq_range'] using this
theorem wpOpsW_of_wpO {P : Program} {m : Nat} {l : List Oper} {Q : Exit → Act → World → Prop} (hnd : noDefer l.toArray = true) : ∀ (r pre : List Oper) (a : Act) (w : World),l = pre ++ r → wpO P l (fun a w => Q .normal a w) r a w → wpOpsIn Fence.wide m P l.toArray Q (List.range' pre.length r.length) a w
 | [],pre,a,w,_,h => h
 | o :: r,pre,a,w,e,h => by
  have ho : l.toArray[pre.length]? = some o := by rw [e]; simp
  have hd := noDefer_at hnd ho
  rw [List.length_cons,List.range'_succ,wpOpsIn,ho]
  simp only
  have ih := fun a w h => wpOpsW_of_wpO (P := P) (m := m) (l := l) (Q := Q) hnd r (pre ++ [o]) a w (by rw [e]; simp) h
  rw [List.length_append,List.length_singleton] at ih
  rw [wpO] at h
  split at h
  ·rename_i hw
   rw [if_pos hw]
   unfold Oper.wpIn
   refine ⟨fun _ _ => trivial, ?_⟩
   rw [Oper.semAt_plain _ _ _ hd]
   generalize (execOp a.eval o).run P w = res at *
   cases res with
   | ok n w' =>
    cases n <;> simp only [lUpon] at h <;> simp only [Oper.uponIn]
    case value v => exact ih _ _ h
    case skip => exact ih _ _ h
    case enter f args => exact ⟨fun h => by simp [Fence.wide] at h,(callsIn_wide.2 h).mono fun e w'' ⟨v,he,hk⟩ => by subst he; exact ih _ _ hk⟩
   | halt x w' => simp only [lUpon] at h
  ·rename_i hw
   rw [if_neg hw]
   exact ⟨fun _ _ => trivial,ih _ _ h⟩
theorem wpW_reg {P : Program} {id m : Nat} {l : List Oper} {Q : Exit → Act → World → Prop} {a : Act} {w : World} (hnd : noDefer l.toArray = true) (h : wpO P l (fun a w => Q .normal a w) l a w) : (Code.region id l.toArray false).wpIn Fence.wide m P Q a w := by
 refine wpIn_region ?_
 have := wpOpsW_of_wpO (P := P) (m := m) (Q := Q) hnd l [] a w rfl h
 simpa [List.range_eq_range'] using this
theorem run_load_agg {P : Program} {ρ : Operand → Value} {o : Oper} {T : TypeId} {x : Operand} {w : World} {b off : Nat} {cs : Array Value} (ho : o.op = .load T x) (hx : ρ x = .pointer (some ⟨b,off,none⟩))
  (ha : (isAgg T).run P w = .ok true w) (hs : (sizeOf T).run P w = .ok cs.size w) (hc : ∀ (j : Nat) v,cs[j]? = some v → w.cell? ⟨b,off + j,none⟩ = some v) : (execOp ρ o).run P w = .ok (.value (.agg cs)) w := by
 have hl := run_loadCells_list (P := P) w ⟨b,off,none⟩ cs.toList (fun j v hv => by
  have hadd : (⟨b,off,none⟩ : Addr).add j = ⟨b,off + j,none⟩ := by unfold Addr.add; split <;> simp_all
  rw [hadd]
  exact hc j v (by simpa using hv))
 simp only [Array.length_toList,Array.toArray_toList] at hl
 unfold execOp
 simp only [ho,hx]
 simp [Instr.loadAt,Instr.sureAddr,loadVar,Sem.run_bind,ha,hs,hl,Result.andThen]
theorem Blk.sub {w : World} {b : Nat} {t : TypeId} {cs ds : Array Value} {off : Nat} (h : Blk w b t cs) (hd : ∀ (j : Nat) v,ds[j]? = some v → cs[off + j]? = some v) : ∀ (j : Nat) v,ds[j]? = some v → w.cell? ⟨b,off + j,none⟩ = some v := fun j v hv => (h.cell _).trans (hd j v hv)
theorem Blk.whole {w : World} {b : Nat} {t : TypeId} {cs : Array Value} (h : Blk w b t cs) : ∀ (j : Nat) v,cs[j]? = some v → w.cell? ⟨b,0 + j,none⟩ = some v := h.sub (off := 0) fun j v hv => by rw [Nat.zero_add]; exact hv
end Go.Proofs.YtoacpebmhbkmbaaGreatDoor
namespace Go.Proofs.YtoacpebmhbkmbaaGreatDoor
open Go Go.RowKit
section
variable {α : Type} {enc : α → List Value} {T ST : TypeId} {k byt : Nat} {ρ : Operand → Value} {o : Oper} {s x : Operand} {W : World}
theorem run_apS (hi0 : (Tryz.prog.info? T).map (fun i => (i.zero.map (·.cells.size),i.size,i.bytes)) = some (some k,k,byt)) (hu : Tryz.prog.underlying ST = some (.slice T)) (hone : ∀ x, ∀ v ∈ enc x,v.oneCell' = true) (hlen : ∀ x,(enc x).length = k) (hk : 0 < k) (hby : byt ≤ 1000)
  (ho : o.op = .call { callee := .builtin .append,args := #[s,x],argTypes := #[ST,ST] }) {base : Nat} {v : Value} {n : Nat} {xs : List α} (ys : List α) {m c : Nat} {ad : Addr} (hs : ρ s = v) (hx : ρ x = .slice (some ad) m c) (hm : ys.length = m) (hsrc : SlAt enc k W (some ad) ys)
  (hown : W.ownsRow base T k v n (xs.flatMap enc)) (hl : n + m ≤ 100000000) (hb : base ≤ W.heap.size) :
  ∃ A' c' w',(execOp ρ o).run Tryz.prog W = .ok (.value (.slice A' (n + m) c')) w' ∧ w'.ownsRow base T k (.slice A' (n + m) c') (n + m) ((xs ++ ys).flatMap enc) ∧ W.grownBy w' v.ownBlock ∧ (Value.ownBlock (.slice A' (n + m) c') = v.ownBlock ∨ Value.ownBlock (.slice A' (n + m) c') = some W.heap.size) := by
 obtain ⟨i0,hi,hi1⟩ := Option.map_eq_some_iff.1 hi0
 simp only [Prod.mk.injEq] at hi1
 obtain ⟨hz1,hz2,hz3⟩ := hi1
 obtain ⟨z0,hz,hz4⟩ := Option.map_eq_some_iff.1 hz1
 have hmul : (n + m) * byt ≤ 100000000 * 1000 := Nat.mul_le_mul hl hby
 have hcell : ∀ j u,(ys.flatMap enc)[j]? = some u → W.cell? (ad.add j) = some u := by
  intro j u hj
  by_cases hne : ys = []
  ·subst hne; simp at hj
  ·obtain ⟨b,off,hA,hlt,hc⟩ := hsrc hne
   cases hA
   have hjl : j < ys.length * k := by
    have h1 := (List.getElem?_eq_some_iff.1 hj).1
    have h2 : ∀ l : List α,(l.flatMap enc).length = l.length * k := by
     intro l
     induction l with
     | nil => simp
     | cons a r ih => rw [List.flatMap_cons,List.length_append,hlen,ih,List.length_cons,Nat.add_mul]; omega
    rw [h2] at h1
    exact h1
   have hik : j / k < ys.length := (Nat.div_lt_iff_lt_mul hk).2 hjl
   have hy : ys[j / k]? = some ys[j / k] := List.getElem?_eq_getElem hik
   have hr : j % k < (enc ys[j / k]).length := by rw [hlen]; exact Nat.mod_lt _ hk
   have h3 := flat_at hlen (j / k) ys[j / k] (j % k) _ hy (List.getElem?_eq_getElem hr)
   have hjk : j / k * k + j % k = j := by rw [Nat.mul_comm]; exact Nat.div_add_mod j k
   rw [hjk] at h3
   rw [h3] at hj
   have h4 := hc (j / k) _ hy (j % k) _ (List.getElem?_eq_getElem hr)
   rw [Option.some.injEq] at hj
   rw [← hj,show (⟨b,off,none⟩ : Addr).add j = ⟨b,off + j / k * k + j % k,none⟩ by rw [Nat.add_assoc,hjk]; simp [Addr.add]]
   exact h4
 have hnl : (ys.flatMap enc).length = m * k := by
  rw [← hm]
  clear hcell hsrc hm
  induction ys with
  | nil => simp
  | cons a r ih => rw [List.flatMap_cons,List.length_append,hlen,ih,List.length_cons,Nat.add_mul]; omega
 obtain ⟨v',w',hr,h2,h3,_,h5⟩ := run_append_own_at (P := Tryz.prog) W base ST o.type T i0 z0 k byt hu hi hz hz2 hz3 hz4 hk v n _ hown ad m c (ys.flatMap enc) hnl hcell (by
  intro u hu
  obtain ⟨y,_,hy⟩ := List.mem_flatMap.1 hu
  exact hone y u hy) (by unfold maxLen; omega) (by omega) hb
 obtain ⟨A',c',rfl⟩ := own_slice h2
 refine ⟨A',c',w', ?_,by rw [List.flatMap_append]; exact h2,h3,h5⟩
 unfold execOp
 simp only [ho,resolve,invoke,builtin,Sem.run_bind,Sem.run_pure,Result.andThen_ok,List.map_toArray,List.map_cons,List.map_nil,hs,hx,hr]
theorem run_ap1 (hi0 : (Tryz.prog.info? T).map (fun i => (i.zero.map (·.cells.size),i.size,i.bytes)) = some (some k,k,byt)) (hu : Tryz.prog.underlying ST = some (.slice T)) (hone : ∀ x, ∀ v ∈ enc x,v.oneCell' = true) (hlen : ∀ x,(enc x).length = k) (hk : 0 < k) (hby : byt ≤ 1000)
  (ho : o.op = .call { callee := .builtin .append,args := #[s,x],argTypes := #[ST,ST] }) {base : Nat} {v : Value} {n : Nat} {xs : List α} (e : α) {g : Nat} {t : TypeId} (hs : ρ s = v) (hx : ρ x = .slice (some ⟨g,0,none⟩) 1 1) (hg : Blk W g t (enc e).toArray)
  (hown : W.ownsRow base T k v n (xs.flatMap enc)) (hl : n ≤ 10000000) (hb : base ≤ W.heap.size) :
  ∃ A' c' w',(execOp ρ o).run Tryz.prog W = .ok (.value (.slice A' (n + 1) c')) w' ∧ w'.ownsRow base T k (.slice A' (n + 1) c') (n + 1) ((xs ++ [e]).flatMap enc) ∧ W.grownBy w' v.ownBlock ∧ (Value.ownBlock (.slice A' (n + 1) c') = v.ownBlock ∨ Value.ownBlock (.slice A' (n + 1) c') = some W.heap.size) :=
 run_apS hi0 hu hone hlen hk hby ho [e] hs hx rfl (fun _ => ⟨g,0,rfl,hg.lt,fun i y hy j u hu => by
  match i,hy with
  | 0,hy =>
   simp at hy
   subst hy
   rw [show 0 + 0 * k + j = j by omega,hg.cell j]
   simpa using hu⟩) hown (by omega) hb
theorem wpO_ap1 {l : List Oper} {K : Act → World → Prop} {r : List Oper} {a : Act} (hw : Region.wanted o (yielded l.toArray a.tmps) = true) (hi0 : (Tryz.prog.info? T).map (fun i => (i.zero.map (·.cells.size),i.size,i.bytes)) = some (some k,k,byt)) (hu : Tryz.prog.underlying ST = some (.slice T)) (hone : ∀ x, ∀ v ∈ enc x,v.oneCell' = true) (hlen : ∀ x,(enc x).length = k) (hk : 0 < k) (hby : byt ≤ 1000)
  (ho : o.op = .call { callee := .builtin .append,args := #[s,x],argTypes := #[ST,ST] }) {base : Nat} {v : Value} {n : Nat} {xs : List α} (e : α) {g : Nat} {t : TypeId} (hs : a.eval s = v) (hx : a.eval x = .slice (some ⟨g,0,none⟩) 1 1) (hg : Blk W g t (enc e).toArray)
  (hown : W.ownsRow base T k v n (xs.flatMap enc)) (hl : n ≤ 10000000) (hb : base ≤ W.heap.size)
  (h : ∀ A' c' w',w'.ownsRow base T k (.slice A' (n + 1) c') (n + 1) ((xs ++ [e]).flatMap enc) → W.grownBy w' v.ownBlock → (Value.ownBlock (.slice A' (n + 1) c') = v.ownBlock ∨ Value.ownBlock (.slice A' (n + 1) c') = some W.heap.size) → wpO Tryz.prog l K r (a.put o.dst (.slice A' (n + 1) c')) w') : wpO Tryz.prog l K (o :: r) a W := by
 obtain ⟨A',c',w',h1,h2,h3,h4⟩ := run_ap1 hi0 hu hone hlen hk hby ho e hs hx hg hown hl hb
 exact wpO_val hw h1 (h A' c' w' h2 h3 h4)
end
theorem SlAt.keepS {α : Type} {enc : α → List Value} {k : Nat} {w w' : World} {A : Option Addr} {xs : List α} {S : List Nat} (h : SlAt enc k w A xs) (hk : Keep S w w') (hS : ∀ b off,A = some ⟨b,off,none⟩ → b ∉ S) : SlAt enc k w' A xs := fun hne => by
 obtain ⟨b,off,hA,hlt,hc⟩ := h hne
 have hb := hk.block b hlt (hS b off hA)
 refine ⟨b,off,hA,Nat.lt_of_lt_of_le hlt hk.size,fun i x hx j u hu => ?_⟩
 rw [World.cell?_of_block hb]
 exact hc i x hx j u hu
end Go.Proofs.YtoacpebmhbkmbaaGreatDoor
namespace Go.Proofs.YtoacpebmhbkmbaaGreatDoor
open Go Go.RowKit Go.Shelf
attribute [local go_sem] qUpon lUpon
theorem zip1 (tm : Array Value) (p : Nat) (v : Value) : (#[p].zip #[v]).foldl (fun t (q : Nat × Value) => t.setIfInBounds q.1 q.2) tm = tm.setIfInBounds p v := by simp [Array.zip]
theorem arr_fn {tm : Array Value} {n : Nat} (h : tm.size = n) : tm = ((List.range n).map fun i => tm.getD i undef).toArray := by
 subst h
 apply Array.ext
 ·simp
 ·intro i h1 h2
  simp [h1]
structure Acc {α : Type} (enc : α → List Value) (T ST k base bl : Nat) (xs : List α) (v : Value) (W : World) : Prop where
 cell : Blk W bl ST #[v]
 own : W.ownsRow base T k v xs.length (xs.flatMap enc)
 lt : bl < base
 le : base ≤ W.heap.size
def accT (bl : Nat) (v : Value) : List Nat := bl :: v.ownBlock.toList
section
variable {α : Type} {enc : α → List Value} {T ST k base bl : Nat} {xs : List α} {v : Value} {W W' : World}
end
section
variable {α : Type} {enc : α → List Value} {T ST : TypeId} {k byt : Nat} {ρ : Operand → Value} {o : Oper} {s x : Operand} {W : World}
theorem run_apA (hi0 : (Tryz.prog.info? T).map (fun i => (i.zero.map (·.cells.size),i.size,i.bytes)) = some (some k,k,byt)) (hu : Tryz.prog.underlying ST = some (.slice T)) (hone : ∀ x, ∀ v ∈ enc x,v.oneCell' = true) (hlen : ∀ x,(enc x).length = k) (hk : 0 < k) (hby : byt ≤ 1000)
  (ho : o.op = .call { callee := .builtin .append,args := #[s,x],argTypes := #[ST,ST] }) {base : Nat} {v : Value} {n : Nat} {xs : List α} (ys : List α) {m c : Nat} {A : Option Addr} (hs : ρ s = v) (hx : ρ x = .slice A m c) (hm : ys.length = m) (hsrc : SlAt enc k W A ys)
  (hown : W.ownsRow base T k v n (xs.flatMap enc)) (hl : n + m ≤ 100000000) (hb : base ≤ W.heap.size) :
  ∃ A' c' w',(execOp ρ o).run Tryz.prog W = .ok (.value (.slice A' (n + m) c')) w' ∧ w'.ownsRow base T k (.slice A' (n + m) c') (n + m) ((xs ++ ys).flatMap enc) ∧ W.grownBy w' v.ownBlock ∧ (Value.ownBlock (.slice A' (n + m) c') = v.ownBlock ∨ Value.ownBlock (.slice A' (n + m) c') = some W.heap.size) := by
 cases ys with
 | cons y ys =>
  obtain ⟨b,off,rfl,_,_⟩ := hsrc (by simp)
  exact run_apS hi0 hu hone hlen hk hby ho (y :: ys) hs hx hm hsrc hown hl hb
 | nil =>
  obtain rfl : m = 0 := by simpa using hm.symm
  obtain ⟨i0,hi,hi1⟩ := Option.map_eq_some_iff.1 hi0
  simp only [Prod.mk.injEq] at hi1
  obtain ⟨hz1,hz2,hz3⟩ := hi1
  obtain ⟨A1,c1,rfl⟩ := own_slice hown
  have hle : n ≤ c1 := by
   rcases hown.2 with ⟨he,h0⟩ | ⟨g,cap,cur,he,_,_,hn,_⟩
   ·omega
   ·injection he with _ _ he
    omega
  have hsr : Src Tryz.prog i0.size ST (.slice A 0 c) 0 [] W := by
   cases A with
   | none => exact Src.ofNil W hu c
   | some a => exact Src.ofSlice W hu a 0 c [] (by simp) (by simp) (by simp)
  refine ⟨A1,c1,W, ?_,by simpa using hown,World.grownBy.refl _ _, .inl rfl⟩
  unfold execOp
  have := run_append_nothing (P := Tryz.prog) W ST ST o.type T i0 hu hi A1 n c1 hle (.slice A 0 c) hsr
  simp only [ho,resolve,invoke,builtin,Sem.run_bind,Sem.run_pure,Result.andThen_ok,List.map_toArray,List.map_cons,List.map_nil,hs,hx,this]
  simp
theorem wpO_apA {l : List Oper} {K : Act → World → Prop} {r : List Oper} {a : Act} (hw : Region.wanted o (yielded l.toArray a.tmps) = true) (hi0 : (Tryz.prog.info? T).map (fun i => (i.zero.map (·.cells.size),i.size,i.bytes)) = some (some k,k,byt)) (hu : Tryz.prog.underlying ST = some (.slice T)) (hone : ∀ x, ∀ v ∈ enc x,v.oneCell' = true) (hlen : ∀ x,(enc x).length = k) (hk : 0 < k) (hby : byt ≤ 1000)
  (ho : o.op = .call { callee := .builtin .append,args := #[s,x],argTypes := #[ST,ST] }) {base : Nat} {v : Value} {n : Nat} {xs : List α} (ys : List α) {m c : Nat} {A : Option Addr} (hs : a.eval s = v) (hx : a.eval x = .slice A m c) (hm : ys.length = m) (hsrc : SlAt enc k W A ys)
  (hown : W.ownsRow base T k v n (xs.flatMap enc)) (hl : n + m ≤ 100000000) (hb : base ≤ W.heap.size)
  (h : ∀ A' c' w',w'.ownsRow base T k (.slice A' (n + m) c') (n + m) ((xs ++ ys).flatMap enc) → W.grownBy w' v.ownBlock → (Value.ownBlock (.slice A' (n + m) c') = v.ownBlock ∨ Value.ownBlock (.slice A' (n + m) c') = some W.heap.size) → wpO Tryz.prog l K r (a.put o.dst (.slice A' (n + m) c')) w') : wpO Tryz.prog l K (o :: r) a W := by
 obtain ⟨A',c',w',h1,h2,h3,h4⟩ := run_apA hi0 hu hone hlen hk hby ho ys hs hx hm hsrc hown hl hb
 exact wpO_val hw h1 (h A' c' w' h2 h3 h4)
end
end Go.Proofs.YtoacpebmhbkmbaaGreatDoor
