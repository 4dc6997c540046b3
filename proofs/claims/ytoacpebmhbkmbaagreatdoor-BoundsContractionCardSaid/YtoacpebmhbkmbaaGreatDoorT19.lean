/- Parts of a proof, laid together. Each part says its own conditions. -/
import Derived.Test.YtoacpebmhbkmbaaGreatDoorT3
import Derived.Test.YtoacpebmhbkmbaaGreatDoorT18
import Derived.Laws.Cells
import Derived.Laws.Rows
import Derived.Test.YtoacpebmhbkmbaaGreatDoorT17
import Derived.Test.YtoacpebmhbkmbaaGreatDoorT12
import Derived.Deep.Upon
namespace Go.Proofs.YtoacpebmhbkmbaaGreatDoor
open Go Go.RowKit
def wpO (P : Program) (l : List Oper) (K : Act → World → Prop) : List Oper → Act → World → Prop
 | [],a,w => K a w
 | o :: r,a,w => if Region.wanted o (yielded l.toArray a.tmps) = true then lUpon P (fun v w' => wpO P l K r (a.put o.dst v) w') ((execOp a.eval o).run P w) else wpO P l K r (a.put o.dst undef) w
section
variable {P : Program} {l : List Oper} {K : Act → World → Prop} {r : List Oper} {o : Oper} {a : Act} {w w' : World} {v : Value}
theorem wpO_want (hw : Region.wanted o (yielded l.toArray a.tmps) = true) (h : lUpon P (fun v w' => wpO P l K r (a.put o.dst v) w') ((execOp a.eval o).run P w)) : wpO P l K (o :: r) a w := by
 rw [wpO,if_pos hw]; exact h
theorem wpO_out (hw : Region.wanted o (yielded l.toArray a.tmps) = false) (h : wpO P l K r (a.put o.dst undef) w) : wpO P l K (o :: r) a w := by
 rw [wpO,if_neg (by rw [hw]; simp)]; exact h
theorem wpO_val (hw : Region.wanted o (yielded l.toArray a.tmps) = true) (h : (execOp a.eval o).run P w = .ok (.value v) w') (hk : wpO P l K r (a.put o.dst v) w') : wpO P l K (o :: r) a w :=
 wpO_want hw (by rw [h]; exact hk)
theorem wpO_skip (hw : Region.wanted o (yielded l.toArray a.tmps) = true) (h : (execOp a.eval o).run P w = .ok .skip w') (hk : wpO P l K r (a.put o.dst undef) w') : wpO P l K (o :: r) a w :=
 wpO_want hw (by rw [h]; exact hk)
theorem wpO_done (h : K a w) : wpO P l K [] a w := h
end
theorem wpOps_of_wpO {P : Program} {l : List Oper} {Q : Exit → Act → World → Prop} : ∀ (r pre : List Oper) (a : Act) (w : World),l = pre ++ r → wpO P l (fun a w => Q .normal a w) r a w → wpOps P l.toArray Q (List.range' pre.length r.length) a w
 | [],pre,a,w,_,h => h
 | o :: r,pre,a,w,e,h => by
  have ho : l.toArray[pre.length]? = some o := by rw [e]; simp
  rw [List.length_cons,List.range'_succ,wpOps,ho]
  simp only
  have ih := fun a w h => wpOps_of_wpO (P := P) (l := l) (Q := Q) r (pre ++ [o]) a w (by rw [e]; simp) h
  rw [List.length_append,List.length_singleton] at ih
  rw [wpO] at h
  split at h
  ·rename_i hw
   rw [if_pos hw]
   refine .inl ?_
   unfold Oper.wp
   generalize (execOp a.eval o).run P w = res at *
   cases res with
   | ok n w' =>
    cases n <;> simp only [lUpon] at h <;> simp only [Oper.upon]
    case value v => exact ih _ _ h
    case skip => exact ih _ _ h
    case enter f args => exact h.mono fun e w'' ⟨v,he,hk⟩ => by subst he; exact ih _ _ hk
   | halt x w' => simp only [lUpon] at h
  ·rename_i hw
   rw [if_neg hw]
   exact ih _ _ h
theorem wp_reg {P : Program} {id : Nat} {l : List Oper} {Q : Exit → Act → World → Prop} {a : Act} {w : World} (h : wpO P l (fun a w => Q .normal a w) l a w) : (Code.region id l.toArray false).wp P Q a w := by
 refine wp_region ?_
 have := wpOps_of_wpO (P := P) (Q := Q) l [] a w rfl h
 simpa [List.range_eq_range'] using this
theorem wpOpsIn_of_wpO {P : Program} {l0 m : Nat} {l : List Oper} {Q : Exit → Act → World → Prop} (hnd : noDefer l.toArray = true) : ∀ (r pre : List Oper) (a : Act) (w : World),l = pre ++ r → wpO P l (fun a w => Q .normal a w) r a w → wpOpsIn (RF l0) m P l.toArray Q (List.range' pre.length r.length) a w
 | [],pre,a,w,_,h => h
 | o :: r,pre,a,w,e,h => by
  have ho : l.toArray[pre.length]? = some o := by rw [e]; simp
  have hd := noDefer_at hnd ho
  rw [List.length_cons,List.range'_succ,wpOpsIn,ho]
  simp only
  have ih := fun a w h => wpOpsIn_of_wpO (P := P) (l0 := l0) (m := m) (l := l) (Q := Q) hnd r (pre ++ [o]) a w (by rw [e]; simp) h
  rw [List.length_append,List.length_singleton] at ih
  rw [wpO] at h
  split at h
  ·rename_i hw
   rw [if_pos hw]
   unfold Oper.wpIn
   refine ⟨fun _ _ => trivial, ?_⟩
   rw [Oper.semAt_plain _ _ _ hd]
   generalize (execOp a.eval o).run P w = res at *
   cases res with
   | ok n w' =>
    cases n <;> simp only [lUpon] at h <;> simp only [Oper.uponIn]
    case value v => exact ih _ _ h
    case skip => exact ih _ _ h
    case enter f args => exact ⟨fun h => by simp [Fence.wide] at h,(calls_in l0 _ h).mono fun e w'' ⟨v,he,hk⟩ => by subst he; exact ih _ _ hk⟩
   | halt x w' => simp only [lUpon] at h
  ·rename_i hw
   rw [if_neg hw]
   exact ⟨fun _ _ => trivial,ih _ _ h⟩
theorem wpI_reg {P : Program} {id l0 m : Nat} {l : List Oper} {Q : Exit → Act → World → Prop} {a : Act} {w : World} (hnd : noDefer l.toArray = true) (h : wpO P l (fun a w => Q .normal a w) l a w) : (Code.region id l.toArray false).wpIn (RF l0) m P Q a w := by
 refine wpIn_region ?_
 have := wpOpsIn_of_wpO (P := P) (l0 := l0) (m := m) (Q := Q) hnd l [] a w rfl h
 simpa [List.range_eq_range'] using this
theorem wpOpsW_of_wpO {P : Program} {m : Nat} {l : List Oper} {Q : Exit → Act → World → Prop} (hnd : noDefer l.toArray = true) : ∀ (r pre : List Oper) (a : Act) (w : World),l = pre ++ r → wpO P l (fun a w => Q .normal a w) r a w → wpOpsIn Fence.wide m P l.toArray Q (List.range' pre.length r.length) a w
 | [],pre,a,w,_,h => h
 | o :: r,pre,a,w,e,h => by
  have ho : l.toArray[pre.length]? = some o := by rw [e]; simp
  have hd := noDefer_at hnd ho
  rw [List.length_cons,List.range'_succ,wpOpsIn,ho]
  simp only
  have ih := fun a w h => wpOpsW_of_wpO (P := P) (m := m) (l := l) (Q := Q) hnd r (pre ++ [o]) a w (by rw [e]; simp) h
  rw [List.length_append,List.length_singleton] at ih
  rw [wpO] at h
  split at h
  ·rename_i hw
   rw [if_pos hw]
   unfold Oper.wpIn
   refine ⟨fun _ _ => trivial, ?_⟩
   rw [Oper.semAt_plain _ _ _ hd]
   generalize (execOp a.eval o).run P w = res at *
   cases res with
   | ok n w' =>
    cases n <;> simp only [lUpon] at h <;> simp only [Oper.uponIn]
    case value v => exact ih _ _ h
    case skip => exact ih _ _ h
    case enter f args => exact ⟨fun h => by simp [Fence.wide] at h,(callsIn_wide.2 h).mono fun e w'' ⟨v,he,hk⟩ => by subst he; exact ih _ _ hk⟩
   | halt x w' => simp only [lUpon] at h
  ·rename_i hw
   rw [if_neg hw]
   exact ⟨fun _ _ => trivial,ih _ _ h⟩
theorem wpW_reg {P : Program} {id m : Nat} {l : List Oper} {Q : Exit → Act → World → Prop} {a : Act} {w : World} (hnd : noDefer l.toArray = true) (h : wpO P l (fun a w => Q .normal a w) l a w) : (Code.region id l.toArray false).wpIn Fence.wide m P Q a w := by
 refine wpIn_region ?_
 have := wpOpsW_of_wpO (P := P) (m := m) (Q := Q) hnd l [] a w rfl h
 simpa [List.range_eq_range'] using this
theorem run_load_agg {P : Program} {ρ : Operand → Value} {o : Oper} {T : TypeId} {x : Operand} {w : World} {b off : Nat} {cs : Array Value} (ho : o.op = .load T x) (hx : ρ x = .pointer (some ⟨b,off,none⟩))
  (ha : (isAgg T).run P w = .ok true w) (hs : (sizeOf T).run P w = .ok cs.size w) (hc : ∀ (j : Nat) v,cs[j]? = some v → w.cell? ⟨b,off + j,none⟩ = some v) : (execOp ρ o).run P w = .ok (.value (.agg cs)) w := by
 have hl := run_loadCells_list (P := P) w ⟨b,off,none⟩ cs.toList (fun j v hv => by
  have hadd : (⟨b,off,none⟩ : Addr).add j = ⟨b,off + j,none⟩ := by unfold Addr.add; split <;> simp_all
  rw [hadd]
  exact hc j v (by simpa using hv))
 simp only [Array.length_toList,Array.toArray_toList] at hl
 unfold execOp
 simp only [ho,hx]
 simp [Instr.loadAt,Instr.sureAddr,loadVar,Sem.run_bind,ha,hs,hl,Result.andThen]
theorem Blk.sub {w : World} {b : Nat} {t : TypeId} {cs ds : Array Value} {off : Nat} (h : Blk w b t cs) (hd : ∀ (j : Nat) v,ds[j]? = some v → cs[off + j]? = some v) : ∀ (j : Nat) v,ds[j]? = some v → w.cell? ⟨b,off + j,none⟩ = some v := fun j v hv => (h.cell _).trans (hd j v hv)
theorem Blk.whole {w : World} {b : Nat} {t : TypeId} {cs : Array Value} (h : Blk w b t cs) : ∀ (j : Nat) v,cs[j]? = some v → w.cell? ⟨b,0 + j,none⟩ = some v := h.sub (off := 0) fun j v hv => by rw [Nat.zero_add]; exact hv
end Go.Proofs.YtoacpebmhbkmbaaGreatDoor
namespace Go.Proofs.YtoacpebmhbkmbaaGreatDoor
open Go Go.RowKit
section
variable {α : Type} {enc : α → List Value} {T ST : TypeId} {k byt : Nat} {ρ : Operand → Value} {o : Oper} {s x : Operand} {W : World}
theorem run_apS (hi0 : (Tryz.prog.info? T).map (fun i => (i.zero.map (·.cells.size),i.size,i.bytes)) = some (some k,k,byt)) (hu : Tryz.prog.underlying ST = some (.slice T)) (hone : ∀ x, ∀ v ∈ enc x,v.oneCell' = true) (hlen : ∀ x,(enc x).length = k) (hk : 0 < k) (hby : byt ≤ 1000)
  (ho : o.op = .call { callee := .builtin .append,args := #[s,x],argTypes := #[ST,ST] }) {base : Nat} {v : Value} {n : Nat} {xs : List α} (ys : List α) {m c : Nat} {ad : Addr} (hs : ρ s = v) (hx : ρ x = .slice (some ad) m c) (hm : ys.length = m) (hsrc : SlAt enc k W (some ad) ys)
  (hown : W.ownsRow base T k v n (xs.flatMap enc)) (hl : n + m ≤ 100000000) (hb : base ≤ W.heap.size) :
  ∃ A' c' w',(execOp ρ o).run Tryz.prog W = .ok (.value (.slice A' (n + m) c')) w' ∧ w'.ownsRow base T k (.slice A' (n + m) c') (n + m) ((xs ++ ys).flatMap enc) ∧ W.grownBy w' v.ownBlock ∧ (Value.ownBlock (.slice A' (n + m) c') = v.ownBlock ∨ Value.ownBlock (.slice A' (n + m) c') = some W.heap.size) := by
 obtain ⟨i0,hi,hi1⟩ := Option.map_eq_some_iff.1 hi0
 simp only [Prod.mk.injEq] at hi1
 obtain ⟨hz1,hz2,hz3⟩ := hi1
 obtain ⟨z0,hz,hz4⟩ := Option.map_eq_some_iff.1 hz1
 have hmul : (n + m) * byt ≤ 100000000 * 1000 := Nat.mul_le_mul hl hby
 have hcell : ∀ j u,(ys.flatMap enc)[j]? = some u → W.cell? (ad.add j) = some u := by
  intro j u hj
  by_cases hne : ys = []
  ·subst hne; simp at hj
  ·obtain ⟨b,off,hA,hlt,hc⟩ := hsrc hne
   cases hA
   have hjl : j < ys.length * k := by
    have h1 := (List.getElem?_eq_some_iff.1 hj).1
    have h2 : ∀ l : List α,(l.flatMap enc).length = l.length * k := by
     intro l
     induction l with
     | nil => simp
     | cons a r ih => rw [List.flatMap_cons,List.length_append,hlen,ih,List.length_cons,Nat.add_mul]; omega
    rw [h2] at h1
    exact h1
   have hik : j / k < ys.length := (Nat.div_lt_iff_lt_mul hk).2 hjl
   have hy : ys[j / k]? = some ys[j / k] := List.getElem?_eq_getElem hik
   have hr : j % k < (enc ys[j / k]).length := by rw [hlen]; exact Nat.mod_lt _ hk
   have h3 := flat_at hlen (j / k) ys[j / k] (j % k) _ hy (List.getElem?_eq_getElem hr)
   have hjk : j / k * k + j % k = j := by rw [Nat.mul_comm]; exact Nat.div_add_mod j k
   rw [hjk] at h3
   rw [h3] at hj
   have h4 := hc (j / k) _ hy (j % k) _ (List.getElem?_eq_getElem hr)
   rw [Option.some.injEq] at hj
   rw [← hj,show (⟨b,off,none⟩ : Addr).add j = ⟨b,off + j / k * k + j % k,none⟩ by rw [Nat.add_assoc,hjk]; simp [Addr.add]]
   exact h4
 have hnl : (ys.flatMap enc).length = m * k := by
  rw [← hm]
  clear hcell hsrc hm
  induction ys with
  | nil => simp
  | cons a r ih => rw [List.flatMap_cons,List.length_append,hlen,ih,List.length_cons,Nat.add_mul]; omega
 obtain ⟨v',w',hr,h2,h3,_,h5⟩ := run_append_own_at (P := Tryz.prog) W base ST o.type T i0 z0 k byt hu hi hz hz2 hz3 hz4 hk v n _ hown ad m c (ys.flatMap enc) hnl hcell (by
  intro u hu
  obtain ⟨y,_,hy⟩ := List.mem_flatMap.1 hu
  exact hone y u hy) (by unfold maxLen; omega) (by omega) hb
 obtain ⟨A',c',rfl⟩ := own_slice h2
 refine ⟨A',c',w', ?_,by rw [List.flatMap_append]; exact h2,h3,h5⟩
 unfold execOp
 simp only [ho,resolve,invoke,builtin,Sem.run_bind,Sem.run_pure,Result.andThen_ok,List.map_toArray,List.map_cons,List.map_nil,hs,hx,hr]
theorem run_ap1 (hi0 : (Tryz.prog.info? T).map (fun i => (i.zero.map (·.cells.size),i.size,i.bytes)) = some (some k,k,byt)) (hu : Tryz.prog.underlying ST = some (.slice T)) (hone : ∀ x, ∀ v ∈ enc x,v.oneCell' = true) (hlen : ∀ x,(enc x).length = k) (hk : 0 < k) (hby : byt ≤ 1000)
  (ho : o.op = .call { callee := .builtin .append,args := #[s,x],argTypes := #[ST,ST] }) {base : Nat} {v : Value} {n : Nat} {xs : List α} (e : α) {g : Nat} {t : TypeId} (hs : ρ s = v) (hx : ρ x = .slice (some ⟨g,0,none⟩) 1 1) (hg : Blk W g t (enc e).toArray)
  (hown : W.ownsRow base T k v n (xs.flatMap enc)) (hl : n ≤ 10000000) (hb : base ≤ W.heap.size) :
  ∃ A' c' w',(execOp ρ o).run Tryz.prog W = .ok (.value (.slice A' (n + 1) c')) w' ∧ w'.ownsRow base T k (.slice A' (n + 1) c') (n + 1) ((xs ++ [e]).flatMap enc) ∧ W.grownBy w' v.ownBlock ∧ (Value.ownBlock (.slice A' (n + 1) c') = v.ownBlock ∨ Value.ownBlock (.slice A' (n + 1) c') = some W.heap.size) :=
 run_apS hi0 hu hone hlen hk hby ho [e] hs hx rfl (fun _ => ⟨g,0,rfl,hg.lt,fun i y hy j u hu => by
  match i,hy with
  | 0,hy =>
   simp at hy
   subst hy
   rw [show 0 + 0 * k + j = j by omega,hg.cell j]
   simpa using hu⟩) hown (by omega) hb
theorem wpO_ap1 {l : List Oper} {K : Act → World → Prop} {r : List Oper} {a : Act} (hw : Region.wanted o (yielded l.toArray a.tmps) = true) (hi0 : (Tryz.prog.info? T).map (fun i => (i.zero.map (·.cells.size),i.size,i.bytes)) = some (some k,k,byt)) (hu : Tryz.prog.underlying ST = some (.slice T)) (hone : ∀ x, ∀ v ∈ enc x,v.oneCell' = true) (hlen : ∀ x,(enc x).length = k) (hk : 0 < k) (hby : byt ≤ 1000)
  (ho : o.op = .call { callee := .builtin .append,args := #[s,x],argTypes := #[ST,ST] }) {base : Nat} {v : Value} {n : Nat} {xs : List α} (e : α) {g : Nat} {t : TypeId} (hs : a.eval s = v) (hx : a.eval x = .slice (some ⟨g,0,none⟩) 1 1) (hg : Blk W g t (enc e).toArray)
  (hown : W.ownsRow base T k v n (xs.flatMap enc)) (hl : n ≤ 10000000) (hb : base ≤ W.heap.size)
  (h : ∀ A' c' w',w'.ownsRow base T k (.slice A' (n + 1) c') (n + 1) ((xs ++ [e]).flatMap enc) → W.grownBy w' v.ownBlock → (Value.ownBlock (.slice A' (n + 1) c') = v.ownBlock ∨ Value.ownBlock (.slice A' (n + 1) c') = some W.heap.size) → wpO Tryz.prog l K r (a.put o.dst (.slice A' (n + 1) c')) w') : wpO Tryz.prog l K (o :: r) a W := by
 obtain ⟨A',c',w',h1,h2,h3,h4⟩ := run_ap1 hi0 hu hone hlen hk hby ho e hs hx hg hown hl hb
 exact wpO_val hw h1 (h A' c' w' h2 h3 h4)
end
theorem SlAt.keepS {α : Type} {enc : α → List Value} {k : Nat} {w w' : World} {A : Option Addr} {xs : List α} {S : List Nat} (h : SlAt enc k w A xs) (hk : Keep S w w') (hS : ∀ b off,A = some ⟨b,off,none⟩ → b ∉ S) : SlAt enc k w' A xs := fun hne => by
 obtain ⟨b,off,hA,hlt,hc⟩ := h hne
 have hb := hk.block b hlt (hS b off hA)
 refine ⟨b,off,hA,Nat.lt_of_lt_of_le hlt hk.size,fun i x hx j u hu => ?_⟩
 rw [World.cell?_of_block hb]
 exact hc i x hx j u hu
end Go.Proofs.YtoacpebmhbkmbaaGreatDoor
namespace Go.Proofs.YtoacpebmhbkmbaaGreatDoor
open Go Go.RowKit Go.Shelf
attribute [local go_sem] qUpon lUpon
theorem zip1 (tm : Array Value) (p : Nat) (v : Value) : (#[p].zip #[v]).foldl (fun t (q : Nat × Value) => t.setIfInBounds q.1 q.2) tm = tm.setIfInBounds p v := by simp [Array.zip]
theorem arr_fn {tm : Array Value} {n : Nat} (h : tm.size = n) : tm = ((List.range n).map fun i => tm.getD i undef).toArray := by
 subst h
 apply Array.ext
 ·simp
 ·intro i h1 h2
  simp [h1]
section
variable {α : Type} {enc : α → List Value} {T ST k base bl : Nat} {xs : List α} {v : Value} {W W' : World}
end
section
variable {α : Type} {enc : α → List Value} {T ST : TypeId} {k byt : Nat} {ρ : Operand → Value} {o : Oper} {s x : Operand} {W : World}
end
end Go.Proofs.YtoacpebmhbkmbaaGreatDoor
namespace Go.Proofs.YtoacpebmhbkmbaaGreatDoor
open Go Go.RowKit Go.Shelf
def tIn (T : List Nat) (B : Nat) (T' : List Nat) : Prop := ∀ x ∈ T',x ∈ T ∨ B ≤ x
theorem tIn.refl (T : List Nat) (B : Nat) : tIn T B T := fun _ h => .inl h
theorem tIn.trans {T T' T'' : List Nat} {B C : Nat} (h : tIn T B T') (k : tIn T' C T'') (hBC : B ≤ C) : tIn T B T'' := fun x hx => by
 rcases k x hx with h1 | h1
 ·exact h x h1
 ·exact .inr (by omega)
def bPost (J : List Nat → World → Prop) (Jx : Code → List Nat → World → Prop) (T : List Nat) (W : World) : Exit → Act → World → Prop
 | .normal,_,W' => ∃ T',J T' W' ∧ Keep T W W' ∧ tIn T W.heap.size T'
 | .ret,_,W' => ∃ T',Jx .ret T' W' ∧ Keep T W W' ∧ tIn T W.heap.size T'
 | .exit id,_,W' => ∃ T',Jx (.exit id) T' W' ∧ Keep T W W' ∧ tIn T W.heap.size T'
 | .goto t,_,W' => ∃ T',Jx (.goto t) T' W' ∧ Keep T W W' ∧ tIn T W.heap.size T'
 | .panic _,_,_ => False
 | .outgrown,_,_ => False
theorem least_ex {p : Nat → Prop} (h : ∃ n,p n) : ∃ n,p n ∧ ∀ m,p m → n ≤ m := by
 obtain ⟨n,hn⟩ := h
 induction n using Nat.strongRecOn with
 | _ n ih =>
  by_cases hl : ∃ m,m < n ∧ p m
  ·obtain ⟨m,hm,hp⟩ := hl
   exact ih m hm hp
  ·exact ⟨n,hn,fun m hm => Nat.le_of_not_lt fun h => hl ⟨m,h,hm⟩⟩
open Classical in
noncomputable def ixM (I : Nat → Act → World → Prop) (a : Act) (w : World) : Nat := if h : ∃ n,I n a w then Classical.choose (least_ex h) else 0
theorem ixM_le {I : Nat → Act → World → Prop} {a : Act} {w : World} {n : Nat} (h : I n a w) : ixM I a w ≤ n ∧ I (ixM I a w) a w := by
 have he : ∃ n,I n a w := ⟨n,h⟩
 unfold ixM
 rw [dif_pos he]
 have := Classical.choose_spec (least_ex he)
 exact ⟨this.2 n h,this.1⟩
theorem wp_loop_ix {P : Program} {c : Code} {Q : Exit → Act → World → Prop} {a : Act} {w : World} (I : Nat → Act → World → Prop) (n : Nat) (h0 : I n a w)
  (round : ∀ n a w,I n a w → c.wp P (Exit.then (fun a' w' => ∃ m,I m a' w' ∧ m < n) Q) a w) : (Code.loop c).wp P Q a w := by
 refine wp_loop (fun a w => ∃ n,I n a w) (ixM I) ⟨n,h0⟩ ?_
 rintro a w ⟨n,hn⟩
 refine wp_mono (round _ a w (ixM_le hn).2) ?_
 intro e a' w' hq
 cases e with
 | normal => obtain ⟨m,hI,hm⟩ := hq; exact ⟨⟨m,hI⟩,Nat.lt_of_le_of_lt (ixM_le hI).1 hm⟩
 | exit _ => exact hq
 | goto _ => exact hq
 | ret => exact hq
 | panic _ => exact hq
 | outgrown => exact hq
section
variable {P : Program} {α : Type}
theorem rng_same {T T' ex : List Nat} {W W' : World} {B n : Nat} (hk : Keep T' W W') (hT : tIn T (B + n) T') (hTB : ∀ x ∈ T,x < B) (hW : B + n ≤ W.heap.size) (hex : ∀ b ∈ ex,b < B ∧ b ∉ T) : Same (privs B n ++ ex) W W' :=
 Same.of_keep hk fun x hx => by
  rcases List.mem_append.1 hx with hx | hx
  ·rw [mem_privs] at hx
   refine ⟨by omega,fun hm => ?_⟩
   rcases hT x hm with h | h
   ·have := hTB x h; omega
   ·omega
  ·have h0 := hex x hx
   refine ⟨by omega,fun hm => ?_⟩
   rcases hT x hm with h | h
   ·exact h0.2 h
   ·omega
theorem rng_off {T T' : List Nat} {B n : Nat} (hT : tIn T (B + n) T') (hTB : ∀ x ∈ T,x < B) : ∀ x ∈ privs B n,x ∉ T' := fun x hx hm => by
 rw [mem_privs] at hx
 rcases hT x hm with h | h
 ·have := hTB x h; omega
 ·omega
theorem wp_rng {g : Operand} {ps : Array Tmp} {assign body : Code} {Q : Exit → Act → World → Prop} {a : Act} {w : World} {gf : Nat} {lb : Array Value}
  (hg : a.eval g = .func (.func gf) #[] lb) (eg : ∀ args w,(callFunc gf args).run P w = .ok (.enter gf args) w)
  {encs : α → Array Value} {xs : List α} {np : Nat} {ex : List Nat} {T : List Nat} (hex : ∀ b ∈ ex,b < w.heap.size ∧ b ∉ T) (hit : Iter1 P gf lb encs xs np ex w) (hps : ∀ x,(encs x).size = ps.size)
  (J : List α → List Nat → World → Prop) (Jx : Code → List Nat → World → Prop) (Pa : Array Value → List Nat → α → Act → World → Prop)
  (hk : ∀ pre T' A B S,J pre T' A → Keep S A B → (∀ x ∈ S,x ∉ T') → J pre T' B) (hkx : ∀ c T' A B S,Jx c T' A → Keep S A B → (∀ x ∈ S,x ∉ T') → Jx c T' B)
  (hJl : ∀ pre T' A,J pre T' A → ∀ y ∈ T',y < A.heap.size) (hPa : ∀ T' x a1 A B,Pa a.tmps T' x a1 A → Keep (privs w.heap.size (2 + np)) A B → Pa a.tmps T' x a1 B) (hlt : ∀ x ∈ T,x < w.heap.size) (h0 : J [] T w)
  (hassign : ∀ (T' : List Nat) (x : α) (W : World) (K : Act → World → Prop),(∀ y ∈ T',y < W.heap.size) → w.heap.size + (2 + np) ≤ W.heap.size → (∀ a1 W1,Pa a.tmps T' x a1 W1 → Ext W W1 → K a1 W1) →
   assign.wpIn (RF (w.heap.size + 1)) 0 P (Exit.then K (fun _ _ _ => False)) { tmps := (ps.zip (encs x)).foldl (fun t (p,v) => t.setIfInBounds p v) a.tmps,defers := [] } W)
  (hbody : ∀ (pre : List α) (x : α) (a1 : Act) (T' : List Nat) (W : World),J pre T' W → Keep T w W → tIn T (w.heap.size + (2 + np)) T' → Pa a.tmps T' x a1 W → (pre ++ [x]) <+: xs → w.heap.size + (2 + np) ≤ W.heap.size → (∃ r,W.heap[w.heap.size + 1]? = some (.loop r)) →
   body.wpIn (RF (w.heap.size + 1)) 0 P (bPost (J (pre ++ [x])) Jx T' W) a1 W)
  (hdone : ∀ (T' : List Nat) (W : World),J xs T' W → Keep T w W → tIn T (w.heap.size + (2 + np)) T' → W.heap[w.heap.size]? = some (.deferred (some [])) → Q .normal { a with defers := { target := .collected w.heap.size,args := #[] } :: a.defers } W)
  (hstop : ∀ (c : Code) (T' : List Nat) (W : World),Jx c T' W → Keep T w W → tIn T (w.heap.size + (2 + np)) T' → W.heap[w.heap.size]? = some (.deferred (some [])) → c.wp P Q { a with defers := { target := .collected w.heap.size,args := #[] } :: a.defers } W) :
  (Code.rangeFunc g ps assign body).wp P Q a w := by
 have hX : ∀ {T' : List Nat} {A B : World},tIn T (w.heap.size + (2 + np)) T' → Keep (privs w.heap.size (2 + np)) A B → ∀ x ∈ privs w.heap.size (2 + np),x ∉ T' := fun h _ => rng_off h hlt
 have hkw : ∀ {A B : World},Keep T w A → Keep (privs w.heap.size (2 + np)) A B → Keep T w B := fun h k => h.of_new k fun z hz => by rw [mem_privs] at hz; exact .inr hz.1
 refine wp_range hg eg (fun b hb => (hex b hb).1) hit hps
  (fun pre W => ∃ T',J pre T' W ∧ Keep T w W ∧ tIn T (w.heap.size + (2 + np)) T') (fun c _ W => ∃ T',Jx c T' W ∧ Keep T w W ∧ tIn T (w.heap.size + (2 + np)) T')
  (fun tm pre x a1 W => ∃ T',(J pre T' W ∧ Keep T w W ∧ tIn T (w.heap.size + (2 + np)) T') ∧ Pa tm T' x a1 W)
  (fun pre A B ⟨T',h1,h2,h3⟩ k => ⟨T',hk _ _ _ _ _ h1 k (hX h3 k),hkw h2 k,h3⟩)
  (fun c pre A B ⟨T',h1,h2,h3⟩ k => ⟨T',hkx _ _ _ _ _ h1 k (hX h3 k),hkw h2 k,h3⟩)
  (fun pre x a1 A B ⟨T',⟨h1,h2,h3⟩,h4⟩ k => ⟨T',⟨hk _ _ _ _ _ h1 k (hX h3 k),hkw h2 k,h3⟩,hPa _ _ _ _ _ h4 k⟩)
  ⟨T,h0,Keep.refl _ _, .refl _ _⟩ ?_ ?_ (fun W ⟨T',h1,h2,h3⟩ hD => hdone T' W h1 h2 h3 hD) (fun c pre W ⟨T',h1,h2,h3⟩ hD => hstop c T' W h1 h2 h3 hD)
 ·rintro pre x W K ⟨T',h1,h2,h3⟩ hpre hsz hK
  refine hassign T' x W K (hJl _ _ _ h1) hsz fun a1 W1 hp hx => hK a1 W1 ⟨T',⟨hk _ _ _ _ _ h1 (hx.keep []) (by simp),h2.trans (hx.keep _),h3⟩,hp⟩ (rng_same (hx.keep []) (T' := []) (T := T) (by intro x h; simp at h) hlt hsz hex) (Below.size hx)
 ·rintro pre x a1 W ⟨T',⟨h1,h2,h3⟩,hp⟩ hpre hsz hr
  refine wpIn_mono (hbody pre x a1 T' W h1 h2 h3 hp hpre hsz hr) ?_
  have fin : ∀ {T'' : List Nat} {W' : World},Keep T' W W' → tIn T' W.heap.size T'' → W.heap.size ≤ W'.heap.size ∧ Same (privs w.heap.size (2 + np) ++ ex) W W' ∧ Keep T w W' ∧ tIn T (w.heap.size + (2 + np)) T'' := fun k t =>
   ⟨k.size,rng_same k h3 hlt hsz hex,h2.of_new k (fun z hz => by rcases h3 z hz with h | h; exact .inl h; exact .inr (by omega)),h3.trans t hsz⟩
  rintro e a2 W' hq
  cases e with
  | normal => obtain ⟨T'',q1,q2,q3⟩ := hq; obtain ⟨f1,f2,f3,f4⟩ := fin q2 q3; exact ⟨f1,f2,T'',q1,f3,f4⟩
  | ret => obtain ⟨T'',q1,q2,q3⟩ := hq; obtain ⟨f1,f2,f3,f4⟩ := fin q2 q3; exact ⟨f1,f2,T'',q1,f3,f4⟩
  | exit id => obtain ⟨T'',q1,q2,q3⟩ := hq; obtain ⟨f1,f2,f3,f4⟩ := fin q2 q3; exact ⟨f1,f2,T'',q1,f3,f4⟩
  | goto t => obtain ⟨T'',q1,q2,q3⟩ := hq; obtain ⟨f1,f2,f3,f4⟩ := fin q2 q3; exact ⟨f1,f2,T'',q1,f3,f4⟩
  | panic ch => exact hq.elim
  | outgrown => exact hq.elim
end
section
variable {P : Program} {ops : Array Oper} {R : World → World → Prop} {C : World → Prop} {safe : Nat → Bool} {Q : Act → World → Prop}
theorem wpQL_mono {K K' : Act → Prop} (h : ∀ a,K a → K' a) : ∀ (l : List Nat) (a : Act),wpQL P ops R C K l a → wpQL P ops R C K' l a
 | [],a,hk => h a hk
 | i :: r,a,hk => fun o ho => by
  have := hk o ho
  split at this
  ·rename_i hw
   rw [if_pos hw]
   obtain ⟨v,h1,h2⟩ := this
   exact ⟨v,h1,wpQL_mono h r _ h2⟩
  ·rename_i hw
   rw [if_neg hw]
   exact wpQL_mono h r _ this
theorem wpX_qlx {anc : Nat → List Nat} (ha : ancOk ops anc) (hsz : ∀ j,ops.size ≤ j → safe j = true) (hs : Region.noSelect ops = true) (hR : ∀ w,R w w) (hRt : ∀ a b c,R a b → R b c → R a c) (hCR : ∀ w w',C w → R w w' → C w') (n : Nat) :
  ∀ (l : List Nat) (listed : Array Bool) (a : Act) (w : World),Closed ops listed → qlLook ops safe anc l listed = true → C w →
   wpQL P ops R C (fun a' => ∀ w',R w w' → wpX P ops R C safe Q n (qlListed ops l listed) a' w') l a → wpX P ops R C safe Q (n + l.length) listed a w
 | [],listed,a,w,_,_,hC,h => h w (hR w)
 | k :: ks,listed,a,w,hcl,hl,hC,h => by
  simp only [qlLook,Bool.and_eq_true] at hl
  obtain ⟨⟨⟨hr,hf⟩,hsf⟩,hl'⟩ := hl
  have hr' : k ∈ Region.ready .any ops listed := by simpa using hr
  obtain ⟨_,o,ho,_⟩ := mem_ready.1 hr'
  obtain ⟨v,hy,hK⟩ := yields_of_wpQL ho h
  have hsafe : ∀ j,safe j = true ∨ k ∈ anc j := fun j => by
   rcases Nat.lt_or_ge j ops.size with hj | hj
   ·have := List.all_eq_true.1 hsf j (List.mem_range.2 hj)
    simpa using this
   ·exact .inl (hsz j hj)
  rw [List.length_cons, ← Nat.add_assoc]
  exact X_first ha hR hRt hCR ho (Region.noSelect_spec hs) hsafe (n + ks.length) listed a w hcl (Region.free_spec ho hf) hr' hC hy
   (fun w' hw' => wpX_qlx ha hsz hs hR hRt hCR n ks _ _ w' (hcl.set hr') hl' (hCR _ _ hC hw') (wpQL_mono (fun a' hk w'' hw'' => hk w'' (hRt _ _ _ hw' hw'')) ks _ hK))
theorem Blk.cellsK {W : World} {S : List Nat} {b : Nat} {t : TypeId} {cs : Array Value} (h : Blk W b t cs) (hn : b ∉ S) (i : Nat) {v : Value} (hv : cs[i]? = some v) : ∀ W',Keep S W W' → W'.cell? ⟨b,i,none⟩ = some v := fun _ hk => ((h.keep hk hn).cell i).trans hv
end
end Go.Proofs.YtoacpebmhbkmbaaGreatDoor
