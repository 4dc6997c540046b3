/- Parts of a proof, laid together. Each part says its own conditions. -/
import Derived.Test.YtoacpebmhbkmbaaGreatDoorC26
import Derived.Test.YtoacpebmhbkmbaaGreatDoorC25
import Derived.Laws.CopyRow
import Derived.Test.YtoacpebmhbkmbaaGreatDoorC33
import Derived.Test.YtoacpebmhbkmbaaGreatDoorC30
namespace Go.Proofs.YtoacpebmhbkmbaaGreatDoor
open Go Go.RowKit Go.Shelf
attribute [local go_sem] qUpon lUpon
section
variable {α : Type} {enc : α → List Value} {k : Nat}
def vA (enc : α → List Value) (C : List α) : Array Value := (C.flatMap enc).toArray
theorem vA_size (hk : ∀ x,(enc x).length = k) (C : List α) : (vA enc C).size = C.length * k := by
 unfold vA
 rw [List.size_toArray]
 exact flat_length hk C
theorem vA_put (hk : ∀ x,(enc x).length = k) (x : α) : ∀ (C : List α) (i : Nat),i < C.length → (C.flatMap enc).take (i * k) ++ enc x ++ (C.flatMap enc).drop (i * k + k) = (C.set i x).flatMap enc
 | [],i,h => by simp at h
 | a :: C,0,_ => by
  rw [List.flatMap_cons,List.set_cons_zero,List.flatMap_cons,Nat.zero_mul,List.take_zero,List.nil_append,Nat.zero_add,List.drop_append_of_le_length (by rw [hk]; exact Nat.le_refl _),List.drop_of_length_le (by rw [hk]; exact Nat.le_refl _),List.nil_append]
 | a :: C,i + 1,h => by
  have ih := vA_put hk x C i (by simpa using h)
  rw [List.flatMap_cons,List.set_cons_succ,List.flatMap_cons, ← ih]
  have e : (i + 1) * k = (enc a).length + i * k := by rw [hk,Nat.add_mul,Nat.one_mul,Nat.add_comm]
  rw [e,List.take_length_add_append,Nat.add_assoc,List.drop_length_add_append,List.append_assoc,List.append_assoc,List.append_assoc]
theorem run_store_elem {P : Program} {ρ : Operand → Value} {o : Oper} {t : TypeId} {p x : Operand} {w : World} {b i : Nat} {C : List α} {v : Value} {t0 : TypeId} (y : α) (ho : o.op = .store t p x) (hp : ρ p = .pointer (some ⟨b,i * k,none⟩)) (hx : ρ x = v) (hv : v.cells.toList = enc y)
  (hk : ∀ x,(enc x).length = k) (h1 : ∀ x, ∀ u ∈ enc x,u.oneCell' = true) (hs : (sizeOf t).run P w = .ok k w) (hb : Blk w b t0 (vA enc C)) (hi : i < C.length) :
  (execOp ρ o).run P w = .ok .skip (w.setRow b (vA enc (C.set i y))) := by
 have hle : i * k + k ≤ C.length * k := by
  have := Nat.mul_le_mul_right k (show i + 1 ≤ C.length from hi)
  rw [Nat.add_mul,Nat.one_mul] at this
  exact this
 have hst := run_storeCells_at (P := P) b (i * k) t0 (enc y) 0 (vA enc C) w hb (by rw [vA_size hk,hk]; omega) (h1 y)
 rw [Nat.add_zero,hk] at hst
 have e : ((vA enc C).toList.take (i * k) ++ enc y ++ (vA enc C).toList.drop (i * k + k)).toArray = vA enc (C.set i y) := by
  unfold vA
  rw [← vA_put hk y C i hi]
 rw [e] at hst
 have hsz : v.cells.size = k := by rw [← Array.length_toList,hv,hk]
 unfold execOp
 simp only [ho,hp,hx]
 simp [Instr.storeAt,Instr.sureAddr,storeVar,hs,hv,hsz,hst,Result.andThen]
theorem flat_rep {z : List Value} (hz : z.length = k) (n : Nat) (j : Nat) (hj : j < n * k) : ((List.replicate n z).flatMap id)[j]? = z[j % k]? := by
 induction n generalizing j with
 | zero => omega
 | succ n ih =>
  rw [List.replicate_succ,List.flatMap_cons]
  by_cases h : j < k
  ·rw [List.getElem?_append_left (by simpa [hz] using h),Nat.mod_eq_of_lt h]; rfl
  ·rw [List.getElem?_append_right (by simp [hz]; omega),ih _ (by simp only [id,hz]; rw [Nat.add_mul,Nat.one_mul] at hj; omega)]
   congr 1
   simp only [id,hz]
   exact (Nat.mod_eq_sub_mod (by omega)).symm
theorem run_mkA {P : Program} {ρ : Operand → Value} {o : Oper} {x y : Operand} {n by_ : Nat} {ST T : TypeId} {z : Value} (d : α) (ho : o.op = .makeSlice ST x y) (hx : ρ x = .int .i64 n) (hy : ρ y = .int .i64 n) (hn : n ≤ 100000) (ht : P.underlying ST = some (.slice T)) (hi : (P.info? T).map (fun i => (i.zero,i.size,i.bytes)) = some (some z,k,by_)) (hb : by_ ≤ 1000) (hz : z.cells.toList = enc d) (hk : ∀ x,(enc x).length = k) (hk0 : 0 < k) (w : World) :
  (execOp ρ o).run P w = .ok (.value (.slice (some ⟨w.heap.size,0,none⟩) n n)) (w.alloc (.cells (vA enc (List.replicate n d)) T)) := by
 obtain ⟨i0,hi0,hi1⟩ := Option.map_eq_some_iff.1 hi
 simp only [Prod.mk.injEq] at hi1
 obtain ⟨hz1,hz2,hz3⟩ := hi1
 have hbn : (i0.bytes : Int) * (n : Int) ≤ 281474976710656 := by
  rw [hz3]
  have h1 : by_ * n ≤ 1000 * 100000 := Nat.mul_le_mul hb hn
  have h2 : (by_ : Int) * (n : Int) = ((by_ * n : Nat) : Int) := by simp
  rw [h2]
  omega
 have h := run_make (P := P) w ST T i0 z ht hi0 hz1 .i64 .i64 n n (by omega) (Int.le_refl _) hbn (by omega)
 rw [hz2] at h
 simp only [Int.toNat_natCast] at h
 have hsz : z.cells.size = k := by rw [← Array.length_toList,hz,hk]
 have e : madeCells z.cells (n * k) = vA enc (List.replicate n d) := by
  apply Array.ext_getElem?
  intro j
  by_cases hj : j < n * k
  ·have h1 : j % k < z.cells.size := by rw [hsz]; exact Nat.mod_lt _ hk0
   have h2 : (vA enc (List.replicate n d))[j]? = (enc d)[j % k]? := by
    unfold vA
    rw [List.getElem?_toArray]
    have := flat_rep (hk d) n j hj
    rw [← this]
    congr 1
    rw [List.flatMap_id, ← List.map_replicate (f := enc),List.flatMap_def]
   rw [h2, ← hz,Array.getElem?_toList,Array.getElem?_eq_getElem h1]
   simp [madeCells,hsz,hj]
   exact (getElem!_pos z.cells (j % k) h1)
  ·rw [Array.getElem?_eq_none (by simp [madeCells]; omega),Array.getElem?_eq_none (by rw [vA_size hk,List.length_replicate]; omega)]
 rw [e] at h
 unfold execOp
 simp only [ho,hx,hy]
 simp [h,Result.andThen]
end
def encB (b : Bool) : List Value := [.bool b]
theorem one_encB (b : Bool) : ∀ v ∈ encB b,v.oneCell' = true := by intro v hv; simp [encB] at hv; subst hv; rfl
theorem flat1 {α : Type} {enc : α → List Value} {f : α → Value} (he : ∀ x,enc x = [f x]) : ∀ C : List α,C.flatMap enc = C.map f
 | [] => rfl
 | x :: C => by rw [List.flatMap_cons,List.map_cons,he,flat1 he C]; rfl
theorem vA1_get {α : Type} {enc : α → List Value} {f : α → Value} (he : ∀ x,enc x = [f x]) {C : List α} {i : Nat} (h : i < C.length) : (vA enc C)[i]? = some (f C[i]) := by
 unfold vA
 rw [flat1 he]
 simp [h]
theorem run_store_elem1 {α : Type} {enc : α → List Value} {P : Program} {ρ : Operand → Value} {o : Oper} {t : TypeId} {p x : Operand} {w : World} {b i : Nat} {C : List α} {v : Value} {t0 : TypeId} (y : α) (ho : o.op = .store t p x) (hp : ρ p = .pointer (some ⟨b,i,none⟩)) (hx : ρ x = v) (hv : v.cells.toList = enc y)
  (hk : ∀ x,(enc x).length = 1) (h1 : ∀ x, ∀ u ∈ enc x,u.oneCell' = true) (hs : (sizeOf t).run P w = .ok 1 w) (hb : Blk w b t0 (vA enc C)) (hi : i < C.length) :
  (execOp ρ o).run P w = .ok .skip (w.setRow b (vA enc (C.set i y))) := run_store_elem (k := 1) y ho (by rw [Nat.mul_one]; exact hp) hx hv hk h1 hs hb hi
section
variable {P : Program} {l : List Oper} {a : Act} {W w wf : World} {T0 : List Nat} {ds : List Deferred} {L : List Cl} {Rs : List Rw} {S : List Nat} {w1 : World} {safe : Nat → Bool} {Q : Act → World → Prop} {n : Nat}
theorem Sp.swapL {x y : Cl} (h : Sp wf T0 w ds (L ++ [y,x]) Rs W) : Sp wf T0 w ds (L ++ [x,y]) Rs W := by
 have hp : (stT (L ++ [x,y]) Rs).Perm (stT (L ++ [y,x]) Rs) := by
  unfold stT
  refine List.Perm.append_right _ ?_
  rw [List.map_append,List.map_append]
  refine List.Perm.append_left _ ?_
  exact List.Perm.swap _ _ _
 exact h.step (Keep.refl [] W) (by simp) ⟨fun e he => h.st.cells e (by simp at he ⊢; rcases he with h | h | h <;> simp [h]),h.st.rows,hp.nodup_iff.2 h.st.nd,fun x hx => h.st.ge x (hp.mem_iff.1 hx)⟩ (fun x hx => .inl (hp.mem_iff.1 hx))
theorem put_swap {a : Act} {d e : Nat} (h : d ≠ e) (v u : Value) : (a.put (some d) v).put (some e) u = (a.put (some e) u).put (some d) v := by
 unfold Act.put
 simp only
 rw [Array.setIfInBounds_comm _ _ h]
theorem Sp.alloc2L (h : Sp wf T0 w ds L Rs W) (hK : Keep S w1 W) {i k : Nat} {oi ok : Oper} {listed : Array Bool} (hr : Region.ready .any l.toArray listed = [i,k])
  (hoi : pick l i = some oi) (hwi : ∀ t,Region.wanted oi t = true) (li : Array Bool) (hli : listed.setIfInBounds i true = li)
  (hok : pick l k = some ok) (hwk : ∀ t,Region.wanted ok t = true) (lk : Array Bool) (hlk : listed.setIfInBounds k true = lk)
  (lall : Array Bool) (hri : Region.ready .any l.toArray li = [k]) (hla : li.setIfInBounds k true = lall) (hrk : Region.ready .any l.toArray lk = [i]) (hlb : lk.setIfInBounds i true = lall)
  {di dk : Nat} (hdi : oi.dst = some di) (hdk : ok.dst = some dk) (hne : di ≠ dk) {vi vk : Nat → Value} (ti tk : TypeId) (ci ck : Array Value)
  (hai : ∀ W,(execOp a.eval oi).run P W = .ok (.value (vi W.heap.size)) (W.alloc (.cells ci ti))) (hak : ∀ W,(execOp a.eval ok).run P W = .ok (.value (vk W.heap.size)) (W.alloc (.cells ck tk)))
  (hai2 : ∀ v W,(execOp (a.put (some dk) v).eval oi).run P W = .ok (.value (vi W.heap.size)) (W.alloc (.cells ci ti))) (hak2 : ∀ v W,(execOp (a.put (some di) v).eval ok).run P W = .ok (.value (vk W.heap.size)) (W.alloc (.cells ck tk)))
  (hk : ∀ bi bk W',Sp wf T0 w ds (L ++ [(bi,ti,ci),(bk,tk,ck)]) Rs W' → Keep S w1 W' → w1.heap.size ≤ bi → w1.heap.size ≤ bk → wpX P l.toArray Ext (Keep S w1) safe Q n lall ((a.put (some di) (vi bi)).put (some dk) (vk bk)) W') :
  wpX P l.toArray Ext (Keep S w1) safe Q (n + 2) listed a W := by
 refine lx_two hr hoi (hwi _) li hli hok (hwk _) lk hlk ?_ ?_
 ·refine h.allocL hK ti ci (hai W) fun bi W1 hP1 hK1 hg1 => ?_
  rw [hdi]
  refine lx_one hri hok (hwk _) lall hla ?_
  refine hP1.allocL hK1 tk ck (hak2 _ W1) fun bk W2 hP2 hK2 hg2 => ?_
  rw [hdk]
  rw [List.append_assoc] at hP2
  exact hk bi bk W2 hP2 hK2 hg1 hg2
 ·refine h.allocL hK tk ck (hak W) fun bk W1 hP1 hK1 hg1 => ?_
  rw [hdk]
  refine lx_one hrk hoi (hwi _) lall hlb ?_
  refine hP1.allocL hK1 ti ci (hai2 _ W1) fun bi W2 hP2 hK2 hg2 => ?_
  rw [hdi]
  rw [List.append_assoc] at hP2
  rw [put_swap hne.symm]
  exact hk bi bk W2 hP2.swapL hK2 hg2 hg1
theorem Sp.alloc2A (h : Sp wf T0 w ds L Rs W) (hK : Keep S w1 W) {i k j : Nat} {oi ok oj : Oper} {listed : Array Bool} (hr : Region.ready .any l.toArray listed = [i,k])
  (hoi : pick l i = some oi) (hwi : ∀ t,Region.wanted oi t = true) (li : Array Bool) (hli : listed.setIfInBounds i true = li)
  (hok : pick l k = some ok) (hwk : ∀ t,Region.wanted ok t = true) (lk : Array Bool) (hlk : listed.setIfInBounds k true = lk)
  (hoj : pick l j = some oj) (hwj : ∀ t,Region.wanted oj t = true)
  (lik : Array Bool) (hri : Region.ready .any l.toArray li = [k,j]) (hlik : li.setIfInBounds k true = lik) (hrk : Region.ready .any l.toArray lk = [i]) (hlki : lk.setIfInBounds i true = lik)
  (lij : Array Bool) (hlij : li.setIfInBounds j true = lij) (hrij : Region.ready .any l.toArray lij = [k]) (lall : Array Bool) (hla : lij.setIfInBounds k true = lall) (hrik : Region.ready .any l.toArray lik = [j]) (hlb : lik.setIfInBounds j true = lall)
  {di dk dj : Nat} (hdi : oi.dst = some di) (hdk : ok.dst = some dk) (hdj : oj.dst = some dj) (hne : di ≠ dk) (hnj : dk ≠ dj) {vi vk : Nat → Value} (ti tk : TypeId) (ci ck : Array Value)
  (hai : ∀ W,(execOp a.eval oi).run P W = .ok (.value (vi W.heap.size)) (W.alloc (.cells ci ti))) (hak : ∀ W,(execOp a.eval ok).run P W = .ok (.value (vk W.heap.size)) (W.alloc (.cells ck tk)))
  (hai2 : ∀ v W,(execOp (a.put (some dk) v).eval oi).run P W = .ok (.value (vi W.heap.size)) (W.alloc (.cells ci ti))) (hak2 : ∀ v W,(execOp (a.put (some di) v).eval ok).run P W = .ok (.value (vk W.heap.size)) (W.alloc (.cells ck tk)))
  (hak3 : ∀ v u W,(execOp ((a.put (some di) v).put (some dj) u).eval ok).run P W = .ok (.value (vk W.heap.size)) (W.alloc (.cells ck tk)))
  (haj : ∀ v W,(execOp (a.put (some di) v).eval oj).run P W = .ok (.value v) W) (haj2 : ∀ v u W,(execOp ((a.put (some di) v).put (some dk) u).eval oj).run P W = .ok (.value v) W)
  (hk : ∀ bi bk W',Sp wf T0 w ds (L ++ [(bi,ti,ci),(bk,tk,ck)]) Rs W' → Keep S w1 W' → w1.heap.size ≤ bi → w1.heap.size ≤ bk → wpX P l.toArray Ext (Keep S w1) safe Q n lall (((a.put (some di) (vi bi)).put (some dk) (vk bk)).put (some dj) (vi bi)) W') :
  wpX P l.toArray Ext (Keep S w1) safe Q (n + 3) listed a W := by
 refine lx_two hr hoi (hwi _) li hli hok (hwk _) lk hlk ?_ ?_
 ·refine h.allocL hK ti ci (hai W) fun bi W1 hP1 hK1 hg1 => ?_
  rw [hdi]
  refine lx_two hri hok (hwk _) lik hlik hoj (hwj _) lij hlij ?_ ?_
  ·refine hP1.allocL hK1 tk ck (hak2 _ W1) fun bk W2 hP2 hK2 hg2 => ?_
   rw [hdk]
   rw [List.append_assoc] at hP2
   refine lx_one hrik hoj (hwj _) lall hlb ?_
   refine hP2.valL hK2 (haj2 _ _ W2) fun W3 hP3 hK3 => ?_
   rw [hdj]
   exact hk bi bk W3 hP3 hK3 hg1 hg2
  ·refine hP1.valL hK1 (haj _ W1) fun W2 hP2 hK2 => ?_
   rw [hdj]
   refine lx_one hrij hok (hwk _) lall hla ?_
   refine hP2.allocL hK2 tk ck (hak3 _ _ W2) fun bk W3 hP3 hK3 hg3 => ?_
   rw [hdk]
   rw [List.append_assoc] at hP3
   rw [put_swap hnj.symm]
   exact hk bi bk W3 hP3 hK3 hg1 hg3
 ·refine h.allocL hK tk ck (hak W) fun bk W1 hP1 hK1 hg1 => ?_
  rw [hdk]
  refine lx_one hrk hoi (hwi _) lik hlki ?_
  refine hP1.allocL hK1 ti ci (hai2 _ W1) fun bi W2 hP2 hK2 hg2 => ?_
  rw [hdi]
  rw [List.append_assoc] at hP2
  rw [put_swap hne.symm]
  refine lx_one hrik hoj (hwj _) lall hlb ?_
  refine hP2.swapL.valL hK2 (haj2 _ _ W2) fun W3 hP3 hK3 => ?_
  rw [hdj]
  exact hk bi bk W3 hP3 hK3 hg2 hg1
end
end Go.Proofs.YtoacpebmhbkmbaaGreatDoor
namespace Go.Proofs.YtoacpebmhbkmbaaGreatDoor
open Go Go.RowKit Go.Shelf
attribute [local go_sem] qUpon lUpon
theorem eqS_nil {N : Nat} : eqS N 0 = true ↔ toL N = [] := by
 rw [eqS_iff,List.eq_nil_iff_forall_not_mem]
 have hm := fun x => mem_toL' (N := N) (x := x)
 generalize toL N = l at hm
 constructor
 ·intro h x hx
  have := (hm x).1 hx
  have h2 := h x.toNat (by omega)
  rw [this.2.2,Nat.zero_testBit] at h2
  cases h2
 ·intro h k hk
  rw [Nat.zero_testBit]
  cases hb : N.testBit k
  ·rfl
  ·exact absurd ((hm k).2 ⟨by omega,by omega,by simpa using hb⟩) (h _)
set_option maxRecDepth 100000 in
set_option maxHeartbeats 4000000 in
theorem empty_any (N : Nat) (w : World) : Calls Tryz.prog 46 #[.agg (setC N)] w fun e w' => e = .returned (.bool (eqS N 0)) ∧ Ext w w' := by
 have hB := hide (Blk.new w 76 (setC N))
 have hx := hide (ext_self1 w (.cells (setC N) 76))
 go_enter Tryz.func46,Tryz.ntmps46
 try dsimp only
 repeat ((fail_if_success (with_reducible refine wp_reg (id := 1) ?_)); (first | go_values | go_skip | go_step | go_guarded | go_upon | go_in | go_back | fail))
 with_reducible refine wp_reg (id := 1) ?_
 refine wpO_val rfl (load_SetR rfl rfl (unhide hB).whole) ?_
 refine wpO_want rfl ?_
 go_simp
 refine wpO_val rfl (run_eql_Set (N := N) (M := 0) rfl rfl rfl) ?_
 go_frame
 refine wpO_want rfl ?_
 go_simp
 refine wpO_done ?_
 try go_frame
 go_wp2_with fail
 go_ret
 exact ⟨rfl,unhide hx⟩
set_option maxRecDepth 100000 in
set_option maxHeartbeats 4000000 in
theorem sub_any (N M : Nat) (w : World) : Calls Tryz.prog 43 #[.agg (setC N), .agg (setC M)] w fun e w' => e = .returned (.bool (subS N M)) ∧ Ext w w' := by
 have hB := hide ((Blk.new w 76 (setC N)).ext (ext_self1 _ (.cells (setC M) 76)))
 have hC := hide (Blk.new (w.alloc (.cells (setC N) 76)) 76 (setC M))
 have hx := hide (ext_self2 w (.cells (setC N) 76) (.cells (setC M) 76))
 simp only [World.size_alloc] at hC
 go_enter Tryz.func43,Tryz.ntmps43
 try dsimp only
 repeat ((fail_if_success (with_reducible refine wp_reg (id := 1) ?_)); (first | go_values | go_skip | go_step | go_guarded | go_upon | go_in | go_back | fail))
 with_reducible refine wp_reg (id := 1) ?_
 generalize (w.alloc (.cells (setC N) 76)).alloc (.cells (setC M) 76) = w1 at *
 refine wpO_val rfl (load_SetR (N := N) rfl rfl (unhide hB).whole) ?_
 refine wpO_val rfl (load_SetR (N := M) rfl rfl (unhide hC).whole) ?_
 refine wpO_want rfl ?_
 go_simp
 refine (minus_any N M w1).mono ?_
 rintro e w2 ⟨rfl,hx2⟩
 refine ⟨_,rfl, ?_⟩
 refine wpO_want rfl ?_
 go_simp
 refine (empty_any (minusS N M) w2).mono ?_
 rintro e w3 ⟨rfl,hx3⟩
 refine ⟨_,rfl, ?_⟩
 refine wpO_want rfl ?_
 go_simp
 refine wpO_done ?_
 try go_frame
 have hx3' := hide (((unhide hx).trans hx2).trans hx3)
 clear hx2 hx3
 go_wp2_with fail
 go_ret
 exact ⟨rfl,unhide hx3'⟩
end Go.Proofs.YtoacpebmhbkmbaaGreatDoor
