/- Parts of a proof, laid together: Sv, Bw2, Co. Each part says its own conditions. -/
import Derived.Test.YtmfkkkhddigkfaaGreatDoorE12
import Derived.Test.YtmfkkkhddigkfaaGreatDoorE8
import Derived.Test.YtmfkkkhddigkfaaGreatDoorE7
import Derived.Test.YtmfkkkhddigkfaaGreatDoorE9
/- MAPS OF ONE'S OWN in the state of a walk (a row of size 0). Conditions: see each theorem. -/
namespace Go.Proofs.YtmfkkkhddigkfaaGreatDoor
open Go Go.RowKit Go.Shelf

section
variable {κ τ : Type} {ek : κ → Value} {ev : τ → Value} {ok : κ → Prop}
def mapXs (ek : κ → Value) (ev : τ → Value) (m : List (κ × τ)) : List Value := m.flatMap fun p => [ek p.1, ev p.2]
theorem pairs_eq : ∀ {es : List MapEntry} {m : List (κ × τ)}, es.flatMap (fun e => [e.key, e.val]) = mapXs ek ev m ↔ es.map kv = m.map (fun p => (ek p.1, ev p.2))
  | [], [] => by simp [mapXs]
  | [], p :: m => by simp [mapXs]
  | e :: es, [] => by simp [mapXs]
  | e :: es, p :: m => by
    have ih := pairs_eq (es := es) (m := m)
    unfold mapXs at ih ⊢
    simp only [List.flatMap_cons, List.cons_append, List.nil_append, List.cons.injEq, List.map_cons, ih, kv, Prod.mk.injEq, and_assoc]
theorem MapIs.raw {W : World} {b : Nat} {m : List (κ × τ)} (h : MapIs ek ev ok W b m) : MapRaw W b (mapXs ek ev m) := by
  obtain ⟨es, clock, h1, h2, h3, _⟩ := h
  exact ⟨es, clock, h1, h2, pairs_eq.2 h3⟩
theorem MapRaw.is {W : World} {b : Nat} {m : List (κ × τ)} (h : MapRaw W b (mapXs ek ev m)) (ho : ∀ p ∈ m, ok p.1) : MapIs ek ev ok W b m := by
  obtain ⟨es, clock, h1, h2, h3⟩ := h
  exact ⟨es, clock, h1, h2, pairs_eq.1 h3, ho⟩
end
section
variable {κ τ : Type} {ek : κ → Value} {ev : τ → Value} {ok : κ → Prop} {P : Program} {kt et t T : TypeId} {wf : World} {T0 : List Nat} {w W : World} {ds : List Deferred} {L : List Cl} {Rs : List Rw} {l : List Oper} {K : Act → World → Prop} {r : List Oper} {o : Oper} {a : Act} {mb n : Nat} {m : List (κ × τ)}
/-- the map that a row is -/
theorem Sp.map (h : Sp wf T0 w ds L Rs W) (i : Nat) (hi : Rs[i]? = some (T, 0, .map (some mb), n, mapXs ek ev m)) (ho : ∀ p ∈ m, ok p.1) : MapIs ek ev ok W mb m := by
  have h1 := h.st.rows _ (List.mem_of_getElem? hi)
  unfold RowIs at h1
  rw [if_pos rfl] at h1
  obtain ⟨b, e, _, h2⟩ := h1
  injection e with e
  injection e with e
  subst e
  exact h2.is ho
theorem Sp.map_ge (h : Sp wf T0 w ds L Rs W) (i : Nat) {xs : List Value} (hi : Rs[i]? = some (T, 0, .map (some mb), n, xs)) : wf.heap.size ≤ mb ∧ mb ∈ stT L Rs := by
  have hm : mb ∈ stT L Rs := List.mem_append.2 (.inr (mem_rwT.2 ⟨_, List.mem_of_getElem? hi, rfl⟩))
  exact ⟨h.st.ge _ hm, hm⟩
/-- a map is made -/
theorem Sp.mapNew (h : Sp wf T0 w ds L Rs W) (T n : Nat) : Sp wf T0 w ds L (Rs ++ [(T, 0, .map (some W.heap.size), n, [])]) (W.alloc (.map #[] 0)) := by
  have hx := ext_self1 W (.map #[] 0)
  have h1 := h.st.ext hx
  have hs : stT L (Rs ++ [(T, 0, .map (some W.heap.size), n, [])]) = stT L Rs ++ [W.heap.size] := by
    unfold stT rwT
    rw [List.flatMap_append, ← List.append_assoc]
    rfl
  have hb := h.size
  refine h.step (hx.keep []) (by simp) ⟨h1.cells, fun q hq => ?_, ?_, fun x hx' => ?_⟩ (fun x hx' => ?_)
  · rcases List.mem_append.1 hq with hq | hq
    · exact h1.rows q hq
    · rw [List.mem_singleton] at hq
      subst hq
      unfold RowIs
      rw [if_pos rfl]
      exact ⟨_, rfl, hb, #[], 0, (MapKept.heap_alloc W _).1, MapKept.stamped_empty 0, by simp⟩
  · rw [hs, List.nodup_append]
    refine ⟨h.st.nd, by simp, fun x hx1 y hy e => ?_⟩
    rw [List.mem_singleton] at hy
    have := h.lt x hx1
    omega
  · rw [hs] at hx'
    rcases List.mem_append.1 hx' with h2 | h2
    · exact h.st.ge x h2
    · rw [List.mem_singleton] at h2
      omega
  · rw [hs] at hx'
    rcases List.mem_append.1 hx' with h2 | h2
    · exact .inl h2
    · rw [List.mem_singleton] at h2
      exact .inr (by omega)
/-- a map has turned -/
theorem Sp.mapSet (h : Sp wf T0 w ds L Rs W) (i : Nat) {xs xs' : List Value} (hi : Rs[i]? = some (T, 0, .map (some mb), n, xs)) {n' : Nat} {W' : World} (hr : MapRaw W' mb xs') (hk : Keep [mb] W W') : Sp wf T0 w ds L (Rs.set i (T, 0, .map (some mb), n', xs')) W' := by
  have hlt := (List.getElem?_eq_some_iff.1 hi).1
  have hei := (List.getElem?_eq_some_iff.1 hi).2
  have hge := h.map_ge i hi
  have hs : stT L (Rs.set i (T, 0, .map (some mb), n', xs')) = stT L Rs := by
    unfold stT rwT
    congr 1
    rw [List.flatMap_def, List.flatMap_def]
    congr 1
    rw [List.map_set]
    exact set_self (by rw [List.getElem?_map, hi]; rfl)
  have hn := h.st.nd
  unfold stT at hn
  rw [List.nodup_append] at hn
  refine h.step hk (fun x hx => by rw [List.mem_singleton] at hx; subst hx; exact .inl hge.2) ⟨fun e he => ?_, fun q hq => ?_, by rw [hs]; exact h.st.nd, by rw [hs]; exact h.st.ge⟩ (by rw [hs]; exact .refl _ _)
  · refine (h.st.cells e he).keep hk fun hm => ?_
    rw [List.mem_singleton] at hm
    exact hn.2.2 _ (List.mem_map.2 ⟨e, he, rfl⟩) _ (mem_rwT.2 ⟨_, List.mem_of_getElem? hi, rfl⟩) hm
  · obtain ⟨j, hj⟩ := List.getElem?_of_mem hq
    by_cases hij : i = j
    · subst hij
      rw [List.getElem?_set_self hlt] at hj
      cases hj
      unfold RowIs
      rw [if_pos rfl]
      exact ⟨mb, rfl, hge.1, hr⟩
    · rw [List.getElem?_set_ne hij] at hj
      refine (h.st.rows q (List.mem_of_getElem? hj)).keep hk fun g hg e => ?_
      rw [List.mem_singleton] at hg
      subst hg
      have hp := hn.2.1
      unfold rwT at hp
      have hpw := List.pairwise_flatMap.1 hp
      have h3 := List.pairwise_iff_getElem.1 hpw.2
      have hj' := List.getElem?_eq_some_iff.1 hj
      rcases Nat.lt_or_gt_of_ne hij with hlt2 | hlt2
      · exact h3 i j hlt hj'.1 hlt2 g (by rw [hei]; simp [rwB, mapB]) g (by rw [hj'.2, e]; simp) rfl
      · exact h3 j i hj'.1 hlt hlt2 g (by rw [hj'.2, e]; simp) g (by rw [hei]; simp [rwB, mapB]) rfl
theorem run_makeMapO {ρ : Operand → Value} {o : Oper} {w : World} (ho : o.op = .makeMap t none) : (execOp ρ o).run P w = .ok (.value (.map (some w.heap.size))) (w.alloc (.map #[] 0)) := by
  unfold execOp
  simp only [ho]
  simp [run_makeMap, go_sem]
theorem Sp.mapNewO (h : Sp wf T0 w ds L Rs W) (T n : Nat) (hw : Region.wanted o (yielded l.toArray a.tmps) = true) (hrun : (execOp a.eval o).run P W = .ok (.value (.map (some W.heap.size))) (W.alloc (.map #[] 0)))
    (hk : ∀ b W', Sp wf T0 w ds L (Rs ++ [(T, 0, .map (some b), n, [])]) W' → wpO P l K r (a.put o.dst (.map (some b))) W') : wpO P l K (o :: r) a W := wpO_val hw hrun (hk _ _ (h.mapNew T n))
variable [DecidableEq κ]
theorem putM_ok {x : κ} {v : τ} (ho : ∀ p ∈ m, ok p.1) (hx : ok x) : ∀ p ∈ putM m x v, ok p.1 := by
  intro p hp
  unfold putM at hp
  split at hp
  · obtain ⟨q, hq, rfl⟩ := List.mem_map.1 hp
    split
    · exact hx
    · exact ho q hq
  · rcases List.mem_append.1 hp with hp | hp
    · exact ho p hp
    · rw [List.mem_singleton] at hp
      subst hp
      exact hx
/-- a map is written -/
theorem Sp.mapPutO (h : Sp wf T0 w ds L Rs W) (i : Nat) (hi : Rs[i]? = some (T, 0, .map (some mb), n, mapXs ek ev m)) (hok : ∀ p ∈ m, ok p.1) (hw : Region.wanted o (yielded l.toArray a.tmps) = true) (Kk : KE P kt ek ok) (ht : P.underlying t = some (.map kt et)) {x : κ} (hx : ok x) (v : τ)
    {p q s : Operand} (ho : o.op = .mapUpdate t p q s) (hp : a.eval p = .map (some mb)) (hq : a.eval q = ek x) (hs : a.eval s = ev v) (n' : Nat)
    (hk : ∀ W', Sp wf T0 w ds L (Rs.set i (T, 0, .map (some mb), n', mapXs ek ev (putM m x v))) W' → wpO P l K r (a.put o.dst undef) W') : wpO P l K (o :: r) a W := by
  obtain ⟨w', h1, h2, h3, _⟩ := run_update_op Kk ht (h.map i hi hok) hx v ho hp hq hs
  exact wpO_skip hw h1 (hk _ (h.mapSet i hi h2.raw h3))
theorem Sp.look1O (h : Sp wf T0 w ds L Rs W) (i : Nat) (hi : Rs[i]? = some (T, 0, .map (some mb), n, mapXs ek ev m)) (hok : ∀ p ∈ m, ok p.1) (hw : Region.wanted o (yielded l.toArray a.tmps) = true) (Kk : KE P kt ek ok) (ht : P.underlying t = some (.map kt et)) {z0 : τ} (hz : (zeroValue et).run P W = .ok (ev z0) W) {x : κ} (hx : ok x)
    {p q : Operand} (ho : o.op = .lookup t p q false) (hp : a.eval p = .map (some mb)) (hq : a.eval q = ek x) (hk : wpO P l K r (a.put o.dst (ev ((lookM m x).getD z0))) W) : wpO P l K (o :: r) a W :=
  wpO_val hw (run_lookup1_op Kk ht (h.map i hi hok) hz hx ho hp hq) hk
theorem Sp.look2O (h : Sp wf T0 w ds L Rs W) (i : Nat) (hi : Rs[i]? = some (T, 0, .map (some mb), n, mapXs ek ev m)) (hok : ∀ p ∈ m, ok p.1) (hw : Region.wanted o (yielded l.toArray a.tmps) = true) (Kk : KE P kt ek ok) (ht : P.underlying t = some (.map kt et)) {z0 : τ} (hz : (zeroValue et).run P W = .ok (ev z0) W) {x : κ} (hx : ok x)
    {p q : Operand} (ho : o.op = .lookup t p q true) (hp : a.eval p = .map (some mb)) (hq : a.eval q = ek x) (hk : wpO P l K r (a.put o.dst (.tuple #[ev ((lookM m x).getD z0), .bool (lookM m x).isSome])) W) : wpO P l K (o :: r) a W :=
  wpO_val hw (run_lookup2_op Kk ht (h.map i hi hok) hz hx ho hp hq) hk
end
section
variable {α : Type} {enc : α → List Value} {T ST : TypeId} {kk byt : Nat} {l : List Oper} {s x : Operand} {o : Oper} {a : Act} {W w wf : World} {T0 : List Nat} {ds : List Deferred} {L : List Cl} {Rs : List Rw}
/-- append of a whole slice -/
theorem Sp.apAO {K : Act → World → Prop} {r : List Oper} (h : Sp wf T0 w ds L Rs W) (i : Nat) {v : Value} {m : Nat} {xs : List α} (hi : Rs[i]? = some (T, kk, v, m, xs.flatMap enc)) (hw : Region.wanted o (yielded l.toArray a.tmps) = true) (hi0 : (Tryz.prog.info? T).map (fun i => (i.zero.map (·.cells.size), i.size, i.bytes)) = some (some kk, kk, byt)) (hu : Tryz.prog.underlying ST = some (.slice T)) (hone : ∀ x, ∀ v ∈ enc x, v.oneCell' = true) (hlen : ∀ x, (enc x).length = kk) (hk : 0 < kk) (hby : byt ≤ 1000)
    (ho : o.op = .call { callee := .builtin .append, args := #[s, x], argTypes := #[ST, ST] }) (ys : List α) {my c : Nat} {A : Option Addr} (hs : a.eval s = v) (hx : a.eval x = .slice A my c) (hm : ys.length = my) (hsrc : SlAt enc kk W A ys) (hl : m + my ≤ 100000000)
    (hk2 : ∀ A' c' W', Sp wf T0 w ds L (Rs.set i (T, kk, .slice A' (m + my) c', m + my, (xs ++ ys).flatMap enc)) W' → wpO Tryz.prog l K r (a.put o.dst (.slice A' (m + my) c')) W') : wpO Tryz.prog l K (o :: r) a W :=
  wpO_apA hw hi0 hu hone hlen hk hby ho ys hs hx hm hsrc (h.row i hi (by omega)) hl h.size fun A' c' w' h1 h2 h3 => hk2 A' c' w' (h.push i (by omega) hi (Ext.refl W) h1 h2 h3)
variable {S : List Nat} {w1 : World} {safe : Nat → Bool} {q : Prop} {Q : Act → World → Prop} {n : Nat} {li : Array Bool}
theorem off_new {v' v : Value} {b0 b1 : Nat} (hat : v'.ownBlock = v.ownBlock ∨ v'.ownBlock = some b1) (hb : b0 ≤ b1) (hS : ∀ z ∈ v.ownBlock.toList, z ∈ S ∨ b0 ≤ z) : ∀ z ∈ v'.ownBlock.toList, z ∈ S ∨ b0 ≤ z := by
  intro z hz
  rcases hat with e | e
  · rw [e] at hz; exact hS z hz
  · rw [e] at hz
    simp only [Option.toList, List.mem_singleton] at hz
    exact .inr (by omega)
/-- steps behind a choice in a drawn region, within the class Keep S w1 -/
theorem Sp.apAL (h : Sp wf T0 w ds L Rs W) (hK : Keep S w1 W) (i : Nat) {v : Value} {m : Nat} {xs : List α} (hi : Rs[i]? = some (T, kk, v, m, xs.flatMap enc)) (hS : ∀ z ∈ v.ownBlock.toList, z ∈ S ∨ w1.heap.size ≤ z)
    (hi0 : (Tryz.prog.info? T).map (fun i => (i.zero.map (·.cells.size), i.size, i.bytes)) = some (some kk, kk, byt)) (hu : Tryz.prog.underlying ST = some (.slice T)) (hone : ∀ x, ∀ v ∈ enc x, v.oneCell' = true) (hlen : ∀ x, (enc x).length = kk) (hk : 0 < kk) (hby : byt ≤ 1000)
    (ho : o.op = .call { callee := .builtin .append, args := #[s, x], argTypes := #[ST, ST] }) (ys : List α) {my c : Nat} {A : Option Addr} (hs : a.eval s = v) (hx : a.eval x = .slice A my c) (hm : ys.length = my) (hsrc : SlAt enc kk W A ys) (hl : m + my ≤ 100000000)
    (hk2 : ∀ A' c' W', Sp wf T0 w ds L (Rs.set i (T, kk, .slice A' (m + my) c', m + my, (xs ++ ys).flatMap enc)) W' → Keep S w1 W' → (∀ z ∈ (Value.slice A' (m + my) c').ownBlock.toList, z ∈ S ∨ w1.heap.size ≤ z) → wpX Tryz.prog l.toArray Ext (Keep S w1) safe Q n li (a.put o.dst (.slice A' (m + my) c')) W') :
    lUpon Tryz.prog (fun v w' => (q → Keep S w1 w') ∧ ∀ w'', Ext w' w'' → wpX Tryz.prog l.toArray Ext (Keep S w1) safe Q n li (a.put o.dst v) w'') ((execOp a.eval o).run Tryz.prog W) := by
  obtain ⟨A', c', w', h1, h2, h3, h4⟩ := run_apA hi0 hu hone hlen hk hby ho ys hs hx hm hsrc (h.row i hi (by omega)) hl h.size
  rw [h1]
  have hK2 : Keep S w1 w' := hK.of_new (Keep.of_grown h3) hS
  exact ⟨fun _ => hK2, fun W' hx' => hk2 A' c' W' ((h.push i (by omega) hi (Ext.refl W) h2 h3 h4).ext hx') (hK2.trans (hx'.keep S)) (off_new h4 hK.size hS)⟩
theorem Sp.ap1L (h : Sp wf T0 w ds L Rs W) (hK : Keep S w1 W) (i : Nat) {v : Value} {m : Nat} {xs : List α} (hi : Rs[i]? = some (T, kk, v, m, xs.flatMap enc)) (hS : ∀ z ∈ v.ownBlock.toList, z ∈ S ∨ w1.heap.size ≤ z)
    (hi0 : (Tryz.prog.info? T).map (fun i => (i.zero.map (·.cells.size), i.size, i.bytes)) = some (some kk, kk, byt)) (hu : Tryz.prog.underlying ST = some (.slice T)) (hone : ∀ x, ∀ v ∈ enc x, v.oneCell' = true) (hlen : ∀ x, (enc x).length = kk) (hk : 0 < kk) (hby : byt ≤ 1000)
    (ho : o.op = .call { callee := .builtin .append, args := #[s, x], argTypes := #[ST, ST] }) (e : α) {g : Nat} {t : TypeId} (hs : a.eval s = v) (hx : a.eval x = .slice (some ⟨g, 0, none⟩) 1 1) (hg : Blk W g t (enc e).toArray) (hl : m ≤ 10000000)
    (hk2 : ∀ A' c' W', Sp wf T0 w ds L (Rs.set i (T, kk, .slice A' (m + 1) c', m + 1, (xs ++ [e]).flatMap enc)) W' → Keep S w1 W' → (∀ z ∈ (Value.slice A' (m + 1) c').ownBlock.toList, z ∈ S ∨ w1.heap.size ≤ z) → wpX Tryz.prog l.toArray Ext (Keep S w1) safe Q n li (a.put o.dst (.slice A' (m + 1) c')) W') :
    lUpon Tryz.prog (fun v w' => (q → Keep S w1 w') ∧ ∀ w'', Ext w' w'' → wpX Tryz.prog l.toArray Ext (Keep S w1) safe Q n li (a.put o.dst v) w'') ((execOp a.eval o).run Tryz.prog W) := by
  obtain ⟨A', c', w', h1, h2, h3, h4⟩ := run_ap1 hi0 hu hone hlen hk hby ho e hs hx hg (h.row i hi (by omega)) hl h.size
  rw [h1]
  have hK2 : Keep S w1 w' := hK.of_new (Keep.of_grown h3) hS
  exact ⟨fun _ => hK2, fun W' hx' => hk2 A' c' W' ((h.push i (by omega) hi (Ext.refl W) h2 h3 h4).ext hx') (hK2.trans (hx'.keep S)) (off_new h4 hK.size hS)⟩
end
section
variable {P : Program} {l : List Oper} {o : Oper} {a : Act} {W w wf : World} {T0 : List Nat} {ds : List Deferred} {L : List Cl} {Rs : List Rw} {S : List Nat} {w1 : World} {safe : Nat → Bool} {q : Prop} {Q : Act → World → Prop} {n : Nat} {li : Array Bool}
theorem Sp.valL (h : Sp wf T0 w ds L Rs W) (hK : Keep S w1 W) {v : Value} (hrun : (execOp a.eval o).run P W = .ok (.value v) W)
    (hk : ∀ W', Sp wf T0 w ds L Rs W' → Keep S w1 W' → wpX P l.toArray Ext (Keep S w1) safe Q n li (a.put o.dst v) W') : lUpon P (fun v w' => (q → Keep S w1 w') ∧ ∀ w'', Ext w' w'' → wpX P l.toArray Ext (Keep S w1) safe Q n li (a.put o.dst v) w'') ((execOp a.eval o).run P W) := by
  rw [hrun]
  exact ⟨fun _ => hK, fun W' hx => hk W' (h.ext hx) (hK.trans (hx.keep S))⟩
theorem Sp.allocL (h : Sp wf T0 w ds L Rs W) (hK : Keep S w1 W) {v : Nat → Value} (t : TypeId) (cs : Array Value) (hrun : (execOp a.eval o).run P W = .ok (.value (v W.heap.size)) (W.alloc (.cells cs t)))
    (hk : ∀ b W', Sp wf T0 w ds (L ++ [(b, t, cs)]) Rs W' → Keep S w1 W' → w1.heap.size ≤ b → wpX P l.toArray Ext (Keep S w1) safe Q n li (a.put o.dst (v b)) W') : lUpon P (fun v w' => (q → Keep S w1 w') ∧ ∀ w'', Ext w' w'' → wpX P l.toArray Ext (Keep S w1) safe Q n li (a.put o.dst v) w'') ((execOp a.eval o).run P W) := by
  rw [hrun]
  have hK2 : Keep S w1 (W.alloc (.cells cs t)) := hK.trans ((ext_self1 W _).keep S)
  exact ⟨fun _ => hK2, fun W' hx => hk _ W' ((h.alloc t cs).ext hx) (hK2.trans (hx.keep S)) hK.size⟩
theorem Sp.setL (h : Sp wf T0 w ds L Rs W) (hK : Keep S w1 W) (i : Nat) {c : Nat} {t : TypeId} {cs : Array Value} (cs' : Array Value) (hi : L[i]? = some (c, t, cs)) (hc : c ∈ S) (hrun : Blk W c t cs → (execOp a.eval o).run P W = .ok .skip (W.setRow c cs'))
    (hk : ∀ W', Sp wf T0 w ds (L.set i (c, t, cs')) Rs W' → Keep S w1 W' → wpX P l.toArray Ext (Keep S w1) safe Q n li (a.put o.dst undef) W') : lUpon P (fun v w' => (q → Keep S w1 w') ∧ ∀ w'', Ext w' w'' → wpX P l.toArray Ext (Keep S w1) safe Q n li (a.put o.dst v) w'') ((execOp a.eval o).run P W) := by
  rw [hrun (h.get i hi)]
  have hK2 : Keep S w1 (W.setRow c cs') := hK.trans ((Keep.setRow W c cs').mono fun x hx => by rw [List.mem_singleton] at hx; subst hx; exact hc)
  exact lUpon_skip ⟨fun _ => hK2, fun W' hx => hk W' ((h.set i hi).ext hx) (hK2.trans (hx.keep S))⟩
end
section
variable {P : Program} {C : World → Prop} {safe : Nat → Bool} {Q : Act → World → Prop}
theorem lx_qlR {R : World → World → Prop} {l : List Oper} {a : Act} {w : World} (C2 : World → Prop) (qs ts : List Nat) (n m : Nat) (listed listed2 : Array Bool)
    (hB : mqB l.toArray qs ts (ancTab l.toArray) listed = true) (hn : n + qs.length = m) (hlst : qlListed l.toArray qs listed = listed2) (hsub : ∀ w, C2 w → C w)
    (hR : ∀ w, R w w) (hRt : ∀ a b c, R a b → R b c → R a c) (hCR : ∀ w w', C2 w → R w w' → C2 w') (hC : C2 w)
    (h : wpQL P l.toArray R C2 (fun a' => ∀ w', R w w' → wpX P l.toArray R C2 (fun j => !ts.contains j) Q n listed2 a' w') qs a) : wpX P l.toArray R C (fun j => !ts.contains j) Q m listed a w := by
  subst hlst hn
  simp only [mqB, Bool.and_eq_true] at hB
  obtain ⟨⟨⟨⟨h1, h2⟩, h3⟩, h5⟩, h4⟩ := hB
  refine wpX_sub hsub _ _ _ _ (wpX_qlx (ancOk_of h1) (fun j hj => ?_) h2 hR hRt hCR n qs listed a w (closed_of h5) h4 hC h)
  simp only [Bool.not_eq_true', List.contains_eq_mem, decide_eq_false_iff_not]
  intro hin
  have := List.all_eq_true.1 h3 j hin
  simp at this
  simp at hj
  omega
/-- where all that is to come may leave the class, quiet operations again, from the world that is -/
theorem lx_requiet {l : List Oper} {a : Act} {W : World} (S : List Nat) (qs ts2 : List Nat) (n m : Nat) (listed listed2 : Array Bool) (hre : (listed.size == l.length && (List.range l.length).all fun i => !safe i || listed.getD i true) = true)
    (hB : mqB l.toArray qs ts2 (ancTab l.toArray) listed = true) (hn : n + qs.length = m) (hlst : qlListed l.toArray qs listed = listed2)
    (h : wpQL P l.toArray Ext (Keep S W) (fun a' => ∀ w', Ext W w' → wpX P l.toArray Ext (Keep S W) (fun j => !ts2.contains j) Q n listed2 a' w') qs a) : wpX P l.toArray Ext C safe Q m listed a W := by
  refine wpX_re (C2 := Keep S W) (safe2 := fun j => !ts2.contains j) _ _ _ _ (fun i hi => ?_) (lx_qlR (Keep S W) qs ts2 n m listed listed2 hB hn hlst (fun _ h => h) Ext.refl (fun _ _ _ => Ext.trans) (fun _ _ h e => h.trans (e.keep _)) (Keep.refl _ _) h)
  simp only [Bool.and_eq_true, beq_iff_eq] at hre
  rcases Nat.lt_or_ge i l.length with hlt | hge
  · have := List.all_eq_true.1 hre.2 i (List.mem_range.2 hlt)
    simpa [hi] using this
  · have : listed.size ≤ i := by omega
    simp [this]
/-- quiet operations again, from the world that is, where what is to come stays within the class -/
theorem lx_rekeep {l : List Oper} {a : Act} {W w1 : World} {S : List Nat} (hK : Keep S w1 W) (qs ts : List Nat) (n m : Nat) (listed listed2 : Array Bool)
    (hB : mqB l.toArray qs ts (ancTab l.toArray) listed = true) (hn : n + qs.length = m) (hlst : qlListed l.toArray qs listed = listed2)
    (h : wpQL P l.toArray Ext (Keep S W) (fun a' => ∀ w', Ext W w' → wpX P l.toArray Ext (Keep S W) (fun j => !ts.contains j) Q n listed2 a' w') qs a) : wpX P l.toArray Ext (Keep S w1) (fun j => !ts.contains j) Q m listed a W :=
  lx_qlR (Keep S W) qs ts n m listed listed2 hB hn hlst (fun _ h => hK.trans h) Ext.refl (fun _ _ _ => Ext.trans) (fun _ _ h e => h.trans (e.keep _)) (Keep.refl _ _) h
end
/-- a variable's block, read as a slice -/
theorem slat_blk {α : Type} {enc : α → List Value} {k : Nat} {W : World} {b : Nat} {T : TypeId} (L : List α) (h : Blk W b T (L.flatMap enc).toArray) (hs : (L.flatMap enc).length = L.length * k) (hk : ∀ x, (enc x).length = k) (hl : L.length ≤ 1000000) : SlAt enc k W (some ⟨b, 0, none⟩) L := by
  have h1 : W.ownsRow 0 T k (.slice (some ⟨b, 0, none⟩) L.length L.length) L.length (L.flatMap enc) :=
    ⟨hs, .inr ⟨b, L.length, (L.flatMap enc).toArray, rfl, Nat.zero_le _, h, Nat.le_refl _, by unfold maxLen; omega, by simpa using hs, List.take_of_length_le (by simp [hs])⟩⟩
  exact own_at h1 hk
theorem ret_tct24 {P : Program} {fn : Func} {t c T u : Nat} {tmps : Array Value} {p : Addr} {W : World} {v : Value} (h : fn.results = #[.tmp t, .cell c T, .tmp u]) (hp : tmps.getD c undef = .pointer (some p)) (hl : (loadVar T p).run P W = .ok v W) :
    (results fn tmps).run P W = .ok (.tuple #[tmps.getD t undef, v, tmps.getD u undef]) W := by
  simp only [Array.getD_eq_getD_getElem?] at hp
  simp [results, h, hp, asAddr, hl]
theorem slK {w : World} {b off : Nat} {L : List Int} {S : List Nat} (h : SlAt encI 1 w (some ⟨b, off, none⟩) L) (hb : b ∉ S) {i : Nat} (hi : i < L.length) : ∀ W, Keep S w W → W.cell? ⟨b, off + i, none⟩ = some (.int .i64 L[i]) := by
  intro W hk
  obtain ⟨b', off', e, hc⟩ := atI (h.keepS hk (fun b2 o2 e hm => by injection e with e; injection e with e1 e2; subst e1; exact hb hm)) hi
  injection e with e
  injection e with e1 e2
  subst e1
  subst e2
  exact hc W (Ext.refl W)
theorem slE {w : World} {b off : Nat} {L : List Int} (h : SlAt encI 1 w (some ⟨b, off, none⟩) L) {i : Nat} (hi : i < L.length) : ∀ W, Ext w W → W.cell? ⟨b, off + i, none⟩ = some (.int .i64 L[i]) := fun W hW => slK h (S := []) (by simp) hi W (hW.keep [])
section
variable {P : Program} {C : World → Prop} {safe : Nat → Bool} {Q : Act → World → Prop} {l : List Oper} {r : List Oper} {K : Act → World → Prop} {o : Oper} {a : Act} {W w wf : World} {T0 : List Nat} {ds : List Deferred} {L : List Cl} {Rs : List Rw} {n j : Nat} {li : Array Bool}
/-- steps of a plain region; how the world has turned is told -/
theorem Sp.allocT (h : Sp wf T0 w ds L Rs W) (t : TypeId) (cs : Array Value) (hw : Region.wanted o (yielded l.toArray a.tmps) = true) (hrun : (execOp a.eval o).run P W = .ok (.value (.pointer (some ⟨W.heap.size, 0, none⟩))) (W.alloc (.cells cs t)))
    (hk : ∀ b W', Sp wf T0 w ds (L ++ [(b, t, cs)]) Rs W' → Ext W W' → W.heap.size ≤ b → wpO P l K r (a.put o.dst (.pointer (some ⟨b, 0, none⟩))) W') : wpO P l K (o :: r) a W := wpO_val hw hrun (hk _ _ (h.alloc t cs) (ext_self1 W _) (Nat.le_refl _))
theorem Sp.setT (h : Sp wf T0 w ds L Rs W) (i : Nat) {c : Nat} {t : TypeId} {cs : Array Value} (cs' : Array Value) (hi : L[i]? = some (c, t, cs)) (hw : Region.wanted o (yielded l.toArray a.tmps) = true) (hrun : Blk W c t cs → (execOp a.eval o).run P W = .ok .skip (W.setRow c cs'))
    (hk : ∀ W', Sp wf T0 w ds (L.set i (c, t, cs')) Rs W' → Keep [c] W W' → wpO P l K r (a.put o.dst undef) W') : wpO P l K (o :: r) a W := wpO_skip hw (hrun (h.get i hi)) (hk _ (h.set i hi) (Keep.setRow W c cs'))
end
end Go.Proofs.YtmfkkkhddigkfaaGreatDoor
/- slices.Backward over a slice of ints: what the iterator does. Conditions: see each theorem. -/
namespace Go.Proofs.YtmfkkkhddigkfaaGreatDoor
open Go Go.RowKit Go.Shelf
attribute [local go_sem] qUpon lUpon

def bwF (L : List Int) (i : Nat) : Int × Int := ((i : Int), L[i]?.getD 0)
/-- places and elements, from the end -/
def bwL (L : List Int) : List (Int × Int) := ((List.range L.length).map (bwF L)).reverse
def exA (A : Option Addr) (L : List Int) : List Nat := if L.length = 0 then [] else match A with | some a => [a.block] | none => []
theorem exA_lt {A : Option Addr} {L : List Int} {w : World} (h : SlAt encI 1 w A L) : ∀ b ∈ exA A L, b < w.heap.size := by
  intro b hb
  unfold exA at hb
  split at hb
  · simp at hb
  · rename_i hne
    obtain ⟨b', off, rfl, hlt, _⟩ := h (by rintro rfl; simp at hne)
    simp at hb
    omega
theorem bw_next (L : List Int) (k : Nat) : ((List.range (k + 1)).map (bwF L)).reverse = bwF L k :: ((List.range k).map (bwF L)).reverse := by
  rw [List.range_succ, List.map_append, List.reverse_append]; rfl

set_option maxRecDepth 100000 in
theorem back_any (A : Option Addr) (n c : Nat) (w : World) : Calls Tryz.prog 56 #[.slice A n c] w fun e w' => e = .returned (.func (.func 84) #[] #[.pointer (some ⟨w.heap.size, 0, none⟩)]) ∧ w' = w.alloc (.cells #[.slice A n c] 31) := by
  go_enter Tryz.func56, Tryz.ntmps56
  go_wp2_with fail
  go_ret
  exact ⟨rfl, rfl⟩

set_option maxRecDepth 100000 in
set_option maxHeartbeats 4000000 in
theorem back_iter (A : Option Addr) (L : List Int) (c bN : Nat) (w : World) (hB : Blk w bN 31 #[.slice A L.length c]) (hL : SlAt encI 1 w A L) (hl : L.length ≤ 100000000) :
    Iter1 Tryz.prog 84 #[.pointer (some ⟨bN, 0, none⟩)] (fun p : Int × Int => #[.int .i64 p.1, .int .i64 p.2]) (bwL L) 0 (bN :: exA A L) w := by
  intro l J Jx W hW hJ hJx hY h0
  have hBW := hide (hB.ext hW)
  have hLW := hide (hL.ext hW)
  have hl' := hide hl
  have hY' := hide hY
  have h0' := hide h0
  have c0 := (unhide hBW).cells 0 (v := .slice A L.length c) rfl
  have hself := Ext.refl W
  clear hB hL hW hJ hJx hY h0 hl
  refine callsIn_of_wp Tryz.func84 rfl trivial ?_ rfl
  simp only [Tryz.ntmps84, List.size_toArray, List.length_cons, List.length_nil, Nat.reduceAdd, Nat.reduceSub, Array.replicate_succ, Array.replicate_zero, List.push_toArray, List.append_toArray, List.nil_append, List.cons_append]
  try dsimp only
  repeat (first | (with_reducible refine wpW_reg (id := 0) (by kernel_rfl) ?_) | go_values | gi_step | gi_guarded | gi_upon | gi_in | gi_back | fail)
  iterate 4
    refine wpO_want rfl ?_
    go_simp
  refine wpO_done ?_
  have hm1 : IntKind.i64.wrap ((L.length : Int) - 1) = (L.length : Int) - 1 := IntWalk.i64_in _ (by have := unhide hl'; omega)
  try rw [hm1]
  clear c0 hself hm1
  gi_wp2_with fail
  gi_loopw [3] (fun i wr => ∃ (pre : List (Int × Int)) (k : Nat), k ≤ L.length ∧ bwL L = pre ++ ((List.range k).map (bwF L)).reverse ∧ i = .int .i64 ((k : Int) - 1) ∧ Blk wr bN 31 #[.slice A L.length c] ∧ SlAt encI 1 wr A L ∧ J pre wr ∧ W.heap.size ≤ wr.heap.size) (fun i _ => (intOf i + 1).toNat)
  case atStart => exact ⟨[], L.length, Nat.le_refl _, rfl, rfl, unhide hBW, unhide hLW, unhide h0', Nat.le_refl _⟩
  case round =>
    obtain ⟨pre, k, hk, hpre, rfl, hB, hL, hJp, hsz⟩ := hrel
    cases k with
    | zero =>
      rw [List.range_zero, List.map_nil, List.reverse_nil, List.append_nil] at hpre
      have hJp' := hide hJp
      have hpre' := hide hpre
      clear hB hL hJp hpre hY' h0' hBW hLW hsz
      gi_wp2_with fail
      go_end0
      exact ⟨⟨_, rfl⟩, .inl (by rw [unhide hpre']; exact unhide hJp')⟩
    | succ k =>
      rw [bw_next] at hpre
      have hp1 : (pre ++ [bwF L k]) <+: bwL L := ⟨((List.range k).map (bwF L)).reverse, by rw [hpre]; simp⟩
      obtain ⟨fn, tmps, assign, body, hy, hRd⟩ := unhide hY' pre (bwF L k) wr hJp hp1 hsz
      obtain ⟨b, off, rfl, d0⟩ := atI hL hk
      have hx : bwF L k = ((k : Int), L[k]) := by unfold bwF; rw [List.getElem?_eq_getElem hk, Option.getD_some]
      rw [hx] at hy
      simp only at hy
      have hB' := hide hB
      have hL' := hide hL
      have hpre' := hide hpre
      have hRd' := hide hRd
      have hsz' := hide hsz
      have c0 := hB.cells 0 (v := .slice (some ⟨b, off, none⟩) L.length c) rfl
      have hself := Ext.refl wr
      have hk1 : ((k + 1 : Nat) : Int) - 1 = (k : Int) := by omega
      generalize L[k] = x at d0 hy
      clear hB hL hJp hpre h0' hBW hLW hRd hsz hp1 hY' hx
      rw [hk1]
      clear hk1
      gi_wp2_with fail
      refine ⟨rfl, (unhide hRd').mono ?_⟩
      rintro e W6 ⟨(⟨rfl, hJ6⟩ | ⟨rfl, hJx6⟩), hsame, hsz6⟩
      · have hB6 := hide ((unhide hB').of_block (hsame bN (List.mem_append.2 (.inr (by simp)))))
        have hL6 := hide ((unhide hL').of_blocks hsz6 (fun b' off' e _ => hsame b' (List.mem_append.2 (.inr (by injection e with e; injection e with e1; subst e1; have hne : L.length ≠ 0 := (by omega); simp [exA, hne])))))
        have hJ6' := hide hJ6
        have hsz6' := hide (Nat.le_trans (unhide hsz') hsz6)
        clear hsame hsz6 hB' hL' hJ6 hRd' hsz' hy c0 d0 hself
        have hkl : (k : Int) < 100000000 := by have := unhide hl'; omega
        gi_wp2_with fail
        go_roundw
        case rel => exact ⟨pre ++ [bwF L k], k, by omega, by rw [unhide hpre']; simp, by go_num, unhide hB6, unhide hL6, unhide hJ6', unhide hsz6'⟩
        case measure => simp [intOf]
      · have hJx6' := hide hJx6
        clear hJx6 hsame hsz6 hy hRd'
        gi_wp2_with fail
        refine bodyPost_ret (results_none rfl _ _ _) rfl ?_
        exact ⟨⟨_, rfl⟩, .inr ⟨_, unhide hJx6'⟩⟩
end Go.Proofs.YtmfkkkhddigkfaaGreatDoor
/- COLORINGS, plain: package chordal's and the reference's agree; a perfect order gives as many colors as the largest clique has vertices. No program in sight. Conditions: see each theorem. -/
namespace Go.Proofs.YtmfkkkhddigkfaaGreatDoor
open Go

section
variable {κ τ : Type} [DecidableEq κ]
theorem look_map (u x : κ) (v : τ) : ∀ M : List (κ × τ), lookM (M.map fun p => if p.1 = u then (u, v) else p) x = if x = u ∧ (lookM M u).isSome = true then some v else lookM M x
  | [] => by simp [lookM]
  | p :: r => by
    have ih := look_map u x v r
    unfold lookM at ih ⊢
    rw [List.map_cons, List.find?_cons, List.find?_cons, List.find?_cons]
    by_cases h1 : p.1 = u
    · by_cases h2 : x = u
      · subst h2; simp [h1]
      · have h3 : ¬ u = x := fun e => h2 e.symm
        rw [if_pos h1, decide_eq_false h3, decide_eq_false (show ¬ p.1 = x from fun e => h3 (h1.symm.trans e)), ih, if_neg (fun h => h2 h.1), if_neg (fun h => h2 h.1)]
    · rw [if_neg h1, decide_eq_false h1]
      by_cases h2 : p.1 = x
      · have h3 : ¬ x = u := fun e => h1 (h2.trans e)
        rw [decide_eq_true h2, if_neg (fun h => h3 h.1)]
      · rw [decide_eq_false h2, ih]
theorem look_put (M : List (κ × τ)) (u x : κ) (v : τ) : lookM (putM M u v) x = if x = u then some v else lookM M x := by
  unfold putM
  split
  · rename_i h
    rw [look_map]
    by_cases h2 : x = u
    · rw [if_pos ⟨h2, h⟩, if_pos h2]
    · rw [if_neg (fun h => h2 h.1), if_neg h2]
  · rename_i h
    have h0 : lookM M u = none := by simpa using h
    unfold lookM at h0 ⊢
    rw [List.find?_append]
    by_cases h2 : x = u
    · subst h2
      have h1 : M.find? (fun p => decide (p.1 = x)) = none := by simpa using h0
      rw [h1, if_pos rfl]
      simp
    · rw [if_neg h2]
      have h3 : ¬ u = x := fun e => h2 e.symm
      simp [h3]
end

section
variable {V : List (Int × Thing)} {E : List ((Int × Int) × Thing)}
theorem colS_cons (v : Int) (l : List Int) : colS E (v :: l) = colStep E (colS E l) v := by
  unfold colS
  rw [List.reverse_cons, List.foldl_append]; rfl
theorem mem_taken (hi : GInv V E) {M : List (Int × Int)} {v c : Int} : c ∈ takenS E M v ↔ ∃ u, hasE v u E = true ∧ lookM M u = some c := by
  unfold takenS
  rw [List.mem_filterMap]
  constructor
  · rintro ⟨u, h1, h2⟩; exact ⟨u, (mem_near hi).1 h1, h2⟩
  · rintro ⟨u, h1, h2⟩; exact ⟨u, (mem_near hi).2 h1, h2⟩
/-- what holds of the vertices that are colored -/
structure ColInv (E : List ((Int × Int) × Thing)) (l : List Int) (s : List (Int × Int) × Int) : Prop where
  dom : ∀ x, (lookM s.1 x).isSome = true ↔ x ∈ l
  rng : ∀ x c, lookM s.1 x = some c → 0 ≤ c ∧ c < s.2
  proper : ∀ x y c d, hasE x y E = true → lookM s.1 x = some c → lookM s.1 y = some d → c ≠ d
  many : 0 ≤ s.2
theorem colS_inv (hi : GInv V E) : ∀ l : List Int, l.Nodup → ColInv E l (colS E l)
  | [], _ => ⟨fun x => by simp [colS, lookM], fun x c h => by simp [colS, lookM] at h, fun x y c d _ h => by simp [colS, lookM] at h, by simp [colS]⟩
  | v :: l, hn => by
    obtain ⟨hv, hn2⟩ := List.nodup_cons.1 hn
    have ih := colS_inv hi l hn2
    have hm := mex_spec (takenS E (colS E l).1 v)
    rw [colS_cons]
    generalize colS E l = s at *
    unfold colStep
    generalize mexL (takenS E s.1 v) = c0 at *
    have hc0 := hm.1
    refine ⟨fun x => ?_, fun x c h => ?_, fun x y c d he h1 h2 => ?_, ?_⟩
    · simp only
      rw [look_put, List.mem_cons]
      by_cases e : x = v
      · rw [if_pos e]; simp [e]
      · rw [if_neg e, ih.dom]; simp [e]
    · simp only at h ⊢
      rw [look_put] at h
      split at h
      · cases h; exact ⟨hc0, by omega⟩
      · have := ih.rng x c h; omega
    · simp only at h1 h2
      rw [look_put] at h1 h2
      have hne := hasE_ne hi he
      split at h1
      · rename_i e
        subst e
        rw [if_neg (fun e => hne e.symm)] at h2
        cases h1
        rintro rfl
        exact hm.2.1 ((mem_taken hi).2 ⟨y, he, h2⟩)
      · split at h2
        · rename_i e
          subst e
          cases h2
          rintro rfl
          exact hm.2.1 ((mem_taken hi).2 ⟨x, hasE_symm he, h1⟩)
        · exact ih.proper x y c d he h1 h2
    · simp only
      have := ih.many
      omega
/-- a clique of as many vertices as there are colors -/
theorem col_clique (hi : GInv V E) : ∀ l : List Int, l.Nodup → Peo E l → ∃ K : List Int, K.Nodup ∧ (∀ x ∈ K, x ∈ l) ∧ Clq E K ∧ (colS E l).2 ≤ (K.length : Int)
  | [], _, _ => ⟨[], by simp, by simp, fun x hx => by simp at hx, by simp [colS]⟩
  | v :: l, hn, hp => by
    obtain ⟨hv, hn2⟩ := List.nodup_cons.1 hn
    obtain ⟨K, h1, h2, h3, h4⟩ := col_clique hi l hn2 hp.2
    have hI := colS_inv hi l hn2
    have hm := mex_spec (takenS E (colS E l).1 v)
    rw [colS_cons]
    generalize colS E l = s at *
    unfold colStep
    simp only
    generalize mexL (takenS E s.1 v) = c0 at *
    by_cases hc : c0 + 1 ≤ s.2
    · exact ⟨K, h1, fun x hx => by simp [h2 x hx], h3, by omega⟩
    · have hc0 := hm.1
      refine ⟨v :: nbrR E v l, List.nodup_cons.2 ⟨fun h => hv (mem_nbr.1 h).1, hn2.filter _⟩, fun x hx => ?_, fun x hx y hy hne => ?_, ?_⟩
      · rcases List.mem_cons.1 hx with rfl | hx
        · simp
        · simp [(mem_nbr.1 hx).1]
      · rcases List.mem_cons.1 hx with rfl | hx
        · rcases List.mem_cons.1 hy with rfl | hy
          · exact absurd rfl hne
          · exact (mem_nbr.1 hy).2.2
        · rcases List.mem_cons.1 hy with rfl | hy
          · exact hasE_symm (mem_nbr.1 hx).2.2
          · exact hp.1 x (mem_nbr.1 hx).1 y (mem_nbr.1 hy).1 (mem_nbr.1 hx).2.2 (mem_nbr.1 hy).2.2 hne
      · have : c0.toNat ≤ ((nbrR E v l).filterMap (lookM s.1)).length := run_len fun d hd0 hd => by
          obtain ⟨u, hu1, hu2⟩ := (mem_taken hi).1 (hm.2.2 d hd0 (by omega))
          refine List.mem_filterMap.2 ⟨u, mem_nbr.2 ⟨?_, (hasE_ne hi hu1).symm, hu1⟩, hu2⟩
          rw [← hI.dom, hu2]; rfl
        have h5 := List.length_filterMap_le (lookM s.1) (nbrR E v l)
        rw [List.length_cons]
        omega
/-- no clique has more -/
theorem clique_col (hi : GInv V E) {l K : List Int} (hn : l.Nodup) (hk : K.Nodup) (hs : ∀ x ∈ K, x ∈ l) (hc : Clq E K) : (K.length : Int) ≤ (colS E l).2 := by
  have hI := colS_inv hi l hn
  generalize colS E l = s at *
  have hsome : ∀ x ∈ K, ∃ c, lookM s.1 x = some c := fun x hx => Option.isSome_iff_exists.1 ((hI.dom x).2 (hs x hx))
  have h1 : (K.map fun x => (lookM s.1 x).getD 0).Nodup := by
    rw [List.nodup_iff_pairwise_ne, List.pairwise_map]
    refine (List.nodup_iff_pairwise_ne.1 hk).imp_of_mem fun {x y} hx hy hne => ?_
    obtain ⟨c, h2⟩ := hsome x hx
    obtain ⟨d, h3⟩ := hsome y hy
    rw [h2, h3]
    exact hI.proper x y c d (hc x hx y hy hne) h2 h3
  have h2 := len_le_sub _ ((List.range s.2.toNat).map fun (i : Nat) => (i : Int)) h1 (fun z hz => by
    obtain ⟨x, hx, rfl⟩ := List.mem_map.1 hz
    obtain ⟨c, h2⟩ := hsome x hx
    have h3 := hI.rng x c h2
    rw [h2]
    refine List.mem_map.2 ⟨c.toNat, List.mem_range.2 (by omega), ?_⟩
    simp only [Option.getD_some]
    omega)
  have h3 := hI.many
  simp only [List.length_map, List.length_range] at h2
  omega

/-- the reference's coloring: the places' colors, and how many -/
def takenR (E : List ((Int × Int) × Thing)) (I C : List Int) (v : Int) : List Int := (List.range I.length).filterMap fun k => if hasE (I[k]?.getD 0) v E = true then C[k]? else none
noncomputable def colRStep (V : List (Int × Thing)) (E : List ((Int × Int) × Thing)) (s : List Int × Int) (v : Int) : List Int × Int :=
  (s.1.set (posI (fun p => p.1 == v) V).toNat (mexL (takenR E (V.map (·.1)) s.1 v)), max s.2 (mexL (takenR E (V.map (·.1)) s.1 v) + 1))
noncomputable def colR (V : List (Int × Thing)) (E : List ((Int × Int) × Thing)) (o : List Int) : List Int × Int := o.reverse.foldl (colRStep V E) (List.replicate V.length (-1), 0)
theorem colR_cons (v : Int) (l : List Int) : colR V E (v :: l) = colRStep V E (colR V E l) v := by
  unfold colR
  rw [List.reverse_cons, List.foldl_append]; rfl
theorem colR_eq (hi : GInv V E) : ∀ l : List Int, l.Nodup → (∀ x ∈ l, x ∈ V.map (·.1)) → (colR V E l).1 = (V.map (·.1)).map (fun x => (lookM (colS E l).1 x).getD (-1)) ∧ (colR V E l).2 = (colS E l).2
  | [], _, _ => by
    refine ⟨?_, rfl⟩
    show List.replicate V.length (-1) = _
    rw [List.map_map]
    apply List.ext_getElem
    · simp
    · intro k h1 h2
      simp [colS, lookM]
  | v :: l, hn, hm => by
    obtain ⟨hv, hn2⟩ := List.nodup_cons.1 hn
    obtain ⟨h1, h2⟩ := colR_eq hi l hn2 (fun x hx => hm x (by simp [hx]))
    have hI := colS_inv hi l hn2
    have hvm := hm v (by simp)
    have hIn := sv_nodup hi.sv
    rw [colR_cons, colS_cons]
    generalize colR V E l = r at *
    generalize colS E l = s at *
    unfold colRStep colStep
    simp only
    have hmex : mexL (takenR E (V.map (·.1)) r.1 v) = mexL (takenS E s.1 v) := by
      refine (mex_spec _).uniq ((mex_spec _).congr fun x hx => ?_)
      rw [mem_taken hi]
      unfold takenR
      rw [List.mem_filterMap]
      constructor
      · rintro ⟨u, hu1, hu2⟩
        obtain ⟨k, hk, rfl⟩ := List.getElem_of_mem (hasE_rng hi hu1).2
        refine ⟨k, List.mem_range.2 hk, ?_⟩
        rw [List.getElem?_eq_getElem hk, Option.getD_some, if_pos (hasE_symm hu1), h1, List.getElem?_map, List.getElem?_eq_getElem hk, Option.map_some, hu2]
        rfl
      · rintro ⟨k, hk, h3⟩
        have hk := List.mem_range.1 hk
        rw [List.getElem?_eq_getElem hk, Option.getD_some] at h3
        split at h3
        · rename_i he
          rw [h1, List.getElem?_map, List.getElem?_eq_getElem hk, Option.map_some] at h3
          refine ⟨_, hasE_symm he, ?_⟩
          cases hl : lookM s.1 (V.map (·.1))[k] with
          | none => rw [hl] at h3; injection h3 with h3; simp at h3; omega
          | some c => rw [hl] at h3; injection h3 with h3; rw [← h3]; rfl
        · cases h3
    rw [hmex, h2]
    refine ⟨?_, rfl⟩
    generalize mexL (takenS E s.1 v) = c0 at *
    rw [h1]
    obtain ⟨j, hj, hjv⟩ := List.getElem_of_mem hvm
    have hpos : (posI (fun p : Int × Thing => p.1 == v) V).toNat = j := by
      have hjl : j < V.length := by simpa using hj
      have := posI_hit (p := fun p : Int × Thing => p.1 == v) (xs := V) (i := j) hjl (by simpa using hjv) (fun i hij => by
        rw [Bool.eq_false_iff]
        intro h
        have h5 : (V.map (·.1))[i]'(by simp; omega) = (V.map (·.1))[j] := by
          rw [hjv]
          simpa using h
        have := (List.getElem_inj hIn).1 h5
        omega)
      rw [this]; simp
    rw [hpos]
    clear hpos hmex h1 hvm hm
    generalize V.map (·.1) = I at *
    apply List.ext_getElem
    · simp
    · intro k h3 h4
      rw [List.getElem_set, List.getElem_map, List.getElem_map, look_put]
      by_cases e : j = k
      · subst e
        rw [if_pos rfl, hjv, if_pos rfl]; rfl
      · rw [if_neg e, if_neg (fun h => e ((List.getElem_inj hIn).1 (hjv.trans h.symm)))]
theorem colR_out (hi : GInv V E) {o : List Int} (hn : o.Nodup) (hm : ∀ x, x ∈ o ↔ x ∈ V.map (·.1)) : (colR V E o).1 = colOut V E o := by
  rw [(colR_eq hi o hn (fun x hx => (hm x).1 hx)).1]
  unfold colOut
  rw [toL_vS hi]
  refine List.map_congr_left fun x hx => ?_
  obtain ⟨c, hc⟩ := Option.isSome_iff_exists.1 (((colS_inv hi o hn).dom x).2 ((hm x).2 hx))
  rw [hc]; rfl
end
end Go.Proofs.YtmfkkkhddigkfaaGreatDoor
