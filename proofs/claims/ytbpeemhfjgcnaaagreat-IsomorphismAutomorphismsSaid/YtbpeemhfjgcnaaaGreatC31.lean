/- Parts of a proof, laid together. Each part says its own conditions. -/
import Derived.Test.YtbpeemhfjgcnaaaGreatC27
import Derived.Test.YtbpeemhfjgcnaaaGreatC24
import Derived.Test.YtbpeemhfjgcnaaaGreatC19
import Derived.Test.YtbpeemhfjgcnaaaGreatC20
import Derived.Test.YtbpeemhfjgcnaaaGreatC6
namespace Go.Proofs.YtbpeemhfjgcnaaaGreat
open Go Go.RowKit Go.Shelf
attribute [local go_sem] qUpon lUpon
attribute [local irreducible] wpO wpX wpQL
theorem Sp.build0O {P : Program} {wf : World} {T0 : List Nat} {w W : World} {ds : List Deferred} {L : List Cl} {Rs : List Rw} {l : List Oper} {K : Act → World → Prop} {r : List Oper} {o : Oper} {a : Act} (h : Sp wf T0 w ds L Rs W) (t k : Nat) (hk0 : k ≠ 0) (hw : Region.wanted o (yielded l.toArray a.tmps) = true) (hrun : (execOp a.eval o).run P W = .ok (.value (.slice (some ⟨W.heap.size,0,none⟩) 0 0)) (W.alloc (.cells #[] t)))
  (hk : ∀ b W',Sp wf T0 w ds L (Rs ++ [(t,k, .slice (some ⟨b,0,none⟩) 0 0,0,[])]) W' → wpO P l K r (a.put o.dst (.slice (some ⟨b,0,none⟩) 0 0)) W') : wpO P l K (o :: r) a W :=
 wpO_val hw hrun (hk _ _ (h.addRow (ext_self1 W _) ⟨by simp, .inr ⟨W.heap.size,0, #[],rfl,Nat.le_refl _,Blk.new W t #[],Nat.le_refl _,Nat.zero_le _,by simp,by simp⟩⟩ hk0))
theorem infoVx : (Tryz.prog.info? 81).map (fun i => (i.zero.map (·.cells.size),i.size,i.bytes)) = some (some 3,3,24) := by kernel_rfl
def OwV (w : World) (xs : List (Int × Thing)) (e : Ending) (w' : World) : Prop := ∃ A n c,e = .returned (.slice A n c) ∧ n = xs.length ∧ w'.ownsRow w.heap.size 81 3 (.slice A n c) n (xs.flatMap encV) ∧ Ext w w'
theorem OwV.mk {w w' : World} {xs : List (Int × Thing)} {A : Option Addr} {n c : Nat} (hn : n = xs.length) (h1 : w'.ownsRow w.heap.size 81 3 (.slice A n c) n (xs.flatMap encV)) (h2 : Ext w w') : OwV w xs (.returned (.slice A n c)) w' := ⟨A,n,c,rfl,hn,h1,h2⟩
set_option maxRecDepth 100000 in
set_option maxHeartbeats 16000000 in
theorem cloneI_any (A : Option Addr) (xs : List Int) (n cA : Nat) (w : World) (hA : SlAt encI 1 w A xs) (hn : n = xs.length) (hl : n ≤ 100000) :
  Calls Tryz.prog 46 #[.slice A n cA] w (OwJ w xs) := by
 have hA' := hide hA
 have hn' := hide hn
 have hl' := hide hl
 clear hA hn hl
 have hP := hide (Sp.new w)
 cases A with
 | none =>
  refine callsIn_wide.1 (callsIn_of_wp_marks (n := 0) Tryz.func46 rfl trivial (wpIn_wide.2 ?_))
  simp only [Tryz.ntmps46,List.size_toArray,List.length_cons,List.length_nil,Nat.reduceAdd,Nat.reduceSub,Array.replicate_succ,Array.replicate_zero,List.push_toArray,List.append_toArray,List.nil_append,List.cons_append]
  try dsimp only
  repeat ((fail_if_success (with_reducible refine wp_reg (id := 0) ?_)); (first | go_values | go_skip | go_step | go_guarded | go_upon | go_in | go_back | fail))
  with_reducible refine wp_reg (id := 0) ?_
  refine wpO_want rfl ?_
  go_simp
  refine wpO_done ?_
  try go_frame
  try dsimp only
  repeat ((fail_if_success (with_reducible refine wp_reg (id := 1) ?_)); (first | go_values | go_skip | go_step | go_guarded | go_upon | go_in | go_back | fail))
  with_reducible refine wp_reg (id := 1) ?_
  iterate 2
   refine wpO_want rfl ?_
   go_simp
  refine wpO_done ?_
  try go_frame
  try dsimp only
  repeat ((fail_if_success (with_reducible refine wp_reg (id := 2) ?_)); (first | go_values | go_skip | go_step | go_guarded | go_upon | go_in | go_back | fail))
  with_reducible refine wp_reg (id := 2) ?_
  refine wpO_want rfl ?_
  go_simp
  refine wpO_done ?_
  try go_frame
  go_wp2_with fail
  have hx0 : xs = [] := Classical.byContradiction fun hne => by
   obtain ⟨b,off,h1,_⟩ := unhide hA' hne
   cases h1
  refine Sp.leaves0 ?_
  refine ⟨_,results_tmp rfl _ _ _, ?_⟩
  subst hx0
  exact OwJ.mk rfl (World.ownsRow_nil _ _ _ _) (unhide hP).extf
 | some ad =>
  refine callsIn_wide.1 (callsIn_of_wp_marks (n := 0) Tryz.func46 rfl trivial (wpIn_wide.2 ?_))
  simp only [Tryz.ntmps46,List.size_toArray,List.length_cons,List.length_nil,Nat.reduceAdd,Nat.reduceSub,Array.replicate_succ,Array.replicate_zero,List.push_toArray,List.append_toArray,List.nil_append,List.cons_append]
  try dsimp only
  repeat ((fail_if_success (with_reducible refine wp_reg (id := 0) ?_)); (first | go_values | go_skip | go_step | go_guarded | go_upon | go_in | go_back | fail))
  with_reducible refine wp_reg (id := 0) ?_
  refine wpO_want rfl ?_
  go_simp
  refine wpO_done ?_
  try go_frame
  try dsimp only
  repeat ((fail_if_success (with_reducible refine wp_reg (id := 1) ?_)); (first | go_values | go_skip | go_step | go_guarded | go_upon | go_in | go_back | fail))
  with_reducible refine wp_reg (id := 1) ?_
  iterate 2
   refine wpO_want rfl ?_
   go_simp
  refine wpO_done ?_
  try go_frame
  try dsimp only
  repeat ((fail_if_success (with_reducible refine wp_reg (id := 3) ?_)); (first | go_values | go_skip | go_step | go_guarded | go_upon | go_in | go_back | fail))
  with_reducible refine wp_reg (id := 3) ?_
  refine (unhide hP).build0O 3 1 (by decide) rfl (by go_simp) ?_
  intro b0 y1 hQ
  replace hP : Hid (Sp w [] w [] [] [(3,1, .slice (some ⟨b0,0,none⟩) 0 0,0,[])] y1) := hide hQ
  clear hQ
  try go_frame
  refine wpO_want rfl ?_
  go_simp
  refine (unhide hP).apAO (enc := encI) (T := 3) (ST := 31) 0 (v := .slice (some ⟨b0,0,none⟩) 0 0) (m := 0) (xs := ([] : List Int)) rfl rfl infoI Tryz.underlying31 one_encI (fun _ => rfl) (by decide) (by decide) rfl xs rfl rfl ((unhide hn').symm) ((unhide hA').ext (unhide hP).extf) (by have := unhide hl'; omega) ?_
  intro A1 cA1 y2 hQ
  replace hP : Hid (Sp w [] w [] [] [(3,1, .slice A1 (0 + n) cA1,0 + n,(([] : List Int) ++ xs).flatMap encI)] y2) := hide hQ
  clear hQ
  try go_frame
  refine wpO_want rfl ?_
  go_simp
  refine wpO_done ?_
  try go_frame
  go_wp2_with fail
  refine Sp.leaves0 ?_
  refine ⟨_,results_tmp rfl _ _ _, ?_⟩
  have ho := (unhide hP).row 0 rfl
  rw [Nat.zero_add,List.nil_append] at ho
  exact OwJ.mk (unhide hn') ho (unhide hP).extf
set_option maxRecDepth 100000 in
set_option maxHeartbeats 16000000 in
theorem cloneV_any (A : Option Addr) (xs : List (Int × Thing)) (n cA : Nat) (w : World) (hA : SlAt encV 3 w A xs) (hn : n = xs.length) (hl : n ≤ 100000) :
  Calls Tryz.prog 70 #[.slice A n cA] w (OwV w xs) := by
 have hA' := hide hA
 have hn' := hide hn
 have hl' := hide hl
 clear hA hn hl
 have hP := hide (Sp.new w)
 cases A with
 | none =>
  refine callsIn_wide.1 (callsIn_of_wp_marks (n := 0) Tryz.func70 rfl trivial (wpIn_wide.2 ?_))
  simp only [Tryz.ntmps70,List.size_toArray,List.length_cons,List.length_nil,Nat.reduceAdd,Nat.reduceSub,Array.replicate_succ,Array.replicate_zero,List.push_toArray,List.append_toArray,List.nil_append,List.cons_append]
  try dsimp only
  repeat ((fail_if_success (with_reducible refine wp_reg (id := 0) ?_)); (first | go_values | go_skip | go_step | go_guarded | go_upon | go_in | go_back | fail))
  with_reducible refine wp_reg (id := 0) ?_
  refine wpO_want rfl ?_
  go_simp
  refine wpO_done ?_
  try go_frame
  try dsimp only
  repeat ((fail_if_success (with_reducible refine wp_reg (id := 1) ?_)); (first | go_values | go_skip | go_step | go_guarded | go_upon | go_in | go_back | fail))
  with_reducible refine wp_reg (id := 1) ?_
  iterate 2
   refine wpO_want rfl ?_
   go_simp
  refine wpO_done ?_
  try go_frame
  try dsimp only
  repeat ((fail_if_success (with_reducible refine wp_reg (id := 2) ?_)); (first | go_values | go_skip | go_step | go_guarded | go_upon | go_in | go_back | fail))
  with_reducible refine wp_reg (id := 2) ?_
  refine wpO_want rfl ?_
  go_simp
  refine wpO_done ?_
  try go_frame
  go_wp2_with fail
  have hx0 : xs = [] := Classical.byContradiction fun hne => by
   obtain ⟨b,off,h1,_⟩ := unhide hA' hne
   cases h1
  refine Sp.leaves0 ?_
  refine ⟨_,results_tmp rfl _ _ _, ?_⟩
  subst hx0
  exact OwV.mk rfl (World.ownsRow_nil _ _ _ _) (unhide hP).extf
 | some ad =>
  refine callsIn_wide.1 (callsIn_of_wp_marks (n := 0) Tryz.func70 rfl trivial (wpIn_wide.2 ?_))
  simp only [Tryz.ntmps70,List.size_toArray,List.length_cons,List.length_nil,Nat.reduceAdd,Nat.reduceSub,Array.replicate_succ,Array.replicate_zero,List.push_toArray,List.append_toArray,List.nil_append,List.cons_append]
  try dsimp only
  repeat ((fail_if_success (with_reducible refine wp_reg (id := 0) ?_)); (first | go_values | go_skip | go_step | go_guarded | go_upon | go_in | go_back | fail))
  with_reducible refine wp_reg (id := 0) ?_
  refine wpO_want rfl ?_
  go_simp
  refine wpO_done ?_
  try go_frame
  try dsimp only
  repeat ((fail_if_success (with_reducible refine wp_reg (id := 1) ?_)); (first | go_values | go_skip | go_step | go_guarded | go_upon | go_in | go_back | fail))
  with_reducible refine wp_reg (id := 1) ?_
  iterate 2
   refine wpO_want rfl ?_
   go_simp
  refine wpO_done ?_
  try go_frame
  try dsimp only
  repeat ((fail_if_success (with_reducible refine wp_reg (id := 3) ?_)); (first | go_values | go_skip | go_step | go_guarded | go_upon | go_in | go_back | fail))
  with_reducible refine wp_reg (id := 3) ?_
  refine (unhide hP).build0O 81 3 (by decide) rfl (by go_simp) ?_
  intro b0 y1 hQ
  replace hP : Hid (Sp w [] w [] [] [(81,3, .slice (some ⟨b0,0,none⟩) 0 0,0,[])] y1) := hide hQ
  clear hQ
  try go_frame
  refine wpO_want rfl ?_
  go_simp
  refine (unhide hP).apAO (enc := encV) (T := 81) (ST := 82) 0 (v := .slice (some ⟨b0,0,none⟩) 0 0) (m := 0) (xs := ([] : List (Int × Thing))) rfl rfl infoVx Tryz.underlying82 one_encV (fun _ => rfl) (by decide) (by decide) rfl xs rfl rfl ((unhide hn').symm) ((unhide hA').ext (unhide hP).extf) (by have := unhide hl'; omega) ?_
  intro A1 cA1 y2 hQ
  replace hP : Hid (Sp w [] w [] [] [(81,3, .slice A1 (0 + n) cA1,0 + n,(([] : List (Int × Thing)) ++ xs).flatMap encV)] y2) := hide hQ
  clear hQ
  try go_frame
  refine wpO_want rfl ?_
  go_simp
  refine wpO_done ?_
  try go_frame
  go_wp2_with fail
  refine Sp.leaves0 ?_
  refine ⟨_,results_tmp rfl _ _ _, ?_⟩
  have ho := (unhide hP).row 0 rfl
  rw [Nat.zero_add,List.nil_append] at ho
  exact OwV.mk (unhide hn') ho (unhide hP).extf
end Go.Proofs.YtbpeemhfjgcnaaaGreat
namespace Go.Proofs.YtbpeemhfjgcnaaaGreat
def cmp2 (E : List ((Int × Int) × Thing)) (p q : List Int) : Int := if lcmp (codeP E p) (codeP E q) = 0 then lcmp p q else lcmp (codeP E p) (codeP E q)
def canF (E : List ((Int × Int) × Thing)) (s : Option (List Int)) (l : List Int) : Option (List Int) :=
 match s with
 | none => some l
 | some b => if cmp2 E l b < 0 then some l else some b
section
variable {V V' : List (Int × Thing)} {E E' : List ((Int × Int) × Thing)}
theorem cmp2_le {p q : List Int} : cmp2 E p q ≤ 0 ↔ lcmp (codeP E p) (codeP E q) < 0 ∨ (codeP E p = codeP E q ∧ lcmp p q ≤ 0) := by
 unfold cmp2
 by_cases h : lcmp (codeP E p) (codeP E q) = 0
 ·rw [if_pos h]
  exact ⟨fun k => .inr ⟨lcmp_eq h,k⟩,fun k => by
   rcases k with k | ⟨_,k⟩
   ·omega
   ·exact k⟩
 ·rw [if_neg h]
  exact ⟨fun k => .inl (by omega),fun k => by
   rcases k with k | ⟨k,_⟩
   ·omega
   ·exact absurd (lcmp_zero.2 k) h⟩
theorem cmp2_trans {p q r : List Int} (h1 : cmp2 E p q ≤ 0) (h2 : cmp2 E q r ≤ 0) : cmp2 E p r ≤ 0 := by
 rw [cmp2_le] at h1 h2 ⊢
 rcases h1 with h1 | ⟨h1,h3⟩
 ·rcases h2 with h2 | ⟨h2,_⟩
  ·exact .inl (lcmp_lt_trans h1 h2)
  ·rw [← h2]; exact .inl h1
 ·rw [h1]
  rcases h2 with h2 | ⟨h2,h4⟩
  ·exact .inl h2
  ·exact .inr ⟨h2,lcmp_le_trans h3 h4⟩
theorem cmp2_total {p q : List Int} (h : ¬ cmp2 E p q < 0) : cmp2 E q p ≤ 0 := by
 unfold cmp2 at h ⊢
 have h1 := lcmp_neg (codeP E p) (codeP E q)
 have h2 := lcmp_neg p q
 split at h <;> split <;> omega
theorem cmp2_self (p : List Int) : cmp2 E p p ≤ 0 := by
 unfold cmp2
 rw [lcmp_self,if_pos rfl,lcmp_self]
 decide
theorem canF_spec : ∀ (T : List (List Int)) (s : Option (List Int)) (b : List Int),T.foldl (canF E) s = some b → (b ∈ T ∨ s = some b) ∧ (∀ q ∈ T,cmp2 E b q ≤ 0) ∧ ∀ a,s = some a → cmp2 E b a ≤ 0
 | [],s,b,h => by
  rw [List.foldl_nil] at h
  exact ⟨.inr h,by simp,fun a ha => by rw [ha] at h; injection h with h; rw [h]; exact cmp2_self b⟩
 | l :: T,s,b,h => by
  rw [List.foldl_cons] at h
  obtain ⟨h1,h2,h3⟩ := canF_spec T _ b h
  cases s with
  | none =>
   have h4 := h3 l rfl
   refine ⟨.inl ?_,fun q hq => ?_,by simp⟩
   ·rcases h1 with h1 | h1
    ·simp [h1]
    ·unfold canF at h1; injection h1 with h1; simp [h1]
   ·rcases List.mem_cons.1 hq with rfl | hq
    ·exact h4
    ·exact h2 q hq
  | some a =>
   by_cases hc : cmp2 E l a < 0
   ·have e : canF E (some a) l = some l := by unfold canF; simp [hc]
    rw [e] at h1 h3
    have h4 := h3 l rfl
    refine ⟨.inl ?_,fun q hq => ?_,fun a' ha => ?_⟩
    ·rcases h1 with h1 | h1
     ·simp [h1]
     ·injection h1 with h1; simp [h1]
    ·rcases List.mem_cons.1 hq with rfl | hq
     ·exact h4
     ·exact h2 q hq
    ·injection ha with ha
     subst ha
     exact cmp2_trans h4 (by omega)
   ·have e : canF E (some a) l = some a := by unfold canF; simp [hc]
    rw [e] at h1 h3
    have h4 := h3 a rfl
    refine ⟨?_,fun q hq => ?_,fun a' ha => ?_⟩
    ·rcases h1 with h1 | h1
     ·exact .inl (by simp [h1])
     ·exact .inr h1
    ·rcases List.mem_cons.1 hq with rfl | hq
     ·exact cmp2_trans h4 (cmp2_total hc)
     ·exact h2 q hq
    ·injection ha with ha
     subst ha
     exact h4
theorem canF_some : ∀ (T : List (List Int)) (s : Option (List Int)),T ≠ [] ∨ s ≠ none → ∃ b,T.foldl (canF E) s = some b
 | [],s,h => by
  cases s with
  | none => simp at h
  | some b => exact ⟨b,rfl⟩
 | l :: T,s,_ => by
  rw [List.foldl_cons]
  refine canF_some T _ (.inr ?_)
  unfold canF
  cases s with
  | none => simp
  | some a => simp only; split <;> simp
def numbL (V : List (Int × Thing)) (wi : List Int) : List (List Int) := extL V [] wi V [] wi wi.length []
theorem mem_numb {wi q : List Int} (hn : wi.Nodup) : q ∈ numbL V wi ↔ q.Perm wi ∧ q.map (thV V) = wi.map (thV V) := by
 unfold numbL
 rw [mem_extL _ _ PreM.nil]
 constructor
 ·rintro ⟨h1,h2,_⟩
  simp only [List.length_nil,Nat.zero_add] at h2
  have hp : q.Perm wi := by
   refine (List.perm_ext_iff_of_nodup h1.nd hn).2 fun x => ⟨h1.sub x,fun hx => ?_⟩
   by_cases hm : x ∈ q
   ·exact hm
   ·exfalso
    have := nodup_len_le (x :: q) wi (List.nodup_cons.2 ⟨hm,h1.nd⟩) (fun y hy => by
     rcases List.mem_cons.1 hy with e | hy
     ·rw [e]; exact hx
     ·exact h1.sub y hy)
    simp only [List.length_cons] at this
    omega
  refine ⟨hp,List.ext_getElem (by simp [h2]) fun i h3 h4 => ?_⟩
  have h5 : i < q.length := by simpa using h3
  have h6 : i < wi.length := by omega
  have := h1.th i h5
  rw [getD_at h5,getD_at h6] at this
  rw [List.getElem_map,List.getElem_map]
  exact this
 ·rintro ⟨hp,hc⟩
  have hlq := hp.length_eq
  refine ⟨⟨hp.nodup_iff.2 hn,fun x hx => hp.mem_iff.1 hx,fun i hi => ?_,fun i j _ _ => rfl⟩,by simp [hlq],by simp⟩
  have h4 : i < wi.length := by omega
  have := congrArg (fun l => l[i]?) hc
  rw [getD_at hi,getD_at h4]
  simpa [hi,h4] using this
theorem numb_form {ws : List (Int × Thing)} (hi : GInv V E) (hp : ws.Perm V) (hs : ws.Pairwise fun a b => tlt b.2 a.2 = false) {b : List Int} (hb : (numbL V (ws.map (·.1))).foldl (canF E) none = some b) : b = formP V E (idsV V) := by
 have hpi : (ws.map (·.1)).Perm (idsV V) := hp.map _
 have hn := hpi.nodup_iff.2 hi.idsN
 have hth : ∀ p ∈ ws,thV V p.1 = p.2 := fun p h => th_mem hi (hp.mem_iff.1 h)
 have hK : (ws.map (·.1)).map (thV V) = ws.map (·.2) := by
  rw [List.map_map]
  exact List.map_congr_left fun p h => hth p h
 obtain ⟨h1,h2,_⟩ := canF_spec _ none b hb
 have h1 := h1.resolve_right (by simp)
 obtain ⟨h3,h4⟩ := (mem_numb hn).1 h1
 refine IsForm.uniq ?_ (formP_is V E hi.idsS)
 refine form_of (K := ws.map (·.2)) (List.pairwise_map.2 hs) ?_ (h3.trans hpi) (by rw [h4,hK]) fun q hq hqk => ?_
 ·rw [← hK]
  exact hpi.map _
 ·exact cmp2_le.1 (h2 q ((mem_numb hn).2 ⟨hq.trans hpi.symm,by rw [hK]; exact hqk⟩))
theorem numb_some {wi : List Int} (hn : wi.Nodup) : ∃ b,(numbL V wi).foldl (canF E) none = some b :=
 canF_some _ _ (.inl (List.ne_nil_of_mem ((mem_numb hn).2 ⟨List.Perm.refl _,rfl⟩)))
end
end Go.Proofs.YtbpeemhfjgcnaaaGreat
namespace Go.Proofs.YtbpeemhfjgcnaaaGreat
open Go Go.RowKit Go.Shelf
attribute [local go_sem] qUpon lUpon
attribute [local irreducible] wpO wpX wpQL
theorem lcmp_drop {L M : List Int} {i : Nat} (hi : i < L.length) (hj : i < M.length) : lcmp (L.drop i) (M.drop i) = if cmpI L[i] M[i] = 0 then lcmp (L.drop (i + 1)) (M.drop (i + 1)) else cmpI L[i] M[i] := by
 rw [List.drop_eq_getElem_cons hi,List.drop_eq_getElem_cons hj]
 unfold cmpI
 rw [lcmp]
 split
 ·rw [if_neg (by decide)]
 ·split
  ·rw [if_neg (by decide)]
  ·rw [if_pos rfl]
theorem lcmp_left {L M : List Int} {i : Nat} (hi : i < L.length) (hj : M.length ≤ i) : lcmp (L.drop i) (M.drop i) = 1 := by
 rw [List.drop_eq_getElem_cons hi,List.drop_eq_nil_of_le hj]
 rfl
theorem lcmp_over {L M : List Int} {i : Nat} (hi : L.length = i) : lcmp (L.drop i) (M.drop i) = if i < M.length then -1 else 0 := by
 rw [List.drop_eq_nil_of_le (by omega)]
 split
 ·rename_i h
  rw [List.drop_eq_getElem_cons h]
  rfl
 ·rw [List.drop_eq_nil_of_le (by omega)]
  rfl
set_option maxRecDepth 100000 in
set_option maxHeartbeats 16000000 in
theorem compare_any (A B : Option Addr) (L M : List Int) (n m cA cB : Nat) (w : World) (hA : SlAt encI 1 w A L) (hB : SlAt encI 1 w B M) (hn : n = L.length) (hm : m = M.length) (hl : n ≤ 100000) (hl2 : m ≤ 100000) :
  Calls Tryz.prog 45 #[.slice A n cA, .slice B m cB] w fun e w' => e = .returned (.int .i64 (lcmp L M)) ∧ Ext w w' := by
 have hA' := hide hA
 have hB' := hide hB
 have hn' := hide hn
 have hm' := hide hm
 have hl' := hide hl
 have hl2' := hide hl2
 clear hA hB hn hm hl hl2
 have hP := hide (Sp.new w)
 refine callsIn_wide.1 (callsIn_of_wp_marks (n := 0) Tryz.func45 rfl trivial (wpIn_wide.2 ?_))
 simp only [Tryz.ntmps45,List.size_toArray,List.length_cons,List.length_nil,Nat.reduceAdd,Nat.reduceSub,Array.replicate_succ,Array.replicate_zero,List.push_toArray,List.append_toArray,List.nil_append,List.cons_append]
 try dsimp only
 repeat ((fail_if_success (with_reducible refine wp_reg (id := 0) ?_)); (first | go_values | go_skip | go_step | go_guarded | go_upon | go_in | go_back | fail))
 with_reducible refine wp_reg (id := 0) ?_
 refine wpO_want rfl ?_
 go_simp
 refine wpO_done ?_
 try go_frame
 try dsimp only
 repeat ((fail_if_success (with_reducible refine wp_reg (id := 1) ?_)); (first | go_values | go_skip | go_step | go_guarded | go_upon | go_in | go_back | fail))
 with_reducible refine wp_reg (id := 1) ?_
 iterate 3
  refine wpO_want rfl ?_
  go_simp
 refine wpO_done ?_
 try go_frame
 go_wp2_with fail
 obtain ⟨I0_2,hI0_20⟩ : ∃ I : Nat → Act → World → Prop,I = fun fi a' wr => ∃ (i : Nat),a'.tmps.size = 36 ∧ a'.tmps.getD 0 undef = .slice A n cA ∧ a'.tmps.getD 1 undef = .slice B m cB ∧ a'.tmps.getD 4 undef = .int .i64 0 ∧ a'.tmps.getD 9 undef = .slice A n cA ∧ a'.tmps.getD 10 undef = .int .i64 (n : Nat) ∧ a'.tmps.getD 11 undef = .int .i64 (i : Nat) ∧ a'.defers = [] ∧ i ≤ n ∧ lcmp (L.drop i) (M.drop i) = lcmp L M ∧ Sp w [] w [] [] [] wr ∧ fi = n - i := ⟨_,rfl⟩
 have hI0_2 := hide hI0_20
 clear hI0_20
 refine wp_loop_ix I0_2 (n - 0) ?_ ?_
 ·rw [unhide hI0_2]; exact ⟨0,rfl,rfl,rfl,rfl,rfl,rfl,rfl,rfl,Nat.zero_le _,rfl,unhide hP,rfl⟩
 ·rintro fi ⟨tm,dfs⟩ wr hrel
  rw [unhide hI0_2] at hrel
  obtain ⟨i,hsz,e0,e1,e4,e9,e10,e11,hdf,hin,hlc,hPr,hfm⟩ := hrel
  obtain ⟨us,rfl⟩ : ∃ us : Nat → Value,tm = #[us 0,us 1,us 2,us 3,us 4,us 5,us 6,us 7,us 8,us 9,us 10,us 11,us 12,us 13,us 14,us 15,us 16,us 17,us 18,us 19,us 20,us 21,us 22,us 23,us 24,us 25,us 26,us 27,us 28,us 29,us 30,us 31,us 32,us 33,us 34,us 35] := ⟨fun i => tm.getD i undef,arr_fn hsz⟩
  have h0 : us 0 = .slice A n cA := e0
  have h1 : us 1 = .slice B m cB := e1
  have h4 : us 4 = .int .i64 0 := e4
  have h9 : us 9 = .slice A n cA := e9
  have h10 : us 10 = .int .i64 (n : Nat) := e10
  have h11 : us 11 = .int .i64 (i : Nat) := e11
  have hdf2 : dfs = [] := hdf
  subst hdf2
  clear hdf hsz e0 e1 e4 e9 e10 e11
  simp only [h0,h1,h4,h9,h10,h11]
  clear h0 h1 h4 h9 h10 h11
  clear hP
  have hP := hide hPr
  have hfm' := hide hfm
  have hlc' := hide hlc
  have hAr := hide ((unhide hA').ext (unhide hP).extf)
  have hBr := hide ((unhide hB').ext (unhide hP).extf)
  clear hPr hfm hlc
  by_cases hlt : i < n
  ·skip
   have hil : (i : Int) < (n : Int) := by omega
   have hiL : i < L.length := by have := unhide hn'; omega
   have hib : (i : Int) ≤ 100000 := by have := unhide hl'; omega
   obtain ⟨b,off,rfl,c0⟩ := atI (unhide hAr) hiL
   have hself := Ext.refl wr
   try dsimp only
   repeat ((fail_if_success (with_reducible refine wp_reg (id := 2) ?_)); (first | go_values | go_skip | go_step | go_guarded | go_upon | go_in | go_back | fail))
   with_reducible refine wp_reg (id := 2) ?_
   refine wpO_want rfl ?_
   go_simp
   refine wpO_done ?_
   try go_frame
   try dsimp only
   repeat ((fail_if_success (with_reducible refine wp_reg (id := 3) ?_)); (first | go_values | go_skip | go_step | go_guarded | go_upon | go_in | go_back | fail))
   with_reducible refine wp_reg (id := 3) ?_
   iterate 5
    refine wpO_want rfl ?_
    go_simp
   refine wpO_done ?_
   try go_frame
   clear c0 hself
   by_cases hm2 : i < m
   ·skip
    have hge : ¬ (m : Int) ≤ (i : Int) := by omega
    have hiM : i < M.length := by have := unhide hm'; omega
    obtain ⟨b2,off2,rfl,d0⟩ := atI (unhide hBr) hiM
    have hself := Ext.refl wr
    have hdr := hide (lcmp_drop hiL hiM)
    generalize L[i] = x at *
    generalize M[i] = y at *
    try dsimp only
    repeat ((fail_if_success (with_reducible refine wp_reg (id := 4) ?_)); (first | go_values | go_skip | go_step | go_guarded | go_upon | go_in | go_back | fail))
    with_reducible refine wp_reg (id := 4) ?_
    iterate 4
     refine wpO_want rfl ?_
     go_simp
    refine wpO_done ?_
    try go_frame
    try dsimp only
    repeat ((fail_if_success (with_reducible refine wp_reg (id := 6) ?_)); (first | go_values | go_skip | go_step | go_guarded | go_upon | go_in | go_back | fail))
    with_reducible refine wp_reg (id := 6) ?_
    iterate 5
     refine wpO_want rfl ?_
     go_simp
    refine wpO_done ?_
    try go_frame
    clear d0 hself
    try dsimp only
    repeat ((fail_if_success (with_reducible refine wp_reg (id := 7) ?_)); (first | go_values | go_skip | go_step | go_guarded | go_upon | go_in | go_back | fail))
    with_reducible refine wp_reg (id := 7) ?_
    iterate 3
     refine wpO_want rfl ?_
     go_simp
    refine (cmp_any x y wr).mono ?_
    rintro _ _ ⟨rfl,rfl⟩
    refine ⟨_,rfl, ?_⟩
    obtain ⟨z,hz⟩ : ∃ z,z = cmpI x y := ⟨_,rfl⟩
    rw [← hz]
    have hz' := hide hz
    clear hz
    refine wpO_want rfl ?_
    go_simp
    refine wpO_done ?_
    try go_frame
    by_cases hz0 : z = 0
    ·skip
     have hne : (z != 0) = false := by rw [hz0]; rfl
     have hz2 := hide hz0
     clear hz0
     try dsimp only
     repeat ((fail_if_success (with_reducible refine wp_reg (id := 8) ?_)); (first | go_values | go_skip | go_step | go_guarded | go_upon | go_in | go_back | fail))
     with_reducible refine wp_reg (id := 8) ?_
     iterate 2
      refine wpO_want rfl ?_
      go_simp
     refine wpO_done ?_
     try go_frame
     go_wp2_with fail
     have hdr2 := unhide hdr
     rw [← unhide hz',if_pos (unhide hz2)] at hdr2
     refine ⟨n - (i + 1), ?_,by have := unhide hfm'; omega⟩
     rw [unhide hI0_2]
     exact ⟨i + 1,(by first | rfl | trivial),(by first | rfl | trivial),(by first | rfl | trivial),(by first | rfl | trivial),(by first | rfl | trivial),(by first | rfl | trivial),(by first | rfl | (show _ = Value.int _ _; go_num) | go_num),(by first | rfl | trivial),by omega,by rw [← hdr2]; exact unhide hlc',unhide hP,rfl⟩
    ·skip
     have hne : (z != 0) = true := by simp [hz0]
     have hz2 := hide hz0
     clear hz0
     try dsimp only
     repeat ((fail_if_success (with_reducible refine wp_reg (id := 8) ?_)); (first | go_values | go_skip | go_step | go_guarded | go_upon | go_in | go_back | fail))
     with_reducible refine wp_reg (id := 8) ?_
     iterate 2
      refine wpO_want rfl ?_
      go_simp
     refine wpO_done ?_
     try go_frame
     try dsimp only
     repeat ((fail_if_success (with_reducible refine wp_reg (id := 9) ?_)); (first | go_values | go_skip | go_step | go_guarded | go_upon | go_in | go_back | fail))
     with_reducible refine wp_reg (id := 9) ?_
     iterate 2
      refine wpO_want rfl ?_
      go_simp
     refine wpO_done ?_
     try go_frame
     go_wp2_with fail
     have hdr2 := unhide hdr
     rw [← unhide hz',if_neg (unhide hz2),unhide hlc'] at hdr2
     refine Sp.leaves0 ?_
     exact ⟨_,results_tmp rfl _ _ _,by rw [hdr2]; rfl,(unhide hP).extf⟩
   ·skip
    have hge : (m : Int) ≤ (i : Int) := by omega
    have hdr := hide (lcmp_left hiL (show M.length ≤ i by have := unhide hm'; omega))
    try dsimp only
    repeat ((fail_if_success (with_reducible refine wp_reg (id := 4) ?_)); (first | go_values | go_skip | go_step | go_guarded | go_upon | go_in | go_back | fail))
    with_reducible refine wp_reg (id := 4) ?_
    iterate 4
     refine wpO_want rfl ?_
     go_simp
    refine wpO_done ?_
    try go_frame
    try dsimp only
    repeat ((fail_if_success (with_reducible refine wp_reg (id := 5) ?_)); (first | go_values | go_skip | go_step | go_guarded | go_upon | go_in | go_back | fail))
    with_reducible refine wp_reg (id := 5) ?_
    refine wpO_want rfl ?_
    go_simp
    refine wpO_done ?_
    try go_frame
    go_wp2_with fail
    have hdr2 := unhide hdr
    rw [unhide hlc'] at hdr2
    refine Sp.leaves0 ?_
    exact ⟨_,results_tmp rfl _ _ _,by rw [hdr2]; rfl,(unhide hP).extf⟩
  ·skip
   have hil : ¬ (i : Int) < (n : Int) := by omega
   obtain rfl : n = i := by omega
   have hdr := hide (lcmp_over (M := M) (show L.length = n from (unhide hn').symm))
   clear hlt hin
   by_cases hm2 : n < m
   ·skip
    have hge : (n : Int) < (m : Int) := by omega
    try dsimp only
    repeat ((fail_if_success (with_reducible refine wp_reg (id := 2) ?_)); (first | go_values | go_skip | go_step | go_guarded | go_upon | go_in | go_back | fail))
    with_reducible refine wp_reg (id := 2) ?_
    refine wpO_want rfl ?_
    go_simp
    refine wpO_done ?_
    try go_frame
    try dsimp only
    repeat ((fail_if_success (with_reducible refine wp_reg (id := 11) ?_)); (first | go_values | go_skip | go_step | go_guarded | go_upon | go_in | go_back | fail))
    with_reducible refine wp_reg (id := 11) ?_
    iterate 5
     refine wpO_want rfl ?_
     go_simp
    refine wpO_done ?_
    try go_frame
    try dsimp only
    repeat ((fail_if_success (with_reducible refine wp_reg (id := 12) ?_)); (first | go_values | go_skip | go_step | go_guarded | go_upon | go_in | go_back | fail))
    with_reducible refine wp_reg (id := 12) ?_
    refine wpO_want rfl ?_
    go_simp
    refine wpO_done ?_
    try go_frame
    go_wp2_with fail
    have hdr2 := unhide hdr
    rw [← unhide hm',if_pos hm2,unhide hlc'] at hdr2
    refine Sp.leaves0 ?_
    exact ⟨_,results_tmp rfl _ _ _,by rw [hdr2]; rfl,(unhide hP).extf⟩
   ·skip
    have hge : ¬ (n : Int) < (m : Int) := by omega
    try dsimp only
    repeat ((fail_if_success (with_reducible refine wp_reg (id := 2) ?_)); (first | go_values | go_skip | go_step | go_guarded | go_upon | go_in | go_back | fail))
    with_reducible refine wp_reg (id := 2) ?_
    refine wpO_want rfl ?_
    go_simp
    refine wpO_done ?_
    try go_frame
    try dsimp only
    repeat ((fail_if_success (with_reducible refine wp_reg (id := 11) ?_)); (first | go_values | go_skip | go_step | go_guarded | go_upon | go_in | go_back | fail))
    with_reducible refine wp_reg (id := 11) ?_
    iterate 5
     refine wpO_want rfl ?_
     go_simp
    refine wpO_done ?_
    try go_frame
    try dsimp only
    repeat ((fail_if_success (with_reducible refine wp_reg (id := 13) ?_)); (first | go_values | go_skip | go_step | go_guarded | go_upon | go_in | go_back | fail))
    with_reducible refine wp_reg (id := 13) ?_
    refine wpO_want rfl ?_
    go_simp
    refine wpO_done ?_
    try go_frame
    go_wp2_with fail
    have hdr2 := unhide hdr
    rw [← unhide hm',if_neg hm2,unhide hlc'] at hdr2
    refine Sp.leaves0 ?_
    exact ⟨_,results_tmp rfl _ _ _,by rw [hdr2]; rfl,(unhide hP).extf⟩
end Go.Proofs.YtbpeemhfjgcnaaaGreat
