/- Every input makes the law BoundsCoreMaximal answer true, and each argument reads behind the call as it read before: the given card, tied to the program's text. No condition. -/
import Derived.Test.YtoacpebmhbkmbaaGreatDoorC46
import Derived.Test.YtoacpebmhbkmbaaGreatDoorC44
import Derived.Test.YtoacpebmhbkmbaaGreatDoorC14
import Derived.Test.YtoacpebmhbkmbaaGreatDoorC45
import Derived.Test.YtoacpebmhbkmbaaGreatDoorC47
import Derived.Test.YtoacpebmhbkmbaaGreatDoorCards
import Derived.Test.YtoacpebmhbkmbaaGreatDoorTie
import Derived.WalkKit
import Derived.ProofKit
import Derived.OpenShut
import Derived.ShutString
import Derived.ChangeOld
import Derived.Below
import Derived.SevenTiedAt
namespace Go.Proofs.YtoacpebmhbkmbaaGreatDoor
open Go Go.RowKit Go.Shelf
attribute [local go_sem] qUpon lUpon
attribute [local irreducible] wpO wpX wpQL
theorem fromS_mem {l : List Int} (hr : ∀ x ∈ l,0 ≤ x ∧ x < 1024) (x : Int) : x ∈ toL (fromS l) ↔ x ∈ l := by
 rw [mem_toL',fromS_bit]
 constructor
 ·rintro ⟨h1,h2,h3⟩
  rw [Bool.and_eq_true,decide_eq_true_eq,decide_eq_true_eq] at h3
  have e : ((x.toNat : Nat) : Int) = x := by omega
  rw [e] at h3
  exact h3.2
 ·intro h
  have := hr x h
  refine ⟨this.1,this.2, ?_⟩
  rw [Bool.and_eq_true,decide_eq_true_eq,decide_eq_true_eq]
  have e : ((x.toNat : Nat) : Int) = x := by omega
  rw [e]
  exact ⟨by omega,h⟩
end Go.Proofs.YtoacpebmhbkmbaaGreatDoor
namespace Go.Proofs.YtoacpebmhbkmbaaGreatDoor
open Go Go.RowKit Go.Shelf
attribute [local go_sem] qUpon lUpon
attribute [local irreducible] wpO wpX wpQL
theorem degS_len (near : Int → Int → Bool) : ∀ (n : Nat) (L : List Int),L.length ≤ n → (degS near n L).length = L.length
 | 0,L,h => by
  have : L = [] := List.eq_nil_of_length_eq_zero (by omega)
  subst this; rfl
 | _ + 1,[],_ => rfl
 | n + 1,a :: l,h => by
  unfold degS
  simp only
  have hm := leastP_mem (degP near (a :: l)) (L := a :: l) (by simp)
  generalize leastP (degP near (a :: l)) (a :: l) = x at hm ⊢
  rw [List.length_cons,degS_len near n _ (by rw [List.length_erase_of_mem hm]; simp at h ⊢; omega),List.length_erase_of_mem hm]
  simp
theorem cnt_and {V : List (Int × Thing)} {E : List ((Int × Int) × Thing)} (hi : GInv V E) {v : Int} {M : Nat} {l : List Int} (hl : l.Pairwise (· < ·)) (hM : ∀ x,x ∈ toL M ↔ x ∈ l) : cntF (nearS v E &&& M) 1024 = degP (nr0 E) l v := by
 rw [cnt_toL]
 unfold degP
 refine congrArg List.length ?_
 refine sorted_ext (toL_sorted _) (filter_sorted hl) fun x => ?_
 rw [mem_and,mem_near hi,hM,List.mem_filter]
 exact and_comm
theorem cor_of {V : List (Int × Thing)} {E : List ((Int × Int) × Thing)} (hi : GInv V E) (k : Int) : IsCore (nr0 E) k (toL (vS V)) (corS (nr0 E) k (toL (vS V)).length (toL (vS V))) :=
 corS_core _ _ _ (Nat.le_refl _) (rep_of hi).nodup (fun _ h => h) (fun _ _ h _ => h)
theorem corS_sub (near : Int → Int → Bool) (k : Int) : ∀ (n : Nat) (L : List Int),(corS near k n L).Sublist L
 | 0,L => List.Sublist.refl _
 | n + 1,L => by
  cases h : L.find? (fun x => decide ((degP near L x : Int) < k)) with
  | none => rw [corS_stop near k (n + 1) L h]; exact List.Sublist.refl _
  | some x => rw [corS_step near k n L h]; exact (corS_sub near k n _).trans List.erase_sublist
theorem core_cnt {V : List (Int × Thing)} {E : List ((Int × Int) × Thing)} (hi : GInv V E) (k : Int) {C : List Int} (hC : C = corS (nr0 E) k (toL (vS V)).length (toL (vS V))) : (∀ x,x ∈ toL (fromS C) ↔ x ∈ C) ∧ (∀ v ∈ C,k ≤ (cntF (nearS v E &&& fromS C) 1024 : Int)) ∧ C.length ≤ 1024 ∧
  ∀ M : Nat,(∀ x ∈ toL M,x ∈ toL (vS V)) → (∀ v ∈ toL M,k ≤ (cntF (nearS v E &&& M) 1024 : Int)) → ∀ x ∈ toL M,x ∈ C := by
 have hR := rep_of hi
 have hc := cor_of hi k
 have hsb := corS_sub (nr0 E) k (toL (vS V)).length (toL (vS V))
 rw [← hC] at hc hsb
 have hcr : ∀ x ∈ C,0 ≤ x ∧ x < 1024 := fun x hx => hR.rng x (hc.sub x hx)
 have hm := fun x => fromS_mem hcr x
 have hs : C.Pairwise (· < ·) := hR.sorted.sublist hsb
 refine ⟨hm,fun v hv => ?_,Nat.le_trans hsb.length_le hR.le,fun M h1 h2 => ?_⟩
 ·rw [cnt_and hi hs hm]
  exact hc.dense v hv
 ·refine hc.top (toL M) (toL_nodup M) h1 fun v hv => ?_
  have := h2 v hv
  rw [cnt_and hi (toL_sorted M) (fun _ => Iff.rfl)] at this
  exact this
theorem dgn_le {V : List (Int × Thing)} {E : List ((Int × Int) × Thing)} (hi : GInv V E) : dgnP (nr0 E) (toL (vS V)).length (toL (vS V)) ≤ 1024 := by
 have hR := rep_of hi
 by_cases hne : toL (vS V) = []
 ·rw [hne]; show (-1 : Int) ≤ 1024; omega
 ·obtain ⟨S,h1,h2,h3,h4⟩ := dgn_down (near := nr0 E) (Nat.le_refl _) hR.nodup hne
  obtain ⟨x,hx⟩ := List.exists_mem_of_ne_nil S h3
  have h5 := h4 x hx
  have h6 : degP (nr0 E) S x ≤ S.length := List.length_filter_le _ _
  have h7 : S.length ≤ 1024 := short_of (K := 1024) h1 fun y hy => hR.rng y (h2 y hy)
  omega
theorem gl_off {w W : World} {g bv be b N : Nat} {T : TypeId} {V : List (Int × Thing)} {E : List ((Int × Int) × Thing)} (h : IsG w g bv be V E) (hb : Blk w b T (setC N)) (hK : Keep [b] w W) : IsG W g bv be V E := by
 have h0 := h
 obtain ⟨V',E',h1,h2⟩ := h
 have e0 := h1.blk
 obtain ⟨es,c1,e1,_⟩ := h1.vs
 obtain ⟨es',c2,e2,_⟩ := h1.es
 unfold Blk at hb e0
 refine h0.keep hK ?_ ?_ ?_ <;> rw [List.mem_singleton] <;> rintro rfl
 ·rw [hb] at e0
  have e3 := Option.some.inj e0
  injection e3 with e4 _
  have e5 := congrArg Array.size e4
  rw [setC_size] at e5
  simp at e5
 ·rw [hb] at e1; simp at e1
 ·rw [hb] at e2; simp at e2
section
variable {P : Program} {l : List Oper} {C : World → Prop} {safe : Nat → Bool} {Q : Act → World → Prop} {n j : Nat} {listed : Array Bool} {a : Act} {o : Oper} {wf w W : World} {T0 : List Nat} {ds : List Deferred} {L : List Cl} {Rs : List Rw}
theorem Sp.setXX (h : Sp wf T0 w ds L Rs W) (i : Nat) {c : Nat} {t : TypeId} {cs : Array Value} (cs' : Array Value) (hi : L[i]? = some (c,t,cs)) (hr : Region.ready .any l.toArray listed = [j]) (ho : pick l j = some o) (hw : Region.wanted o (yielded l.toArray a.tmps) = true) (listed' : Array Bool) (hl : listed.setIfInBounds j true = listed') (hs : safe j = false) (hrun : Blk W c t cs → (execOp a.eval o).run P W = .ok .skip (W.setRow c cs'))
  (hk : ∀ W',Sp wf T0 w ds (L.set i (c,t,cs')) Rs W' → Keep [c] W W' → wpX P l.toArray Ext C safe Q n listed' (a.put o.dst undef) W') : wpX P l.toArray Ext C safe Q (n + 1) listed a W :=
 lx_skipX hr ho hw listed' hl (hrun (h.get i hi)) (fun h => by rw [hs] at h; cases h) (fun _ hx => hk _ ((h.set i hi).ext hx) ((Keep.setRow W c cs').trans (hx.keep [c])))
end
set_option maxRecDepth 100000 in
set_option maxHeartbeats 16000000 in
theorem boundsCoreMaximal_walk (A : Option Addr) (L : List Ed) (cL : Nat) (N : Nat) (kk : Int) (w : World) (hL : SlAt encD 5 w A L) (hl : L.length ≤ 9223372036854775807) (hc : L.length ≤ cL) (_hN : N < 2 ^ (64 * 16)) (hkb : 0 ≤ kk ∧ kk ≤ 255) (hT : Tab w) :
  Calls Tryz.prog 11 #[.slice A L.length cL, .agg (setC N), .int .u8 kk] w fun e w' => e = .returned (.bool true) ∧ Ext w w' := by
 have hL' := hide hL
 have hl' := hide hl
 have hc' := hide hc
 have hT' := hide hT
 have hi := hide (show GInv (bgS L).1 (bgS L).2 from mdS_inv (L.take 40))
 have hkb' := hide hkb
 clear hkb
 clear hL hl hc hT
 have hP := hide (Sp.new w)
 refine callsIn_wide.1 (callsIn_of_wp_marks (n := 0) Tryz.func11 rfl trivial (wpIn_wide.2 ?_))
 simp only [Tryz.ntmps11,List.size_toArray,List.length_cons,List.length_nil,Nat.reduceAdd,Nat.reduceSub,Array.replicate_succ,Array.replicate_zero,List.push_toArray,List.append_toArray,List.nil_append,List.cons_append]
 try dsimp only
 repeat ((fail_if_success (with_reducible refine wp_reg (id := 0) ?_)); (first | go_values | go_skip | go_step | go_guarded | go_upon | go_in | go_back | fail))
 with_reducible refine wp_reg (id := 0) ?_
 refine (unhide hP).allocO 76 (setC N) rfl (run_box (v := .agg (setC N)) rfl rfl) ?_
 intro r4 y1 hQ
 replace hP : Hid (Sp w [] w [] [(r4,76,setC N)] [] y1) := hide hQ
 clear hQ
 refine wpO_want rfl ?_
 go_simp
 refine wpO_done ?_
 try go_frame
 try dsimp only
 repeat ((fail_if_success (with_reducible refine wp_reg (id := 1) ?_)); (first | go_values | go_skip | go_step | go_guarded | go_upon | go_in | go_back | fail))
 with_reducible refine wp_reg (id := 1) ?_
 refine wpO_want rfl ?_
 go_simp
 refine wpO_want rfl ?_
 go_simp
 have hca := begun22_any A L cL y1 ((unhide hL').ext (unhide hP).extf) (unhide hl') (unhide hc')
 generalize bgS L = S at *
 obtain ⟨V,E⟩ := S
 try dsimp only at hi hca ⊢
 refine hca.mono ?_
 clear hca
 rintro _ y2 ⟨g,bv,be,A1,B1,cA,cB,rfl,hg0,hs0,he0,hxc⟩
 refine ⟨_,rfl, ?_⟩
 replace hP : Hid (Sp w [] w [] [(r4,76,setC N)] [] y2) := hide ((unhide hP).ext hxc)
 have hg := hide hg0
 have hsV := hide hs0
 have hsE := hide he0
 obtain ⟨q,hq⟩ : ∃ q,q = decide ((L.length : Int) ≤ 40) := ⟨_,rfl⟩
 rw [← hq]
 have hnV := hide hg0.nV
 have hnE := hide hg0.nE
 clear hxc hg0 hs0 he0 hq
 generalize htu0 : Value.tuple _ = tu
 have htu := hide htu0
 clear htu0
 refine wpO_val rfl (run_move rfl rfl) ?_
 go_frame
 refine wpO_val rfl (run_extract (i := 0) (v := .pointer (some ⟨g,0,none⟩)) rfl (unhide htu).symm rfl) ?_
 go_frame
 refine wpO_val rfl (run_extract (i := 1) (v := .agg #[.slice A1 V.length cA, .slice B1 E.length cB]) rfl (unhide htu).symm rfl) ?_
 go_frame
 refine wpO_val rfl (run_extract (i := 2) (v := .bool q) rfl (unhide htu).symm rfl) ?_
 go_frame
 refine (unhide hP).allocT 41 #[.slice none 0 0, .slice none 0 0] rfl (by go_simp) ?_
 intro r8 y3 hQ hxa hga
 replace hP : Hid (Sp w [] w [] [(r4,76,setC N),(r8,41, #[.slice none 0 0, .slice none 0 0])] [] y3) := hide hQ
 clear hQ
 try go_frame
 refine wpO_want rfl ?_
 go_simp
 refine (unhide hP).setT 1 #[.slice A1 V.length cA, .slice B1 E.length cB] rfl rfl (fun hb => run_store_row (v := .agg #[.slice A1 V.length cA, .slice B1 E.length cB]) rfl (by rfl) (by rfl) (by simp [go_sem]) hb rfl (fun u hu => by simp [Value.cells] at hu; rcases hu with rfl | rfl <;> rfl)) ?_
 intro y4 hQ hkq
 replace hP : Hid (Sp w [] w [] [(r4,76,setC N),(r8,41, #[.slice A1 V.length cA, .slice B1 E.length cB])] [] y4) := hide hQ
 have hxs := hxa.of_new hkq (fun x hx => by rw [List.mem_singleton] at hx; rw [hx]; exact hga)
 clear hQ hkq hxa hga
 try go_frame
 replace hg := hide ((unhide hg).ext (hxs))
 replace hsV := hide ((unhide hsV).ext (hxs))
 replace hsE := hide ((unhide hsE).ext (hxs))
 clear hxs
 refine wpO_want rfl ?_
 go_simp
 refine wpO_done ?_
 try go_frame
 clear htu
 try dsimp only
 repeat ((fail_if_success (with_reducible refine wp_reg (id := 2) ?_)); (first | go_values | go_skip | go_step | go_guarded | go_upon | go_in | go_back | fail))
 with_reducible refine wp_reg (id := 2) ?_
 refine wpO_want rfl ?_
 go_simp
 have hca := known22_any y4 ((unhide hT').ext (unhide hP).extf)
 refine (hca).mono ?_
 rintro _ y5 ⟨rfl,hxc⟩
 clear hca
 refine ⟨_,rfl, ?_⟩
 replace hP : Hid (Sp w [] w [] [(r4,76,setC N),(r8,41, #[.slice A1 V.length cA, .slice B1 E.length cB])] [] y5) := hide ((unhide hP).ext hxc)
 replace hg := hide ((unhide hg).ext (hxc))
 replace hsV := hide ((unhide hsV).ext (hxc))
 replace hsE := hide ((unhide hsE).ext (hxc))
 clear hxc
 cases q
 ·skip
  iterate 5
   refine wpO_want rfl ?_
   go_simp
  refine wpO_done ?_
  try go_frame
  try dsimp only
  repeat ((fail_if_success (with_reducible refine wp_reg (id := 3) ?_)); (first | go_values | go_skip | go_step | go_guarded | go_upon | go_in | go_back | fail))
  with_reducible refine wp_reg (id := 3) ?_
  refine wpO_want rfl ?_
  go_simp
  have hca := known22_any y5 ((unhide hT').ext (unhide hP).extf)
  refine (hca).mono ?_
  rintro _ y6 ⟨rfl,hxc⟩
  clear hca
  refine ⟨_,rfl, ?_⟩
  replace hP : Hid (Sp w [] w [] [(r4,76,setC N),(r8,41, #[.slice A1 V.length cA, .slice B1 E.length cB])] [] y6) := hide ((unhide hP).ext hxc)
  replace hg := hide ((unhide hg).ext (hxc))
  replace hsV := hide ((unhide hsV).ext (hxc))
  replace hsE := hide ((unhide hsE).ext (hxc))
  clear hxc
  refine wpO_want rfl ?_
  go_simp
  refine wpO_done ?_
  try go_frame
  go_wp2_with fail
  refine Sp.leaves0 ?_
  exact ⟨_,results_tmp rfl _ _ _,rfl,(unhide hP).extf⟩
 ·skip
  iterate 5
   refine wpO_want rfl ?_
   go_simp
  refine wpO_done ?_
  try go_frame
  obtain ⟨n,hn⟩ : ∃ n : Nat,(n : Int) = kk % 6 := ⟨(kk % 6).toNat,by omega⟩
  have hnb := hide (show n ≤ 5 by omega)
  have htm : kk.tmod 6 = (n : Int) := by rw [Int.tmod_eq_emod_of_nonneg (unhide hkb').1,hn]
  have hn' := hide hn
  have hw8 : IntKind.u8.wrap (n : Int) = (n : Int) := by have := unhide hnb; simp [IntKind.wrap,IntKind.bits]; omega
  have hw64 : IntKind.i64.wrap (n : Int) = (n : Int) := IntWalk.i64_in _ (by have := unhide hnb; omega)
  clear hn
  try dsimp only
  repeat ((fail_if_success (with_reducible refine wp_reg (id := 4) ?_)); (first | go_values | go_skip | go_step | go_guarded | go_upon | go_in | go_back | fail))
  with_reducible refine wp_reg (id := 4) ?_
  refine wpO_want rfl ?_
  go_simp
  refine wpO_val (v := .int .u8 (n : Nat)) (w' := y5) rfl (by go_simp; first | done | (rw [htm]) | (rw [← unhide hn']) | simp [htm,unhide hn']) ?_
  go_frame
  refine wpO_val (v := .int .i64 (n : Nat)) (w' := y5) rfl (by go_simp; first | done | (rw [hw64]) | simp [hw64]) ?_
  go_frame
  refine wpO_want rfl ?_
  go_simp
  refine wpO_done ?_
  try go_frame
  clear htm hw8 hw64
  obtain ⟨C,hC⟩ : ∃ C,C = corS (nr0 E) (n : Int) (toL (vS V)).length (toL (vS V)) := ⟨_,rfl⟩
  obtain ⟨hc1,hc2,hc3,hc4⟩ := core_cnt (unhide hi) (n : Int) hC
  obtain ⟨CN,hCN⟩ : ∃ CN,CN = fromS C := ⟨_,rfl⟩
  rw [← hCN] at hc1 hc2
  obtain ⟨nC,hnC⟩ : ∃ nC,nC = C.length := ⟨_,rfl⟩
  rw [← hnC] at hc3
  have hC' := hide hC
  have hc1' := hide hc1
  have hc2' := hide hc2
  have hc3' := hide hc3
  have hc4' := hide hc4
  have hCN' := hide hCN
  have hnC' := hide hnC
  obtain ⟨EL,hEL⟩ : ∃ EL,EL = toL CN := ⟨_,rfl⟩
  obtain ⟨nE,hnE2⟩ : ∃ nE,nE = EL.length := ⟨_,rfl⟩
  have hEb := hide (show nE ≤ 1024 by rw [hnE2,hEL]; exact toL_len_le _)
  have hEL' := hide hEL
  have hnE' := hide hnE2
  clear hC hc1 hc2 hc3 hc4 hCN hnC hEL hnE2
  try dsimp only
  repeat ((fail_if_success (with_reducible refine wp_reg (id := 5) ?_)); (first | go_values | go_skip | go_step | go_guarded | go_upon | go_in | go_back | fail))
  with_reducible refine wp_reg (id := 5) ?_
  iterate 2
   refine wpO_want rfl ?_
   go_simp
  refine wpO_want rfl ?_
  go_simp
  have hca := kcore_any (some ⟨g,0,none⟩) V E (n : Int) y5 (GL.of (unhide hg)) (unhide hi) ((unhide hT').ext (unhide hP).extf)
  rw [← unhide hC'] at hca
  refine hca.mono ?_
  clear hca
  rintro _ y6 ⟨AK,cK,rfl,ho,hxc⟩
  rw [← unhide hnC'] at ho
  rw [← unhide hnC']
  refine ⟨_,rfl, ?_⟩
  replace hP : Hid (Sp w [] w [] [(r4,76,setC N),(r8,41, #[.slice A1 V.length cA, .slice B1 E.length cB])] [] y6) := hide ((unhide hP).ext hxc)
  replace hg := hide ((unhide hg).ext (hxc))
  replace hsV := hide ((unhide hsV).ext (hxc))
  replace hsE := hide ((unhide hsE).ext (hxc))
  have hsK := hide (own_at (enc := encI) (xs := C) (by rw [unhide hnC'] at ho; exact ho) (fun _ => rfl))
  clear hxc ho
  refine wpO_want rfl ?_
  go_simp
  have hca := of_any AK C cK y6 (unhide hsK) (by rw [← unhide hnC']; have := unhide hc3'; omega)
  rw [← unhide hCN', ← unhide hnC'] at hca
  refine (hca).mono ?_
  rintro _ y7 ⟨rfl,hxc⟩
  clear hca hsK
  refine ⟨_,rfl, ?_⟩
  replace hP : Hid (Sp w [] w [] [(r4,76,setC N),(r8,41, #[.slice A1 V.length cA, .slice B1 E.length cB])] [] y7) := hide ((unhide hP).ext hxc)
  replace hg := hide ((unhide hg).ext (hxc))
  replace hsV := hide ((unhide hsV).ext (hxc))
  replace hsE := hide ((unhide hsE).ext (hxc))
  clear hxc
  refine (unhide hP).allocT 76 (setC 0) rfl (run_alloc_set rfl) ?_
  intro r11 y8 hQ hxa hga
  replace hP : Hid (Sp w [] w [] [(r4,76,setC N),(r8,41, #[.slice A1 V.length cA, .slice B1 E.length cB]),(r11,76,setC 0)] [] y8) := hide hQ
  clear hQ
  try go_frame
  refine (unhide hP).setT 2 (setC CN) rfl rfl (fun hb => store_SetR (N := CN) rfl (by rfl) (by rfl) hb) ?_
  intro y9 hQ hkq
  replace hP : Hid (Sp w [] w [] [(r4,76,setC N),(r8,41, #[.slice A1 V.length cA, .slice B1 E.length cB]),(r11,76,setC CN)] [] y9) := hide hQ
  have hxs := hxa.of_new hkq (fun x hx => by rw [List.mem_singleton] at hx; rw [hx]; exact hga)
  clear hQ hkq hxa hga
  try go_frame
  replace hg := hide ((unhide hg).ext (hxs))
  replace hsV := hide ((unhide hsV).ext (hxs))
  replace hsE := hide ((unhide hsE).ext (hxs))
  clear hxs
  refine wpO_done ?_
  try go_frame
  try dsimp only
  repeat ((fail_if_success (with_reducible refine wp_reg (id := 6) ?_)); (first | go_values | go_skip | go_step | go_guarded | go_upon | go_in | go_back | fail))
  with_reducible refine wp_reg (id := 6) ?_
  refine wpO_val rfl (load_SetR (N := CN) rfl rfl ((unhide hP).get 2 rfl).whole) ?_
  try go_frame
  refine wpO_want rfl ?_
  go_simp
  have hca := elements_any CN y9 ((unhide hT').ext (unhide hP).extf)
  rw [← unhide hEL'] at hca
  refine hca.mono ?_
  clear hca
  rintro _ y10 ⟨AE,cE,rfl,ho,hxc⟩
  rw [← unhide hnE'] at ho
  rw [← unhide hnE']
  refine ⟨_,rfl, ?_⟩
  replace hP : Hid (Sp w [] w [] [(r4,76,setC N),(r8,41, #[.slice A1 V.length cA, .slice B1 E.length cB]),(r11,76,setC CN)] [(3,1, .slice AE nE cE,nE,EL.flatMap encI)] y10) := hide ((unhide hP).addRow hxc ho)
  replace hg := hide ((unhide hg).ext (hxc))
  replace hsV := hide ((unhide hsV).ext (hxc))
  replace hsE := hide ((unhide hsE).ext (hxc))
  clear hxc ho
  iterate 2
   refine wpO_want rfl ?_
   go_simp
  refine wpO_done ?_
  try go_frame
  go_wp2_with fail
  obtain ⟨I10_4,hI10_40⟩ : ∃ I : Nat → Act → World → Prop,I = fun fi a' wr => ∃ (i : Nat),a'.tmps.size = 112 ∧ a'.tmps.getD 7 undef = .pointer (some ⟨g,0,none⟩) ∧ a'.tmps.getD 10 undef = .int .i64 (n : Nat) ∧ a'.tmps.getD 11 undef = .pointer (some ⟨r11,0,none⟩) ∧ a'.tmps.getD 4 undef = .pointer (some ⟨r4,0,none⟩) ∧ a'.tmps.getD 40 undef = .slice AE nE cE ∧ a'.tmps.getD 41 undef = .int .i64 (nE : Nat) ∧ a'.tmps.getD 42 undef = .int .i64 (i : Nat) ∧ a'.defers = [] ∧ i ≤ nE ∧ IsG wr g bv be V E ∧ Sp w [] w [] [(r4,76,setC N),(r8,41, #[.slice A1 V.length cA, .slice B1 E.length cB]),(r11,76,setC CN)] [(3,1, .slice AE nE cE,nE,EL.flatMap encI)] wr ∧ fi = nE - i := ⟨_,rfl⟩
  have hI10_4 := hide hI10_40
  clear hI10_40
  refine wp_loop_ix I10_4 (nE - 0) ?_ ?_
  ·rw [unhide hI10_4]; exact ⟨0,rfl,rfl,rfl,rfl,rfl,rfl,rfl,rfl,rfl,Nat.zero_le _,unhide hg,unhide hP,rfl⟩
  ·rintro fi ⟨tm,dfs⟩ wr hrel
   rw [unhide hI10_4] at hrel
   obtain ⟨i,hsz,e7,e10,e11,e4,e40,e41,e42,hdf,hin,hgr,hPr,hfm⟩ := hrel
   obtain ⟨us,rfl⟩ : ∃ us : Nat → Value,tm = #[us 0,us 1,us 2,us 3,us 4,us 5,us 6,us 7,us 8,us 9,us 10,us 11,us 12,us 13,us 14,us 15,us 16,us 17,us 18,us 19,us 20,us 21,us 22,us 23,us 24,us 25,us 26,us 27,us 28,us 29,us 30,us 31,us 32,us 33,us 34,us 35,us 36,us 37,us 38,us 39,us 40,us 41,us 42,us 43,us 44,us 45,us 46,us 47,us 48,us 49,us 50,us 51,us 52,us 53,us 54,us 55,us 56,us 57,us 58,us 59,us 60,us 61,us 62,us 63,us 64,us 65,us 66,us 67,us 68,us 69,us 70,us 71,us 72,us 73,us 74,us 75,us 76,us 77,us 78,us 79,us 80,us 81,us 82,us 83,us 84,us 85,us 86,us 87,us 88,us 89,us 90,us 91,us 92,us 93,us 94,us 95,us 96,us 97,us 98,us 99,us 100,us 101,us 102,us 103,us 104,us 105,us 106,us 107,us 108,us 109,us 110,us 111] := ⟨fun i => tm.getD i undef,arr_fn hsz⟩
   have h7 : us 7 = .pointer (some ⟨g,0,none⟩) := e7
   have h10 : us 10 = .int .i64 (n : Nat) := e10
   have h11 : us 11 = .pointer (some ⟨r11,0,none⟩) := e11
   have h4 : us 4 = .pointer (some ⟨r4,0,none⟩) := e4
   have h40 : us 40 = .slice AE nE cE := e40
   have h41 : us 41 = .int .i64 (nE : Nat) := e41
   have h42 : us 42 = .int .i64 (i : Nat) := e42
   have hdf2 : dfs = [] := hdf
   subst hdf2
   clear hdf hsz e7 e10 e11 e4 e40 e41 e42
   simp only [h7,h10,h11,h4,h40,h41,h42]
   clear h7 h10 h11 h4 h40 h41 h42
   clear hP hg hsV hsE
   have hP := hide hPr
   have hg := hide hgr
   have hfm' := hide hfm
   clear hPr hgr hfm
   by_cases hlt : i < nE
   ·have hil : (i : Int) < (nE : Int) := by omega
    have hk2 := hide hlt
    have hiL : i < EL.length := by have := unhide hnE'; omega
    have hkb : (i : Int) ≤ 1024 := by have := unhide hEb; omega
    have hrow := (unhide hP).row 0 rfl
    rw [unhide hnE'] at hrow
    obtain ⟨bL,oL,rfl,_⟩ := sl1_some (own_at (enc := encI) (A := AE) (c := cE) (xs := EL) hrow (fun _ => rfl)) (by omega)
    have c0 := slE (own_at (enc := encI) (A := some ⟨bL,oL,none⟩) (c := cE) (xs := EL) hrow (fun _ => rfl)) hiL
    have hvc := unhide hc2' EL[i] ((unhide hc1' _).1 (by rw [← unhide hEL']; exact List.getElem_mem _))
    obtain ⟨v,hv⟩ : ∃ v,v = EL[i] := ⟨_,rfl⟩
    rw [← hv] at c0 hvc
    obtain ⟨NV,hNV⟩ : ∃ NV,NV = nearS v E := ⟨_,rfl⟩
    rw [← hNV] at hvc
    obtain ⟨cc,hcc⟩ : ∃ cc,cc = cntF (NV &&& CN) 1024 := ⟨_,rfl⟩
    rw [← hcc] at hvc
    have hd0 : ((cc : Int) < (n : Int)) = False := by rw [eq_iff_iff]; exact ⟨fun h => by omega,False.elim⟩
    have hd1 : decide ((cc : Int) < (n : Int)) = false := decide_eq_false (by omega)
    have hd2 : ¬ (cc : Int) < (n : Int) := by omega
    have hd3 : ¬ cc < n := by omega
    have hcc' := hide hcc
    have hNV' := hide hNV
    replace hd0 := hide hd0
    replace hd2 := hide hd2
    replace hd3 := hide hd3
    clear hlt hin hrow hv hcc hNV hvc hiL
    have hself := Ext.refl wr
    try dsimp only
    repeat ((fail_if_success (with_reducible refine wp_reg (id := 7) ?_)); (first | go_values | go_skip | go_step | go_guarded | go_upon | go_in | go_back | fail))
    with_reducible refine wp_reg (id := 7) ?_
    refine wpO_want rfl ?_
    go_simp
    refine wpO_done ?_
    try go_frame
    try dsimp only
    repeat ((fail_if_success (with_reducible refine wp_reg (id := 8) ?_)); (first | go_values | go_skip | go_step | go_guarded | go_upon | go_in | go_back | fail))
    with_reducible refine wp_reg (id := 8) ?_
    iterate 3
     refine wpO_want rfl ?_
     go_simp
    clear c0 hself
    refine wpO_done ?_
    try go_frame
    go_wp2_with fail
    have hself := Keep.refl [] wr
    refine wp_regionK (P := Tryz.prog) [] [0,1,2,3,4,5,6,7] [] 0 #[true,true,true,true,true,true,true,true] (by kernel_rfl) (by kernel_rfl) rfl (by rfl) ?_
    iterate 2
     refine ql_want (v := ?_) rfl (by rfl) (fun W hW => ?_) ?_
     rotate_left
     ·go_simp
      first | done | rfl
     go_frame
    refine ql_want (v := .agg (setC NV)) rfl (by rfl) (fun W hW => ?_) ?_
    ·go_simp
     refine (nearG (some ⟨g,0,none⟩) V E v W (GL.of ((unhide hg).ext hW.ext))).mono ?_
     rw [← unhide hNV']
     rintro _ _ ⟨h1,h2⟩
     exact ⟨_,h1,rfl,h2⟩
    go_frame
    refine ql_want (v := .agg (setC CN)) rfl (by rfl) (fun W hW => qUpon_ofX (load_SetR rfl rfl ((unhide hP).wholeK 2 rfl hW (by simp)))) ?_
    go_frame
    refine ql_want (v := .agg (setC (NV &&& CN))) rfl (by rfl) (fun W hW => ?_) ?_
    ·go_simp
     refine (inter_any NV CN W).mono ?_
     rintro _ _ ⟨h1,h2⟩
     exact ⟨_,h1,rfl,h2⟩
    go_frame
    refine ql_want (v := .int .i64 (cc : Nat)) rfl (by rfl) (fun W hW => ?_) ?_
    ·go_simp
     refine (slen_any (NV &&& CN) W).mono ?_
     rw [← unhide hcc']
     rintro _ _ ⟨h1,h2⟩
     exact ⟨_,h1,rfl,h2⟩
    go_frame
    iterate 1
     refine ql_want (v := ?_) rfl (by rfl) (fun W hW => ?_) ?_
     rotate_left
     ·go_simp
      first | done | rfl
     go_frame
    refine ql_want (v := .bool false) rfl (by rfl) (fun W hW => ?_) ?_
    ·go_simp
     first | done | rfl | (rw [hd1]) | simp [hd1] | (have := unhide hd3; omega)
    go_frame
    refine wpQL_nil (fun y11 hxq => ?_)
    replace hP : Hid (Sp w [] w [] [(r4,76,setC N),(r8,41, #[.slice A1 V.length cA, .slice B1 E.length cB]),(r11,76,setC CN)] [(3,1, .slice (some ⟨bL,oL,none⟩) nE cE,nE,EL.flatMap encI)] y11) := hide ((unhide hP).ext hxq)
    replace hg := hide ((unhide hg).ext hxq)
    clear hxq
    refine wpX_done (by kernel_rfl) ?_
    try go_frame
    clear hself hd1
    have hw1 : IntKind.i64.wrap ((i : Int) + 1) = (i : Int) + 1 := IntWalk.i64_in _ (by omega)
    go_wp2_with fail
    have h3 := unhide hk2
    refine ⟨nE - (i + 1), ?_,by have := unhide hfm'; omega⟩
    rw [unhide hI10_4]
    exact ⟨i + 1,(by first | rfl | trivial),(by first | rfl | trivial),(by first | rfl | trivial),(by first | rfl | trivial),(by first | rfl | trivial),(by first | rfl | trivial),(by first | rfl | trivial),(by first | rfl | (show _ = Value.int _ _; go_num) | go_num),(by first | rfl | trivial),by omega,unhide hg,unhide hP,rfl⟩
   ·have hil : ¬ (i : Int) < (nE : Int) := by omega
    clear hlt hin
    obtain ⟨VS,hVS⟩ : ∃ VS,VS = vS V := ⟨_,rfl⟩
    obtain ⟨M,hM⟩ : ∃ M,M = N &&& VS := ⟨_,rfl⟩
    obtain ⟨EI,hEI⟩ : ∃ EI,EI = toL M := ⟨_,rfl⟩
    obtain ⟨nI,hnI⟩ : ∃ nI,nI = EI.length := ⟨_,rfl⟩
    have hIb := hide (show nI ≤ 1024 by rw [hnI,hEI]; exact toL_len_le _)
    have hMs := hide (show ∀ x ∈ toL M,x ∈ toL (vS V) from fun x hx => by rw [hM,hVS] at hx; exact (mem_and.1 hx).2)
    have hVS' := hide hVS
    have hM' := hide hM
    have hEI' := hide hEI
    have hnI' := hide hnI
    clear hVS hM hEI hnI
    try dsimp only
    repeat ((fail_if_success (with_reducible refine wp_reg (id := 7) ?_)); (first | go_values | go_skip | go_step | go_guarded | go_upon | go_in | go_back | fail))
    with_reducible refine wp_reg (id := 7) ?_
    refine wpO_want rfl ?_
    go_simp
    refine wpO_done ?_
    try go_frame
    go_wp2_with fail
    have hself := Keep.refl [] wr
    refine wp_regionK (P := Tryz.prog) [] [0,1,2,3] [4] 1 #[true,true,true,true,false] (by kernel_rfl) (by kernel_rfl) rfl (by rfl) ?_
    refine ql_want (v := .agg (setC N)) rfl (by rfl) (fun W hW => qUpon_ofX (load_SetR rfl rfl ((unhide hP).wholeK 0 rfl hW (by simp)))) ?_
    go_frame
    iterate 1
     refine ql_want (v := ?_) rfl (by rfl) (fun W hW => ?_) ?_
     rotate_left
     ·go_simp
      first | done | rfl
     go_frame
    refine ql_want (v := .agg (setC VS)) rfl (by rfl) (fun W hW => ?_) ?_
    ·go_simp
     refine (vsetG (some ⟨g,0,none⟩) V E W (GL.of ((unhide hg).ext hW.ext))).mono ?_
     rw [← unhide hVS']
     rintro _ _ ⟨h1,h2⟩
     exact ⟨_,h1,rfl,h2⟩
    go_frame
    refine ql_want (v := .agg (setC M)) rfl (by rfl) (fun W hW => ?_) ?_
    ·go_simp
     refine (inter_any N VS W).mono ?_
     rw [← unhide hM']
     rintro _ _ ⟨h1,h2⟩
     exact ⟨_,h1,rfl,h2⟩
    go_frame
    refine wpQL_nil (fun y11 hxq => ?_)
    replace hP : Hid (Sp w [] w [] [(r4,76,setC N),(r8,41, #[.slice A1 V.length cA, .slice B1 E.length cB]),(r11,76,setC CN)] [(3,1, .slice AE nE cE,nE,EL.flatMap encI)] y11) := hide ((unhide hP).ext hxq)
    replace hg := hide ((unhide hg).ext hxq)
    clear hxq
    clear hself
    have hbk := hide ((unhide hP).get 0 rfl)
    refine (unhide hP).setXX 0 (setC M) rfl (j := 4) (by kernel_rfl) rfl (by rfl) #[true,true,true,true,true] (by rfl) rfl (fun hb => store_SetR (N := M) rfl (by rfl) (by rfl) hb) ?_
    intro y12 hQ hkq
    replace hP : Hid (Sp w [] w [] [(r4,76,setC M),(r8,41, #[.slice A1 V.length cA, .slice B1 E.length cB]),(r11,76,setC CN)] [(3,1, .slice AE nE cE,nE,EL.flatMap encI)] y12) := hide hQ
    replace hg := hide (gl_off (unhide hg) (unhide hbk) hkq)
    clear hQ hkq hbk
    try go_frame
    refine wpX_done (by kernel_rfl) ?_
    try go_frame
    try dsimp only
    repeat ((fail_if_success (with_reducible refine wp_reg (id := 13) ?_)); (first | go_values | go_skip | go_step | go_guarded | go_upon | go_in | go_back | fail))
    with_reducible refine wp_reg (id := 13) ?_
    refine wpO_want rfl ?_
    go_simp
    refine wpO_done ?_
    try go_frame
    try dsimp only
    repeat ((fail_if_success (with_reducible refine wp_reg (id := 14) ?_)); (first | go_values | go_skip | go_step | go_guarded | go_upon | go_in | go_back | fail))
    with_reducible refine wp_reg (id := 14) ?_
    refine wpO_val rfl (load_SetR (N := M) rfl rfl ((unhide hP).get 0 rfl).whole) ?_
    try go_frame
    refine wpO_want rfl ?_
    go_simp
    have hca := elements_any M y12 ((unhide hT').ext (unhide hP).extf)
    rw [← unhide hEI'] at hca
    refine hca.mono ?_
    clear hca
    rintro _ y13 ⟨AI,cI,rfl,ho,hxc⟩
    rw [← unhide hnI'] at ho
    rw [← unhide hnI']
    refine ⟨_,rfl, ?_⟩
    replace hP : Hid (Sp w [] w [] [(r4,76,setC M),(r8,41, #[.slice A1 V.length cA, .slice B1 E.length cB]),(r11,76,setC CN)] [(3,1, .slice AE nE cE,nE,EL.flatMap encI),(3,1, .slice AI nI cI,nI,EI.flatMap encI)] y13) := hide ((unhide hP).addRow hxc ho)
    replace hg := hide ((unhide hg).ext (hxc))
    clear hxc ho
    iterate 2
     refine wpO_want rfl ?_
     go_simp
    refine wpO_done ?_
    try go_frame
    go_wp2_with fail
    obtain ⟨I13_8,hI13_80⟩ : ∃ I : Nat → Act → World → Prop,I = fun fi a' wr => ∃ (i : Nat), ∃ (dn : Bool),a'.tmps.size = 112 ∧ a'.tmps.getD 7 undef = .pointer (some ⟨g,0,none⟩) ∧ a'.tmps.getD 10 undef = .int .i64 (n : Nat) ∧ a'.tmps.getD 11 undef = .pointer (some ⟨r11,0,none⟩) ∧ a'.tmps.getD 4 undef = .pointer (some ⟨r4,0,none⟩) ∧ a'.tmps.getD 14 undef = .bool dn ∧ a'.tmps.getD 60 undef = .slice AI nI cI ∧ a'.tmps.getD 61 undef = .int .i64 (nI : Nat) ∧ a'.tmps.getD 62 undef = .int .i64 (i : Nat) ∧ a'.defers = [] ∧ i ≤ nI ∧ (dn = true → ∀ j (hj : j < EI.length),j < i → (n : Int) ≤ (cntF (nearS EI[j] E &&& M) 1024 : Int)) ∧ IsG wr g bv be V E ∧ Sp w [] w [] [(r4,76,setC M),(r8,41, #[.slice A1 V.length cA, .slice B1 E.length cB]),(r11,76,setC CN)] [(3,1, .slice AE nE cE,nE,EL.flatMap encI),(3,1, .slice AI nI cI,nI,EI.flatMap encI)] wr ∧ fi = nI - i := ⟨_,rfl⟩
    have hI13_8 := hide hI13_80
    clear hI13_80
    refine wp_loop_ix I13_8 (nI - 0) ?_ ?_
    ·rw [unhide hI13_8]; exact ⟨0,true,rfl,rfl,rfl,rfl,rfl,rfl,rfl,rfl,rfl,rfl,Nat.zero_le _,(fun _ j _ hj => absurd hj (Nat.not_lt_zero j)),unhide hg,unhide hP,rfl⟩
    ·rintro fi ⟨tm,dfs⟩ wr hrel
     rw [unhide hI13_8] at hrel
     obtain ⟨i,dn,hsz,e7,e10,e11,e4,e14,e60,e61,e62,hdf,hin,hdn,hgr,hPr,hfm⟩ := hrel
     obtain ⟨us,rfl⟩ : ∃ us : Nat → Value,tm = #[us 0,us 1,us 2,us 3,us 4,us 5,us 6,us 7,us 8,us 9,us 10,us 11,us 12,us 13,us 14,us 15,us 16,us 17,us 18,us 19,us 20,us 21,us 22,us 23,us 24,us 25,us 26,us 27,us 28,us 29,us 30,us 31,us 32,us 33,us 34,us 35,us 36,us 37,us 38,us 39,us 40,us 41,us 42,us 43,us 44,us 45,us 46,us 47,us 48,us 49,us 50,us 51,us 52,us 53,us 54,us 55,us 56,us 57,us 58,us 59,us 60,us 61,us 62,us 63,us 64,us 65,us 66,us 67,us 68,us 69,us 70,us 71,us 72,us 73,us 74,us 75,us 76,us 77,us 78,us 79,us 80,us 81,us 82,us 83,us 84,us 85,us 86,us 87,us 88,us 89,us 90,us 91,us 92,us 93,us 94,us 95,us 96,us 97,us 98,us 99,us 100,us 101,us 102,us 103,us 104,us 105,us 106,us 107,us 108,us 109,us 110,us 111] := ⟨fun i => tm.getD i undef,arr_fn hsz⟩
     have h7 : us 7 = .pointer (some ⟨g,0,none⟩) := e7
     have h10 : us 10 = .int .i64 (n : Nat) := e10
     have h11 : us 11 = .pointer (some ⟨r11,0,none⟩) := e11
     have h4 : us 4 = .pointer (some ⟨r4,0,none⟩) := e4
     have h14 : us 14 = .bool dn := e14
     have h60 : us 60 = .slice AI nI cI := e60
     have h61 : us 61 = .int .i64 (nI : Nat) := e61
     have h62 : us 62 = .int .i64 (i : Nat) := e62
     have hdf2 : dfs = [] := hdf
     subst hdf2
     clear hdf hsz e7 e10 e11 e4 e14 e60 e61 e62
     simp only [h7,h10,h11,h4,h14,h60,h61,h62]
     clear h7 h10 h11 h4 h14 h60 h61 h62
     clear hP hg
     have hP := hide hPr
     have hg := hide hgr
     have hfm' := hide hfm
     have hdn' := hide hdn
     clear hPr hgr hfm hdn
     by_cases hlt : i < nI
     ·have hil : (i : Int) < (nI : Int) := by omega
      have hk2 := hide hlt
      have hiL : i < EI.length := by have := unhide hnI'; omega
      have hkb : (i : Int) ≤ 1024 := by have := unhide hIb; omega
      have hrow := (unhide hP).row 1 rfl
      rw [unhide hnI'] at hrow
      obtain ⟨bL,oL,rfl,_⟩ := sl1_some (own_at (enc := encI) (A := AI) (c := cI) (xs := EI) hrow (fun _ => rfl)) (by omega)
      have c0 := slE (own_at (enc := encI) (A := some ⟨bL,oL,none⟩) (c := cI) (xs := EI) hrow (fun _ => rfl)) hiL
      skip
      obtain ⟨v,hv⟩ : ∃ v,v = EI[i] := ⟨_,rfl⟩
      have hv' : Hid (∀ hx : i < EI.length,v = EI[i]) := hide (fun _ => hv)
      rw [← hv] at c0
      obtain ⟨NV,hNV⟩ : ∃ NV,NV = nearS v E := ⟨_,rfl⟩
      obtain ⟨cc,hcc⟩ : ∃ cc,cc = cntF (NV &&& M) 1024 := ⟨_,rfl⟩
      obtain ⟨qd,hqd⟩ : ∃ qd,qd = decide ((n : Int) ≤ (cc : Int)) := ⟨_,rfl⟩
      have hcc' := hide hcc
      have hNV' := hide hNV
      have hqd' := hide hqd
      have hiL' := hide hiL
      clear hlt hin hrow hv hcc hNV hqd hiL
      have hself := Ext.refl wr
      try dsimp only
      repeat ((fail_if_success (with_reducible refine wp_reg (id := 15) ?_)); (first | go_values | go_skip | go_step | go_guarded | go_upon | go_in | go_back | fail))
      with_reducible refine wp_reg (id := 15) ?_
      refine wpO_want rfl ?_
      go_simp
      refine wpO_done ?_
      try go_frame
      try dsimp only
      repeat ((fail_if_success (with_reducible refine wp_reg (id := 16) ?_)); (first | go_values | go_skip | go_step | go_guarded | go_upon | go_in | go_back | fail))
      with_reducible refine wp_reg (id := 16) ?_
      iterate 3
       refine wpO_want rfl ?_
       go_simp
      clear c0 hself
      refine wpO_done ?_
      try go_frame
      go_wp2_with fail
      have hself := Keep.refl [] wr
      cases dn
      ·skip
       refine wp_regionK (P := Tryz.prog) [] [0,1,2,3,4,5,6,7,8,9,10,11] [] 0 #[true,true,true,true,true,true,true,true,true,true,true,true] (by kernel_rfl) (by kernel_rfl) rfl (by rfl) ?_
       iterate 2
        refine ql_want (v := ?_) rfl (by rfl) (fun W hW => ?_) ?_
        rotate_left
        ·go_simp
         first | done | rfl
        go_frame
       iterate 10
        first
        | (refine ql_skip rfl (by rfl) ?_)
        | (refine ql_want (v := ?_) rfl (by rfl) (fun W hW => ?_) ?_; rotate_left; (go_simp; (first | done | rfl)))
        try go_frame
       refine wpQL_nil (fun y14 hxq => ?_)
       replace hP : Hid (Sp w [] w [] [(r4,76,setC M),(r8,41, #[.slice A1 V.length cA, .slice B1 E.length cB]),(r11,76,setC CN)] [(3,1, .slice AE nE cE,nE,EL.flatMap encI),(3,1, .slice (some ⟨bL,oL,none⟩) nI cI,nI,EI.flatMap encI)] y14) := hide ((unhide hP).ext hxq)
       replace hg := hide ((unhide hg).ext hxq)
       clear hxq
       refine wpX_done (by kernel_rfl) ?_
       try go_frame
       clear hself
       have hw1 : IntKind.i64.wrap ((i : Int) + 1) = (i : Int) + 1 := IntWalk.i64_in _ (by omega)
       go_wp2_with fail
       have h3 := unhide hk2
       have hdn2 : (false = true → ∀ j (hj : j < EI.length),j < i + 1 → (n : Int) ≤ (cntF (nearS EI[j] E &&& M) 1024 : Int)) := by
        intro h; cases h
       refine ⟨nI - (i + 1), ?_,by have := unhide hfm'; omega⟩
       rw [unhide hI13_8]
       exact ⟨i + 1,false,(by first | rfl | trivial),(by first | rfl | trivial),(by first | rfl | trivial),(by first | rfl | trivial),(by first | rfl | trivial),(by first | rfl | trivial),(by first | rfl | trivial),(by first | rfl | trivial),(by first | rfl | (show _ = Value.int _ _; go_num) | go_num),(by first | rfl | trivial),by omega,hdn2,unhide hg,unhide hP,rfl⟩
      ·skip
       refine wp_regionK (P := Tryz.prog) [] [0,1,2,3,4,5,6,7,8,9,10,11] [] 0 #[true,true,true,true,true,true,true,true,true,true,true,true] (by kernel_rfl) (by kernel_rfl) rfl (by rfl) ?_
       iterate 4
        refine ql_want (v := ?_) rfl (by rfl) (fun W hW => ?_) ?_
        rotate_left
        ·go_simp
         first | done | rfl
        go_frame
       refine ql_want (v := .agg (setC NV)) rfl (by rfl) (fun W hW => ?_) ?_
       ·go_simp
        refine (nearG (some ⟨g,0,none⟩) V E v W (GL.of ((unhide hg).ext hW.ext))).mono ?_
        rw [← unhide hNV']
        rintro _ _ ⟨h1,h2⟩
        exact ⟨_,h1,rfl,h2⟩
       go_frame
       refine ql_want (v := .agg (setC M)) rfl (by rfl) (fun W hW => qUpon_ofX (load_SetR rfl rfl ((unhide hP).wholeK 0 rfl hW (by simp)))) ?_
       go_frame
       refine ql_want (v := .agg (setC (NV &&& M))) rfl (by rfl) (fun W hW => ?_) ?_
       ·go_simp
        refine (inter_any NV M W).mono ?_
        rintro _ _ ⟨h1,h2⟩
        exact ⟨_,h1,rfl,h2⟩
       go_frame
       refine ql_want (v := .int .i64 (cc : Nat)) rfl (by rfl) (fun W hW => ?_) ?_
       ·go_simp
        refine (slen_any (NV &&& M) W).mono ?_
        rw [← unhide hcc']
        rintro _ _ ⟨h1,h2⟩
        exact ⟨_,h1,rfl,h2⟩
       go_frame
       iterate 1
        refine ql_want (v := ?_) rfl (by rfl) (fun W hW => ?_) ?_
        rotate_left
        ·go_simp
         first | done | rfl
        go_frame
       refine ql_want (v := .bool qd) rfl (by rfl) (fun W hW => ?_) ?_
       ·go_simp
        first | done | rfl | (rw [unhide hqd']; simp) | (have := unhide hqd'; simp_all)
       go_frame
       iterate 2
        refine ql_want (v := ?_) rfl (by rfl) (fun W hW => ?_) ?_
        rotate_left
        ·go_simp
         first | done | rfl
        go_frame
       refine wpQL_nil (fun y14 hxq => ?_)
       replace hP : Hid (Sp w [] w [] [(r4,76,setC M),(r8,41, #[.slice A1 V.length cA, .slice B1 E.length cB]),(r11,76,setC CN)] [(3,1, .slice AE nE cE,nE,EL.flatMap encI),(3,1, .slice (some ⟨bL,oL,none⟩) nI cI,nI,EI.flatMap encI)] y14) := hide ((unhide hP).ext hxq)
       replace hg := hide ((unhide hg).ext hxq)
       clear hxq
       refine wpX_done (by kernel_rfl) ?_
       try go_frame
       clear hself
       have hw1 : IntKind.i64.wrap ((i : Int) + 1) = (i : Int) + 1 := IntWalk.i64_in _ (by omega)
       go_wp2_with fail
       have h3 := unhide hk2
       have hdn2 : (qd = true → ∀ j (hj : j < EI.length),j < i + 1 → (n : Int) ≤ (cntF (nearS EI[j] E &&& M) 1024 : Int)) := by
        intro h j hj hji
        by_cases hjj : j < i
        ·exact unhide hdn' (by first | rfl | trivial) j hj hjj
        ·obtain rfl : j = i := by omega
         rw [unhide hqd',decide_eq_true_eq,unhide hcc',unhide hNV',unhide hv' hj] at h
         exact h
       refine ⟨nI - (i + 1), ?_,by have := unhide hfm'; omega⟩
       rw [unhide hI13_8]
       exact ⟨i + 1,qd,(by first | rfl | trivial),(by first | rfl | trivial),(by first | rfl | trivial),(by first | rfl | trivial),(by first | rfl | trivial),(by first | rfl | trivial),(by first | rfl | trivial),(by first | rfl | trivial),(by first | rfl | (show _ = Value.int _ _; go_num) | go_num),(by first | rfl | trivial),by omega,hdn2,unhide hg,unhide hP,rfl⟩
     ·have hil : ¬ (i : Int) < (nI : Int) := by omega
      have hsub : dn = true → subS M CN = true := by
       intro h
       rw [subS_iff]
       intro x hx
       refine (unhide hc1' x).2 (unhide hc4' M (unhide hMs) (fun v hv => ?_) x hx)
       rw [← unhide hEI'] at hv
       obtain ⟨j,hj,rfl⟩ := List.getElem_of_mem hv
       exact unhide hdn' h j hj (by have := unhide hnI'; omega)
      replace hsub := hide hsub
      clear hlt hin
      try dsimp only
      repeat ((fail_if_success (with_reducible refine wp_reg (id := 15) ?_)); (first | go_values | go_skip | go_step | go_guarded | go_upon | go_in | go_back | fail))
      with_reducible refine wp_reg (id := 15) ?_
      refine wpO_want rfl ?_
      go_simp
      refine wpO_done ?_
      try go_frame
      cases dn
      ·skip
       try dsimp only
       repeat ((fail_if_success (with_reducible refine wp_reg (id := 19) ?_)); (first | go_values | go_skip | go_step | go_guarded | go_upon | go_in | go_back | fail))
       with_reducible refine wp_reg (id := 19) ?_
       iterate 2
        refine wpO_want rfl ?_
        go_simp
       refine wpO_out (by rfl) ?_
       go_frame
       refine wpO_out (by rfl) ?_
       go_frame
       refine wpO_out (by rfl) ?_
       go_frame
       refine wpO_out (by rfl) ?_
       go_frame
       refine wpO_want rfl ?_
       go_simp
       refine wpO_done ?_
       try go_frame
       obtain ⟨dd,hdd⟩ : ∃ dd,dd = dgnP (nr0 E) (toL (vS V)).length (toL (vS V)) := ⟨_,rfl⟩
       obtain ⟨nd,hnd⟩ : ∃ nd,nd = ((degS (nr0 E) (toL (vS V)).length (toL (vS V))).map (·.1)).length := ⟨_,rfl⟩
       have hdl := dgn_le (unhide hi)
       have hdg := dgn_ge (nr0 E) (toL (vS V)).length (toL (vS V))
       have hndl : nd = (toL (vS V)).length := by rw [hnd,List.length_map,degS_len _ _ _ (Nat.le_refl _)]
       rw [← hdd] at hdl hdg
       have hdd' := hide hdd
       have hnd' := hide hnd
       have hdl' := hide hdl
       have hdg' := hide hdg
       have hndl' := hide hndl
       clear hdd hnd hdl hdg hndl
       try dsimp only
       repeat ((fail_if_success (with_reducible refine wp_reg (id := 21) ?_)); (first | go_values | go_skip | go_step | go_guarded | go_upon | go_in | go_back | fail))
       with_reducible refine wp_reg (id := 21) ?_
       refine wpO_want rfl ?_
       go_simp
       refine wpO_want rfl ?_
       go_simp
       have hca := degeneracy_any (some ⟨g,0,none⟩) V E wr (GL.of (unhide hg)) (unhide hi) ((unhide hT').ext (unhide hP).extf)
       rw [← unhide hdd'] at hca
       refine hca.mono ?_
       clear hca
       rintro _ y14 ⟨Ad,cd,rfl,_,hxc⟩
       rw [← unhide hnd']
       refine ⟨_,rfl, ?_⟩
       replace hP : Hid (Sp w [] w [] [(r4,76,setC M),(r8,41, #[.slice A1 V.length cA, .slice B1 E.length cB]),(r11,76,setC CN)] [(3,1, .slice AE nE cE,nE,EL.flatMap encI),(3,1, .slice AI nI cI,nI,EI.flatMap encI)] y14) := hide ((unhide hP).ext hxc)
       replace hg := hide ((unhide hg).ext (hxc))
       clear hxc
       generalize htu0 : Value.tuple _ = tu
       have htu := hide htu0
       clear htu0
       refine wpO_val rfl (run_move rfl rfl) ?_
       go_frame
       refine wpO_val rfl (run_extract (i := 0) (v := .int .i64 dd) rfl (unhide htu).symm rfl) ?_
       go_frame
       refine wpO_val rfl (run_extract (i := 1) (v := .slice Ad nd cd) rfl (unhide htu).symm rfl) ?_
       go_frame
       iterate 2
        refine wpO_want rfl ?_
        go_simp
       refine wpO_done ?_
       try go_frame
       clear htu
       by_cases hz0 : nd = 0
       ·skip
        have hL00 : toL (vS V) = [] := List.eq_nil_of_length_eq_zero (by rw [← unhide hndl']; exact hz0)
        have hdm : dd = -1 := by rw [unhide hdd',hL00]; rfl
        have hC0 : C = [] := by
         refine List.eq_nil_iff_forall_not_mem.2 fun x hx => ?_
         rw [unhide hC',hL00] at hx
         cases hx
        have hem : eqS CN 0 = true := by
         rw [eqS_nil]
         refine List.eq_nil_iff_forall_not_mem.2 fun x hx => ?_
         rw [unhide hc1',hC0] at hx
         cases hx
        replace hem := hide hem
        subst hdm hz0
        clear hL00 hC0
        try dsimp only
        repeat ((fail_if_success (with_reducible refine wp_reg (id := 22) ?_)); (first | go_values | go_skip | go_step | go_guarded | go_upon | go_in | go_back | fail))
        with_reducible refine wp_reg (id := 22) ?_
        iterate 3
         refine wpO_want rfl ?_
         go_simp
        refine wpO_done ?_
        try go_frame
        try dsimp only
        repeat ((fail_if_success (with_reducible refine wp_reg (id := 23) ?_)); (first | go_values | go_skip | go_step | go_guarded | go_upon | go_in | go_back | fail))
        with_reducible refine wp_reg (id := 23) ?_
        iterate 3
         refine wpO_want rfl ?_
         go_simp
        refine wpO_val rfl (load_SetR (N := CN) rfl rfl ((unhide hP).get 2 rfl).whole) ?_
        try go_frame
        refine wpO_want rfl ?_
        go_simp
        have hca := empty_any CN y14
        rw [unhide hem] at hca
        refine (hca).mono ?_
        rintro _ y15 ⟨rfl,hxc⟩
        clear hca
        refine ⟨_,rfl, ?_⟩
        replace hP : Hid (Sp w [] w [] [(r4,76,setC M),(r8,41, #[.slice A1 V.length cA, .slice B1 E.length cB]),(r11,76,setC CN)] [(3,1, .slice AE nE cE,nE,EL.flatMap encI),(3,1, .slice AI nI cI,nI,EI.flatMap encI)] y15) := hide ((unhide hP).ext hxc)
        replace hg := hide ((unhide hg).ext (hxc))
        clear hxc
        iterate 2
         refine wpO_want rfl ?_
         go_simp
        refine wpO_done ?_
        try go_frame
        go_wp2_with fail
        refine Sp.leaves0 ?_
        exact ⟨_,results_tmp rfl _ _ _,rfl,(unhide hP).extf⟩
       ·skip
        have hne0 : toL (vS V) ≠ [] := fun e => hz0 (by rw [unhide hndl',e]; rfl)
        obtain ⟨C1,hC1⟩ : ∃ C1,C1 = corS (nr0 E) dd (toL (vS V)).length (toL (vS V)) := ⟨_,rfl⟩
        obtain ⟨C2,hC2⟩ : ∃ C2,C2 = corS (nr0 E) (dd + 1) (toL (vS V)).length (toL (vS V)) := ⟨_,rfl⟩
        have h1 := cor_of (unhide hi) dd
        have h2 := cor_of (unhide hi) (dd + 1)
        rw [← hC1] at h1
        rw [← hC2] at h2
        rw [unhide hdd'] at h1 h2
        have h3 : C1 ≠ [] := core_ne (Nat.le_refl _) (rep_of (unhide hi)).nodup hne0 h1
        have h4 : C2 = [] := core_nil (Nat.le_refl _) (rep_of (unhide hi)).nodup h2
        obtain ⟨n1,hn1⟩ : ∃ n1,n1 = C1.length := ⟨_,rfl⟩
        obtain ⟨n2,hn2⟩ : ∃ n2,n2 = C2.length := ⟨_,rfl⟩
        have hp1 : 0 < n1 := by rw [hn1]; exact List.length_pos_iff.2 h3
        have hp2 : n2 = 0 := by rw [hn2,h4]; rfl
        have hz1 : ¬ (nd : Int) = 0 := by omega
        have hz2 : ((nd : Int) == 0) = false := by rw [beq_eq_false_iff_ne]; exact hz1
        have hp1i : decide ((0 : Int) < (n1 : Int)) = true := decide_eq_true (by omega)
        have hwd : IntKind.i64.wrap (dd + 1) = dd + 1 := IntWalk.i64_in _ (by have := unhide hdl'; have := unhide hdg'; omega)
        have hC1' := hide hC1
        have hC2' := hide hC2
        have hn1' := hide hn1
        have hn2' := hide hn2
        replace hp2 := hide hp2
        have hp1' := hide hp1
        clear hne0 h1 h2 h3 h4 hC1 hC2 hn1 hn2
        try dsimp only
        repeat ((fail_if_success (with_reducible refine wp_reg (id := 22) ?_)); (first | go_values | go_skip | go_step | go_guarded | go_upon | go_in | go_back | fail))
        with_reducible refine wp_reg (id := 22) ?_
        iterate 3
         refine wpO_want rfl ?_
         go_simp
        refine wpO_done ?_
        try go_frame
        clear hz0 hz1 hz2
        try dsimp only
        repeat ((fail_if_success (with_reducible refine wp_reg (id := 24) ?_)); (first | go_values | go_skip | go_step | go_guarded | go_upon | go_in | go_back | fail))
        with_reducible refine wp_reg (id := 24) ?_
        iterate 2
         refine wpO_want rfl ?_
         go_simp
        refine wpO_want rfl ?_
        go_simp
        have hca := kcore_any (some ⟨g,0,none⟩) V E dd y14 (GL.of (unhide hg)) (unhide hi) ((unhide hT').ext (unhide hP).extf)
        rw [← unhide hC1'] at hca
        refine hca.mono ?_
        clear hca
        rintro _ y15 ⟨AP,cP,rfl,ho,hxc⟩
        rw [← unhide hn1'] at ho
        rw [← unhide hn1']
        refine ⟨_,rfl, ?_⟩
        replace hP : Hid (Sp w [] w [] [(r4,76,setC M),(r8,41, #[.slice A1 V.length cA, .slice B1 E.length cB]),(r11,76,setC CN)] [(3,1, .slice AE nE cE,nE,EL.flatMap encI),(3,1, .slice AI nI cI,nI,EI.flatMap encI)] y15) := hide ((unhide hP).ext hxc)
        replace hg := hide ((unhide hg).ext (hxc))
        have hsP := hide (own_at (enc := encI) (xs := C1) (by rw [unhide hn1'] at ho; exact ho) (fun _ => rfl))
        clear hxc ho
        clear hsP
        refine wpO_want rfl ?_
        go_simp
        refine wpO_want rfl ?_
        go_simp
        refine wpO_want rfl ?_
        go_simp
        iterate 3
         refine wpO_want rfl ?_
         go_simp
        clear hp1i
        refine wpO_want rfl ?_
        go_simp
        have hca := kcore_any (some ⟨g,0,none⟩) V E (dd + 1) y15 (GL.of (unhide hg)) (unhide hi) ((unhide hT').ext (unhide hP).extf)
        rw [← unhide hC2'] at hca
        refine hca.mono ?_
        clear hca
        rintro _ y16 ⟨AR,cR,rfl,ho,hxc⟩
        rw [← unhide hn2'] at ho
        rw [← unhide hn2']
        refine ⟨_,rfl, ?_⟩
        replace hP : Hid (Sp w [] w [] [(r4,76,setC M),(r8,41, #[.slice A1 V.length cA, .slice B1 E.length cB]),(r11,76,setC CN)] [(3,1, .slice AE nE cE,nE,EL.flatMap encI),(3,1, .slice AI nI cI,nI,EI.flatMap encI)] y16) := hide ((unhide hP).ext hxc)
        replace hg := hide ((unhide hg).ext (hxc))
        have hsR := hide (own_at (enc := encI) (xs := C2) (by rw [unhide hn2'] at ho; exact ho) (fun _ => rfl))
        clear hxc ho
        clear hsR
        rw [unhide hp2]
        iterate 4
         refine wpO_want rfl ?_
         go_simp
        refine wpO_done ?_
        try go_frame
        go_wp2_with fail
        refine Sp.leaves0 ?_
        exact ⟨_,results_tmp rfl _ _ _,rfl,(unhide hP).extf⟩
      ·skip
       try dsimp only
       repeat ((fail_if_success (with_reducible refine wp_reg (id := 19) ?_)); (first | go_values | go_skip | go_step | go_guarded | go_upon | go_in | go_back | fail))
       with_reducible refine wp_reg (id := 19) ?_
       iterate 2
        refine wpO_want rfl ?_
        go_simp
       refine wpO_val rfl (load_SetR (N := M) rfl rfl ((unhide hP).get 0 rfl).whole) ?_
       try go_frame
       refine wpO_val rfl (load_SetR (N := CN) rfl rfl ((unhide hP).get 2 rfl).whole) ?_
       try go_frame
       refine wpO_want rfl ?_
       go_simp
       have hca := sub_any M CN wr
       rw [unhide hsub rfl] at hca
       refine (hca).mono ?_
       rintro _ y14 ⟨rfl,hxc⟩
       clear hca
       refine ⟨_,rfl, ?_⟩
       replace hP : Hid (Sp w [] w [] [(r4,76,setC M),(r8,41, #[.slice A1 V.length cA, .slice B1 E.length cB]),(r11,76,setC CN)] [(3,1, .slice AE nE cE,nE,EL.flatMap encI),(3,1, .slice AI nI cI,nI,EI.flatMap encI)] y14) := hide ((unhide hP).ext hxc)
       replace hg := hide ((unhide hg).ext (hxc))
       clear hxc
       iterate 2
        refine wpO_want rfl ?_
        go_simp
       refine wpO_done ?_
       try go_frame
       obtain ⟨dd,hdd⟩ : ∃ dd,dd = dgnP (nr0 E) (toL (vS V)).length (toL (vS V)) := ⟨_,rfl⟩
       obtain ⟨nd,hnd⟩ : ∃ nd,nd = ((degS (nr0 E) (toL (vS V)).length (toL (vS V))).map (·.1)).length := ⟨_,rfl⟩
       have hdl := dgn_le (unhide hi)
       have hdg := dgn_ge (nr0 E) (toL (vS V)).length (toL (vS V))
       have hndl : nd = (toL (vS V)).length := by rw [hnd,List.length_map,degS_len _ _ _ (Nat.le_refl _)]
       rw [← hdd] at hdl hdg
       have hdd' := hide hdd
       have hnd' := hide hnd
       have hdl' := hide hdl
       have hdg' := hide hdg
       have hndl' := hide hndl
       clear hdd hnd hdl hdg hndl
       try dsimp only
       repeat ((fail_if_success (with_reducible refine wp_reg (id := 21) ?_)); (first | go_values | go_skip | go_step | go_guarded | go_upon | go_in | go_back | fail))
       with_reducible refine wp_reg (id := 21) ?_
       refine wpO_want rfl ?_
       go_simp
       refine wpO_want rfl ?_
       go_simp
       have hca := degeneracy_any (some ⟨g,0,none⟩) V E y14 (GL.of (unhide hg)) (unhide hi) ((unhide hT').ext (unhide hP).extf)
       rw [← unhide hdd'] at hca
       refine hca.mono ?_
       clear hca
       rintro _ y15 ⟨Ad,cd,rfl,_,hxc⟩
       rw [← unhide hnd']
       refine ⟨_,rfl, ?_⟩
       replace hP : Hid (Sp w [] w [] [(r4,76,setC M),(r8,41, #[.slice A1 V.length cA, .slice B1 E.length cB]),(r11,76,setC CN)] [(3,1, .slice AE nE cE,nE,EL.flatMap encI),(3,1, .slice AI nI cI,nI,EI.flatMap encI)] y15) := hide ((unhide hP).ext hxc)
       replace hg := hide ((unhide hg).ext (hxc))
       clear hxc
       generalize htu0 : Value.tuple _ = tu
       have htu := hide htu0
       clear htu0
       refine wpO_val rfl (run_move rfl rfl) ?_
       go_frame
       refine wpO_val rfl (run_extract (i := 0) (v := .int .i64 dd) rfl (unhide htu).symm rfl) ?_
       go_frame
       refine wpO_val rfl (run_extract (i := 1) (v := .slice Ad nd cd) rfl (unhide htu).symm rfl) ?_
       go_frame
       iterate 2
        refine wpO_want rfl ?_
        go_simp
       refine wpO_done ?_
       try go_frame
       clear htu
       by_cases hz0 : nd = 0
       ·skip
        have hL00 : toL (vS V) = [] := List.eq_nil_of_length_eq_zero (by rw [← unhide hndl']; exact hz0)
        have hdm : dd = -1 := by rw [unhide hdd',hL00]; rfl
        have hC0 : C = [] := by
         refine List.eq_nil_iff_forall_not_mem.2 fun x hx => ?_
         rw [unhide hC',hL00] at hx
         cases hx
        have hem : eqS CN 0 = true := by
         rw [eqS_nil]
         refine List.eq_nil_iff_forall_not_mem.2 fun x hx => ?_
         rw [unhide hc1',hC0] at hx
         cases hx
        replace hem := hide hem
        subst hdm hz0
        clear hL00 hC0
        try dsimp only
        repeat ((fail_if_success (with_reducible refine wp_reg (id := 22) ?_)); (first | go_values | go_skip | go_step | go_guarded | go_upon | go_in | go_back | fail))
        with_reducible refine wp_reg (id := 22) ?_
        iterate 3
         refine wpO_want rfl ?_
         go_simp
        refine wpO_done ?_
        try go_frame
        try dsimp only
        repeat ((fail_if_success (with_reducible refine wp_reg (id := 23) ?_)); (first | go_values | go_skip | go_step | go_guarded | go_upon | go_in | go_back | fail))
        with_reducible refine wp_reg (id := 23) ?_
        iterate 3
         refine wpO_want rfl ?_
         go_simp
        refine wpO_val rfl (load_SetR (N := CN) rfl rfl ((unhide hP).get 2 rfl).whole) ?_
        try go_frame
        refine wpO_want rfl ?_
        go_simp
        have hca := empty_any CN y15
        rw [unhide hem] at hca
        refine (hca).mono ?_
        rintro _ y16 ⟨rfl,hxc⟩
        clear hca
        refine ⟨_,rfl, ?_⟩
        replace hP : Hid (Sp w [] w [] [(r4,76,setC M),(r8,41, #[.slice A1 V.length cA, .slice B1 E.length cB]),(r11,76,setC CN)] [(3,1, .slice AE nE cE,nE,EL.flatMap encI),(3,1, .slice AI nI cI,nI,EI.flatMap encI)] y16) := hide ((unhide hP).ext hxc)
        replace hg := hide ((unhide hg).ext (hxc))
        clear hxc
        iterate 2
         refine wpO_want rfl ?_
         go_simp
        refine wpO_done ?_
        try go_frame
        go_wp2_with fail
        refine Sp.leaves0 ?_
        exact ⟨_,results_tmp rfl _ _ _,rfl,(unhide hP).extf⟩
       ·skip
        have hne0 : toL (vS V) ≠ [] := fun e => hz0 (by rw [unhide hndl',e]; rfl)
        obtain ⟨C1,hC1⟩ : ∃ C1,C1 = corS (nr0 E) dd (toL (vS V)).length (toL (vS V)) := ⟨_,rfl⟩
        obtain ⟨C2,hC2⟩ : ∃ C2,C2 = corS (nr0 E) (dd + 1) (toL (vS V)).length (toL (vS V)) := ⟨_,rfl⟩
        have h1 := cor_of (unhide hi) dd
        have h2 := cor_of (unhide hi) (dd + 1)
        rw [← hC1] at h1
        rw [← hC2] at h2
        rw [unhide hdd'] at h1 h2
        have h3 : C1 ≠ [] := core_ne (Nat.le_refl _) (rep_of (unhide hi)).nodup hne0 h1
        have h4 : C2 = [] := core_nil (Nat.le_refl _) (rep_of (unhide hi)).nodup h2
        obtain ⟨n1,hn1⟩ : ∃ n1,n1 = C1.length := ⟨_,rfl⟩
        obtain ⟨n2,hn2⟩ : ∃ n2,n2 = C2.length := ⟨_,rfl⟩
        have hp1 : 0 < n1 := by rw [hn1]; exact List.length_pos_iff.2 h3
        have hp2 : n2 = 0 := by rw [hn2,h4]; rfl
        have hz1 : ¬ (nd : Int) = 0 := by omega
        have hz2 : ((nd : Int) == 0) = false := by rw [beq_eq_false_iff_ne]; exact hz1
        have hp1i : decide ((0 : Int) < (n1 : Int)) = true := decide_eq_true (by omega)
        have hwd : IntKind.i64.wrap (dd + 1) = dd + 1 := IntWalk.i64_in _ (by have := unhide hdl'; have := unhide hdg'; omega)
        have hC1' := hide hC1
        have hC2' := hide hC2
        have hn1' := hide hn1
        have hn2' := hide hn2
        replace hp2 := hide hp2
        have hp1' := hide hp1
        clear hne0 h1 h2 h3 h4 hC1 hC2 hn1 hn2
        try dsimp only
        repeat ((fail_if_success (with_reducible refine wp_reg (id := 22) ?_)); (first | go_values | go_skip | go_step | go_guarded | go_upon | go_in | go_back | fail))
        with_reducible refine wp_reg (id := 22) ?_
        iterate 3
         refine wpO_want rfl ?_
         go_simp
        refine wpO_done ?_
        try go_frame
        clear hz0 hz1 hz2
        try dsimp only
        repeat ((fail_if_success (with_reducible refine wp_reg (id := 24) ?_)); (first | go_values | go_skip | go_step | go_guarded | go_upon | go_in | go_back | fail))
        with_reducible refine wp_reg (id := 24) ?_
        iterate 2
         refine wpO_want rfl ?_
         go_simp
        refine wpO_want rfl ?_
        go_simp
        have hca := kcore_any (some ⟨g,0,none⟩) V E dd y15 (GL.of (unhide hg)) (unhide hi) ((unhide hT').ext (unhide hP).extf)
        rw [← unhide hC1'] at hca
        refine hca.mono ?_
        clear hca
        rintro _ y16 ⟨AP,cP,rfl,ho,hxc⟩
        rw [← unhide hn1'] at ho
        rw [← unhide hn1']
        refine ⟨_,rfl, ?_⟩
        replace hP : Hid (Sp w [] w [] [(r4,76,setC M),(r8,41, #[.slice A1 V.length cA, .slice B1 E.length cB]),(r11,76,setC CN)] [(3,1, .slice AE nE cE,nE,EL.flatMap encI),(3,1, .slice AI nI cI,nI,EI.flatMap encI)] y16) := hide ((unhide hP).ext hxc)
        replace hg := hide ((unhide hg).ext (hxc))
        have hsP := hide (own_at (enc := encI) (xs := C1) (by rw [unhide hn1'] at ho; exact ho) (fun _ => rfl))
        clear hxc ho
        clear hsP
        refine wpO_want rfl ?_
        go_simp
        refine wpO_want rfl ?_
        go_simp
        refine wpO_want rfl ?_
        go_simp
        iterate 3
         refine wpO_want rfl ?_
         go_simp
        clear hp1i
        refine wpO_want rfl ?_
        go_simp
        have hca := kcore_any (some ⟨g,0,none⟩) V E (dd + 1) y16 (GL.of (unhide hg)) (unhide hi) ((unhide hT').ext (unhide hP).extf)
        rw [← unhide hC2'] at hca
        refine hca.mono ?_
        clear hca
        rintro _ y17 ⟨AR,cR,rfl,ho,hxc⟩
        rw [← unhide hn2'] at ho
        rw [← unhide hn2']
        refine ⟨_,rfl, ?_⟩
        replace hP : Hid (Sp w [] w [] [(r4,76,setC M),(r8,41, #[.slice A1 V.length cA, .slice B1 E.length cB]),(r11,76,setC CN)] [(3,1, .slice AE nE cE,nE,EL.flatMap encI),(3,1, .slice AI nI cI,nI,EI.flatMap encI)] y17) := hide ((unhide hP).ext hxc)
        replace hg := hide ((unhide hg).ext (hxc))
        have hsR := hide (own_at (enc := encI) (xs := C2) (by rw [unhide hn2'] at ho; exact ho) (fun _ => rfl))
        clear hxc ho
        clear hsR
        rw [unhide hp2]
        iterate 4
         refine wpO_want rfl ?_
         go_simp
        refine wpO_done ?_
        try go_frame
        go_wp2_with fail
        refine Sp.leaves0 ?_
        exact ⟨_,results_tmp rfl _ _ _,rfl,(unhide hP).extf⟩
end Go.Proofs.YtoacpebmhbkmbaaGreatDoor
namespace Go.Proofs.YtoacpebmhbkmbaaGreatDoor.boundsCoreMaximalRow
open Go.ChangeShapes Go.WideShapes Go.ChangeAt Go.RowKit
set_option linter.unusedVariables false
theorem own : ownKnob Tryz.prog.godebug = none := by kernel_rfl
theorem laidOut : laidOutB Tryz.prog = true := by kernel_rfl
theorem door_met (os : Os) (args : Array Value) : laidMetH Tryz.prog laidL ((World.doorLaid Tryz.prog 400 os).forCall (fun _ _ => 0) ⟨#[],args,[]⟩).memory :=
 laidMetH_of_parts3 (fuel := 8) (laidMet_of_run' 8 (by kernel_rfl) (by kernel_rfl)) (by kernel_rfl) (by kernel_rfl)
set_option maxRecDepth 100000 in
theorem lifted (os : Os) (started : os.Started) (H : Type) (enc : TypeId × Value → H) :
  ReturnsInHanded {} Tryz.checked os 11 .any (fun w args => (Rows.boundsCoreMaximalSpec.pre enc Tryz.prog Tryz.f11 [] false w args ∧ laidMetH Tryz.prog laidL w) ∧ sizedMet enc Tryz.prog Tryz.f11 (OpenSpec.ofChange Rows.boundsCoreMaximalSpec) false w args)
   (Rows.boundsCoreMaximalSpec.post enc Tryz.prog Tryz.f11 false true false false) := by
 refine returnsInHanded_of_change_and (C := Tryz.checked) (X := fun w _ => laidMetH Tryz.prog laidL w) (fun _ _ _ hh h => h.of_heap hh) own started (by kernel_rfl) Tryz.func11
  (ChangeSpec.witness_shaped (enc := enc) (C := Tryz.checked) (os := os) (X := fun w _ => laidMetH Tryz.prog laidL w) false (World.doorLaid Tryz.prog 400 os) #[.slice none 0 0, .agg #[.int .u64 0, .int .u64 0, .int .u64 0, .int .u64 0, .int .u64 0, .int .u64 0, .int .u64 0, .int .u64 0, .int .u64 0, .int .u64 0, .int .u64 0, .int .u64 0, .int .u64 0, .int .u64 0, .int .u64 0, .int .u64 0], .int .u8 0] 8 rfl (World.shaped_of_RefB (by kernel_rfl) (by kernel_rfl)) (by kernel_rfl) (by kernel_rfl) (by kernel_rfl) (door_met os _)) ?_
 intro W base args ds gs before hval0 hW _ _ hL _
 have hval : ∀ (j : Nat) t v,Tryz.f11.params[j]? = some t → args[j]? = some v → Value.okWide Tryz.prog W .any base t v := hval0
 have hW' := hW
 obtain ⟨p,q,hA0,hV,rfl,hfz,hnd⟩ := hW
 have hA : DataW.TrodAll enc Tryz.prog W 0 (fun _ => true) true Tryz.f11.params.toList args.toList ds p := hA0
 rw [Tryz.params11] at hA hval
 obtain ⟨v0,vs0,d0,ds0,p0,q0,hargs,rfl,rfl,h0,r0⟩ := trodAll_cons hA
 obtain ⟨v1,vs1,d1,ds1,p1,q1,rfl,rfl,rfl,h1,r1⟩ := trodAll_cons r0
 obtain ⟨v2,vs2,d2,ds2,p2,q2,rfl,rfl,rfl,h2,r2⟩ := trodAll_cons r1
 obtain ⟨rfl,rfl,rfl⟩ := trodAll_nil r2
 obtain rfl : args = #[v0,v1,v2] := by cases args; simp_all
 obtain ⟨rfl,rfl⟩ := trodVars_none hV
 obtain ⟨a0,len0,cap0,rfl⟩ := okWide_slice Tryz.underlying37 (hval 0 37 v0 rfl rfl)
 have k0 := h0
 have lt0 : ∀ x ∈ p0,x.block < W.heap.size := by obtain ⟨m,hm⟩ := k0; exact DataW.trod_lt m _ _ _ hm
 obtain ⟨fu0,hf0⟩ := h0
 obtain ⟨L0,hn0,hs0,ho0,hm0,hz0⟩ := open_edits (by simpa [Value.cells] using hf0)
 subst hn0
 have k1 := h1
 have lt1 : ∀ x ∈ p1,x.block < W.heap.size := by obtain ⟨m,hm⟩ := k1; exact DataW.trod_lt m _ _ _ hm
 obtain ⟨x1,rfl,ho1⟩ := open_set (hval 1 76 v1 rfl rfl) h1
 obtain ⟨a2,rfl,rfl,rfl,w2⟩ := open_int Tryz.underlying5 (hval 2 5 v2 rfl rfl) h2
 clear hA0 hval0
 refine (boundsCoreMaximal_walk a0 L0 cap0 x1 a2 W hs0 hm0 hz0 ho1 (Go.bounds_u8 w2) (tab_of_laid hL)).mono fun e W' ⟨he,bel⟩ => ?_
 subst he
 exact ⟨_,rfl,_,_,_,[],_,[],hW',trodAll_mk1 (shut_bool Tryz.underlying4 _),(trodAll_cons_mk (Below.trod laidOut (by kernel_rfl) (of_decide_eq_true (by kernel_rfl)) k0 bel lt0) (trodAll_cons_mk (Below.trod laidOut (by kernel_rfl) (of_decide_eq_true (by kernel_rfl)) k1 bel lt1) (trodAll_cons_mk (shut_int Tryz.underlying5 w2) trodAll_mk0))),rfl,bel.frame _,fun h => by cases h⟩
theorem over : Rows.boundsCoreMaximalRow.holds Tryz.pinned (OpenSpec.ofChange Rows.boundsCoreMaximalSpec) :=
 OpenClaim.holds_of_wide 11 Tryz.f11 rfl rfl rfl rfl rfl rfl rfl ⟨rfl,rfl,rfl,rfl,rfl⟩ rfl rfl rfl rfl rfl (by kernel_rfl) Tryz.func11 (by kernel_rfl)
  (of_decide_eq_true (by kernel_rfl)) (by unfold Func.isWrapper; first | (rw [if_pos (by decide +kernel)]; kernel_rfl) | (rw [if_neg (by decide +kernel)]; exact ⟨rfl,rfl⟩))
  (fun os started H enc _ => lifted os started H enc)
end Go.Proofs.YtoacpebmhbkmbaaGreatDoor.boundsCoreMaximalRow
namespace Go.Proofs.YtoacpebmhbkmbaaGreatDoor
open Go
theorem boundsCoreMaximal_holds : Rows.BoundsCoreMaximalCardSaid :=
 Claim7.holds_tied_plain_at .later [] [.data] true (true, "82c6bed31ad2c7c2e5153cee67ccc1cbee0e26a323fdf1de3a9a6c1e0005317a") false
  boundsCoreMaximalRow.over (fun _ h => by cases h) (by kernel_rfl) (fun _ h => by cases h) boundsCoreMaximal_row_tie rfl ⟨rfl,rfl⟩ (by kernel_rfl) rfl
  (fun f fn hf hfn => by
   obtain rfl : f = 11 := Option.some.inj ((show Tryz.prog.funcNamed "palmette/palmettelaw22.BoundsCoreMaximal" = some 11 by kernel_rfl).symm.trans hf) |>.symm
   obtain rfl : fn = Tryz.f11 := (Option.some.inj (Tryz.func11.symm.trans hfn)).symm
   exact ⟨by kernel_rfl,fun j t ht => by
    rw [Tryz.params11] at ht
    have h3 : t = 37 ∨ t = 76 ∨ t = 5 := by
     rcases j with _ | _ | _ | j
     ·simp at ht; simp [ht]
     ·simp at ht; simp [ht]
     ·simp at ht; simp [ht]
     ·simp at ht
    rcases h3 with rfl | rfl | rfl
    ·exact (show Tryz.prog.wantsStandIn 37 = false by kernel_rfl)
    ·exact (show Tryz.prog.wantsStandIn 76 = false by kernel_rfl)
    ·exact (show Tryz.prog.wantsStandIn 5 = false by kernel_rfl)⟩)
  (by kernel_rfl)
#print axioms boundsCoreMaximal_holds
end Go.Proofs.YtoacpebmhbkmbaaGreatDoor
