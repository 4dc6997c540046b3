/- Parts of a proof, laid together. Each part says its own conditions. -/
import Derived.Test.YtmfkkkhddigkfaaGreatDoorP40
import Derived.Test.YtmfkkkhddigkfaaGreatDoorP44
import Derived.Test.YtmfkkkhddigkfaaGreatDoorP45
import Derived.Test.YtmfkkkhddigkfaaGreatDoorP28
import Derived.Test.YtmfkkkhddigkfaaGreatDoorP30
import Derived.Test.YtmfkkkhddigkfaaGreatDoorP27
import Derived.Test.YtmfkkkhddigkfaaGreatDoorP33
namespace Go.Proofs.YtmfkkkhddigkfaaGreatDoor
open Go Go.RowKit Go.Shelf
attribute [local go_sem] qUpon lUpon
attribute [local irreducible] wpO wpX wpQL
theorem sortS_any (base : Nat) (v : Value) (xs S : List Nat) (w : World) (hown : w.ownsRow base 51 16 v xs.length (xs.flatMap encS)) (hp : S.Perm xs) (hS : S.Pairwise ltS) (hsz : xs.length ≤ 10000000) :
  Calls Tryz.prog 68 #[v, .func (.func 69) #[] #[]] w fun e w' => e = .returned (.tuple #[]) ∧ w'.ownsRow base 51 16 v xs.length (S.flatMap encS) ∧ w.grownBy w' v.ownBlock := by
 have h := sortRow_any Tryz.sortS 16 (by omega) Tryz.isAgg51 Tryz.sizeOf51 encS (fun _ => rfl) one_encS (fun x y => cmpW x y 16) swoS 69 (Go.Proofs.enters_of Tryz.func69 (by kernel_rfl) rfl) (fun x y W => cmpw_any x y W)
  base 51 v xs S w hown hp (hS.imp fun h => (ltOf_S _ _).2 h) (by omega)
 exact h
theorem Sp.sorted {wf w W W' : World} {T0 : List Nat} {ds : List Deferred} {L : List Cl} {Rs : List Rw} (h : Sp wf T0 w ds L Rs W) (i : Nat) {T k n : Nat} {v : Value} {xs xs' : List Value} (hk : k ≠ 0) (hi : Rs[i]? = some (T, k, v, n, xs)) (hown : W'.ownsRow wf.heap.size T k v n xs') (hg : W.grownBy W' v.ownBlock) : Sp wf T0 w ds L (Rs.set i (T, k, v, n, xs')) W' := h.push i hk hi (Ext.refl W) hown hg (.inl rfl)
theorem Sp.row_in {wf w W : World} {T0 : List Nat} {ds : List Deferred} {L : List Cl} {Rs : List Rw} (_h : Sp wf T0 w ds L Rs W) (i : Nat) {T k n : Nat} {v : Value} {xs : List Value} (hi : Rs[i]? = some (T, k, v, n, xs)) (hk : k ≠ 0 := by decide) : ∀ z ∈ v.ownBlock.toList, z ∈ stT L Rs := fun z hz => List.mem_append.2 (.inr (mem_rwT.2 ⟨_, List.mem_of_getElem? hi, by rw [rwB_slice hk]; simpa using hz⟩))
noncomputable def mcS (V : List (Int × Thing)) (E : List ((Int × Int) × Thing)) : List Nat × Int := if (peoS V E).isSome = true then ((cliquesR V E).map fromS, 0) else ([], 3)
def McPost (w : World) (r : List Nat × Int) (e : Ending) (w' : World) : Prop := ∃ A c, e = .returned (.tuple #[.slice A r.1.length c, .int .i64 r.2]) ∧ w'.ownsRow w.heap.size 51 16 (.slice A r.1.length c) r.1.length (r.1.flatMap encS) ∧ Ext w w'
theorem McPost.mk {w w' : World} {r : List Nat × Int} {A : Option Addr} {n c : Nat} {err : Int} (hn : n = r.1.length) (he : err = r.2) (h : w'.ownsRow w.heap.size 51 16 (.slice A n c) n (r.1.flatMap encS)) (hx : Ext w w') : McPost w r (.returned (.tuple #[.slice A n c, .int .i64 err])) w' := ⟨A, c, by rw [hn, he], by rw [hn] at h; exact h, hx⟩
theorem lowN_id {c k : Nat} (h : c < 2 ^ (64 * k)) : lowN c k = c := Nat.mod_eq_of_lt h
theorem InR.low {c : Nat} (h : InR c) {k : Nat} (hk : 64 * k = 1024) : lowN c k = c := lowN_id (h.lt hk)
theorem lt_sorted {l : List Nat} (hR : ∀ c ∈ l, InR c) (h : l.Pairwise (· < ·)) : l.Pairwise ltS := List.Pairwise.imp_of_mem (fun {a b} ha hb hab => by
 unfold ltS
 rw [(hR a ha).low rfl, (hR b hb).low rfl]
 exact hab) h
theorem peo_len2 {V : List (Int × Thing)} {E : List ((Int × Int) × Thing)} : ((peoS V E).getD []).length ≤ 1025 := by
 cases h : peoS V E with
 | none => simp
 | some o => exact (poS_mem _ _ _ h).1
theorem inv_nil : GInv [] [] := mdS_inv []
theorem GL.inv {w : World} {og : Option Addr} {V : List (Int × Thing)} {E : List ((Int × Int) × Thing)} (h : GL w og V E) : GInv V E := by
 rcases h with ⟨g, bv, be, rfl, h⟩ | ⟨rfl, rfl, rfl⟩
 ·exact h.inv
 ·exact inv_nil
theorem peoS_sound {V : List (Int × Thing)} {E : List ((Int × Int) × Thing)} (hi : GInv V E) {o : List Int} (h : peoS V E = some o) : o.Perm (toL (vS V)) ∧ Peo E o := by
 refine poS_sound hi (fun x hx => (mem_vS hi).1 hx) ?_ h
 rw [toL_vS hi, List.length_map]
 have := hi.nv
 omega
def outK (C : List Nat) (i : Nat) : List Nat := ((List.range i).filter fun i => !innerS C i).map (C.getD · 0)
theorem outK_next (C : List Nat) (i : Nat) : outK C (i + 1) = outK C i ++ (if innerS C i = true then [] else [C.getD i 0]) := by
 unfold outK
 rw [List.range_succ, List.filter_append, List.map_append]
 congr 1
 cases h : innerS C i <;> simp [h]
theorem outK_le (C : List Nat) (i : Nat) : (outK C i).length ≤ i := by
 unfold outK
 rw [List.length_map]
 exact Nat.le_trans (List.length_filter_le _ _) (by rw [List.length_range]; exact Nat.le_refl _)
def innK (C : List Nat) (i k : Nat) : Bool := (List.range k).any fun k => decide (i ≠ k) && subS (C.getD i 0) (C.getD k 0)
theorem innK_next (C : List Nat) (i k : Nat) : innK C i (k + 1) = (innK C i k || (decide (i ≠ k) && subS (C.getD i 0) (C.getD k 0))) := by
 unfold innK
 rw [List.range_succ, List.any_append]
 simp
theorem allC_drop (E : List ((Int × Int) × Thing)) (o : List Int) (M : Nat) {k : Nat} (h : k < o.length) : allC E (o.drop k) M = withS (nearS o[k] E &&& withoutS M o[k]) o[k] :: allC E (o.drop (k + 1)) (withoutS M o[k]) := by
 rw [List.drop_eq_getElem_cons h]; rfl
set_option maxRecDepth 100000 in
set_option maxHeartbeats 16000000 in
theorem maxCliques_any (og : Option Addr) (V : List (Int × Thing)) (E : List ((Int × Int) × Thing)) (w : World) (hg : GL w og V E) (hT : Tab w) :
  Calls Tryz.prog 35 #[.pointer og] w (McPost w (mcS V E)) := by
 have hg' := hide hg
 have hT' := hide hT
 have hi' := hide hg.inv
 obtain ⟨r, hr⟩ : ∃ r, r = mcS V E := ⟨_, rfl⟩
 rw [← hr]
 have hr' := hide hr
 have hpl := hide (peo_len2 (V := V) (E := E))
 obtain ⟨po, hpo⟩ : ∃ po, po = peoS V E := ⟨_, rfl⟩
 rw [← hpo] at hpl
 have hpo' := hide hpo
 clear hg hT hr hpo
 have hP := hide (Sp.new w)
 refine callsIn_wide.1 (callsIn_of_wp_marks (n := 0) Tryz.func35 rfl trivial (wpIn_wide.2 ?_))
 simp only [Tryz.ntmps35, List.size_toArray, List.length_cons, List.length_nil, Nat.reduceAdd, Nat.reduceSub, Array.replicate_succ, Array.replicate_zero, List.push_toArray, List.append_toArray, List.nil_append, List.cons_append]
 try dsimp only
 repeat ((fail_if_success (with_reducible refine wp_reg (id := 1) ?_)); (first | go_values | go_skip | go_step | go_guarded | go_upon | go_in | go_back | fail))
 with_reducible refine wp_reg (id := 1) ?_
 refine wpO_val rfl (run_move rfl rfl) ?_
 go_frame
 refine wpO_want rfl ?_
 go_simp
 have hca := perfect_any og V E w ((unhide hg').ext (unhide hP).extf) ((unhide hT').ext (unhide hP).extf)
 rw [← unhide hpo'] at hca
 obtain ⟨lo, hlo⟩ : ∃ lo, lo = po.getD [] := ⟨_, rfl⟩
 obtain ⟨n, hn⟩ : ∃ n, n = lo.length := ⟨_, rfl⟩
 obtain ⟨pb, hpb⟩ : ∃ pb, pb = po.isSome := ⟨_, rfl⟩
 rw [← hlo, ← hn] at hpl
 have hn' := hide hn
 have hlo' := hide hlo
 have hpb' := hide hpb
 clear hn hlo hpb
 refine (hca).mono ?_
 rintro _ y1 ⟨A4, c4, rfl, ho, hxc⟩
 rw [← unhide hlo', ← unhide hn'] at ho
 rw [← unhide hlo', ← unhide hn', ← unhide hpb']
 clear hca
 refine ⟨_, rfl, ?_⟩
 replace hP : Hid (Sp w [] w [] [] [(3, 1, .slice A4 n c4, n, lo.flatMap encI)] y1) := hide ((unhide hP).addRow hxc ho)
 clear hxc ho
 generalize htu0 : Value.tuple _ = tu
 have htu := hide htu0
 clear htu0
 refine wpO_val rfl (run_move rfl rfl) ?_
 go_frame
 refine wpO_val rfl (run_extract (i := 0) (v := .slice A4 n c4) rfl (unhide htu).symm rfl) ?_
 go_frame
 refine wpO_val rfl (run_extract (i := 1) (v := .bool pb) rfl (unhide htu).symm rfl) ?_
 go_frame
 iterate 2
  refine wpO_want rfl ?_
  go_simp
 refine wpO_done ?_
 try go_frame
 clear htu
 cases po with
 | none =>
  obtain rfl : pb = false := unhide hpb'
  have hre := hide (show r = ([], 3) by rw [unhide hr']; unfold mcS; rw [← unhide hpo']; rfl)
  go_wp2_with fail
  refine Sp.leaves0 ?_
  rw [unhide hre]
  exact ⟨_, results_tmp2 (t := 2) (u := 3) rfl _ _ _, McPost.mk rfl rfl (World.ownsRow_nil _ _ _ _) (unhide hP).extf⟩
 | some o =>
  obtain rfl : pb = true := unhide hpb'
  obtain rfl : lo = o := unhide hlo'
  obtain ⟨N0, hN0⟩ : ∃ N, N = vS V := ⟨_, rfl⟩
  obtain ⟨C, hC⟩ : ∃ C, C = allC E lo N0 := ⟨_, rfl⟩
  obtain ⟨hpm, hpe⟩ := peoS_sound (unhide hi') (unhide hpo').symm
  have hmem : ∀ x, x ∈ lo ↔ x ∈ V.map (·.1) := fun x => by rw [hpm.mem_iff, mem_vS (unhide hi')]
  have hnd : lo.Nodup := hpm.nodup_iff.2 (toL_nodup _)
  have hCp := hide (cliques_perm (N := N0) (unhide hi') hnd hmem (fun x => by rw [hN0, hpm.mem_iff]) hpe)
  rw [← hC] at hCp
  have hCs := hide (cliques_sorted (unhide hi'))
  obtain ⟨l, hl⟩ : ∃ l, l = (cliquesR V E).map fromS := ⟨_, rfl⟩
  rw [← hl] at hCp hCs
  have hlR := hide (show ∀ c ∈ l, InR c from fun c hc => by
   rw [hl] at hc
   obtain ⟨K, _, rfl⟩ := List.mem_map.1 hc
   exact InR.from K)
  have hre := hide (show r = (l, 0) by rw [unhide hr', hl]; unfold mcS; rw [← unhide hpo']; rfl)
  have hC0 := hide (show ([] : List Nat) ++ allC E (lo.drop 0) N0 = C by rw [hC]; rfl)
  have hCl := hide (show C.length = n by rw [hC, allC_len, unhide hn'])
  have hn25 := hide (show n ≤ 1025 by exact unhide hpl)
  have hst := hide (fun (M k : Nat) (h : k < lo.length) => allC_drop E lo M h)
  have hN0' := hide hN0
  clear hpm hpe hmem hnd hl hC hN0 hpl
  try dsimp only
  repeat ((fail_if_success (with_reducible refine wp_reg (id := 2) ?_)); (first | go_values | go_skip | go_step | go_guarded | go_upon | go_in | go_back | fail))
  with_reducible refine wp_reg (id := 2) ?_
  iterate 2
   refine wpO_want rfl ?_
   go_simp
  refine wpO_done ?_
  try go_frame
  try dsimp only
  repeat ((fail_if_success (with_reducible refine wp_reg (id := 4) ?_)); (first | go_values | go_skip | go_step | go_guarded | go_upon | go_in | go_back | fail))
  with_reducible refine wp_reg (id := 4) ?_
  refine wpO_val rfl (run_move rfl rfl) ?_
  go_frame
  refine wpO_want rfl ?_
  go_simp
  have hca := vsetG og V E y1 ((unhide hg').ext (unhide hP).extf)
  rw [← unhide hN0'] at hca
  refine (hca).mono ?_
  rintro _ y2 ⟨rfl, hxc⟩
  clear hca
  refine ⟨_, rfl, ?_⟩
  replace hP : Hid (Sp w [] w [] [] [(3, 1, .slice A4 n c4, n, lo.flatMap encI)] y2) := hide ((unhide hP).ext hxc)
  clear hxc
  refine (unhide hP).allocO 51 (setC 0) rfl (run_alloc_set rfl) ?_
  intro r6 y3 hQ
  replace hP : Hid (Sp w [] w [] [(r6, 51, setC 0)] [(3, 1, .slice A4 n c4, n, lo.flatMap encI)] y3) := hide hQ
  clear hQ
  refine (unhide hP).setO 0 (setC N0) rfl rfl (fun hb => store_SetR (N := N0) rfl rfl rfl hb) ?_
  intro y4 hQ
  replace hP : Hid (Sp w [] w [] [(r6, 51, setC N0)] [(3, 1, .slice A4 n c4, n, lo.flatMap encI)] y4) := hide hQ
  clear hQ
  refine wpO_done ?_
  try go_frame
  replace hP : Hid (Sp w [] w [] [(r6, 51, setC N0)] [(3, 1, .slice A4 n c4, n, lo.flatMap encI), (51, 16, .slice none 0 0, 0, ([] : List Nat).flatMap encS)] y4) := hide ((unhide hP).nil 51 16)
  go_wp2_with fail
  obtain ⟨I4_4, hI4_40⟩ : ∃ I : Nat → Act → World → Prop, I = fun fi a' wr => ∃ (k : Nat), ∃ (M : Nat), ∃ (A7 : Option Addr), ∃ (c7 : Nat), ∃ (xs : List Nat), a'.tmps.size = 81 ∧ a'.tmps.getD 0 undef = .pointer og ∧ a'.tmps.getD 6 undef = .pointer (some ⟨r6, 0, none⟩) ∧ a'.tmps.getD 7 undef = .slice A7 k c7 ∧ a'.tmps.getD 25 undef = .slice A4 n c4 ∧ a'.tmps.getD 26 undef = .int .i64 (n : Nat) ∧ a'.tmps.getD 27 undef = .int .i64 (k : Nat) ∧ a'.defers = [] ∧ k ≤ n ∧ xs.length = k ∧ xs ++ allC E (lo.drop k) M = C ∧ Sp w [] w [] [(r6, 51, setC M)] [(3, 1, .slice A4 n c4, n, lo.flatMap encI), (51, 16, .slice A7 k c7, k, xs.flatMap encS)] wr ∧ fi = n - k := ⟨_, rfl⟩
  have hI4_4 := hide hI4_40
  clear hI4_40
  refine wp_loop_ix I4_4 (n - 0) ?_ ?_
  ·rw [unhide hI4_4]; exact ⟨0, N0, none, 0, [], rfl, rfl, rfl, rfl, rfl, rfl, rfl, rfl, Nat.zero_le _, rfl, unhide hC0, unhide hP, rfl⟩
  ·rintro fi ⟨tm, dfs⟩ wr hrel
   rw [unhide hI4_4] at hrel
   obtain ⟨k, M, A7, c7, xs, hsz, e0, e6, e7, e25, e26, e27, hdf, hk, hxl, hC, hPr, hfm⟩ := hrel
   obtain ⟨us, rfl⟩ : ∃ us : Nat → Value, tm = #[us 0, us 1, us 2, us 3, us 4, us 5, us 6, us 7, us 8, us 9, us 10, us 11, us 12, us 13, us 14, us 15, us 16, us 17, us 18, us 19, us 20, us 21, us 22, us 23, us 24, us 25, us 26, us 27, us 28, us 29, us 30, us 31, us 32, us 33, us 34, us 35, us 36, us 37, us 38, us 39, us 40, us 41, us 42, us 43, us 44, us 45, us 46, us 47, us 48, us 49, us 50, us 51, us 52, us 53, us 54, us 55, us 56, us 57, us 58, us 59, us 60, us 61, us 62, us 63, us 64, us 65, us 66, us 67, us 68, us 69, us 70, us 71, us 72, us 73, us 74, us 75, us 76, us 77, us 78, us 79, us 80] := ⟨fun i => tm.getD i undef, arr_fn hsz⟩
   have h0 : us 0 = .pointer og := e0
   have h6 : us 6 = .pointer (some ⟨r6, 0, none⟩) := e6
   have h7 : us 7 = .slice A7 k c7 := e7
   have h25 : us 25 = .slice A4 n c4 := e25
   have h26 : us 26 = .int .i64 (n : Nat) := e26
   have h27 : us 27 = .int .i64 (k : Nat) := e27
   have hdf2 : dfs = [] := hdf
   subst hdf2
   clear hdf hsz e0 e6 e7 e25 e26 e27
   simp only [h0, h6, h7, h25, h26, h27]
   clear h0 h6 h7 h25 h26 h27
   clear hP hC0
   have hP := hide hPr
   have hC' := hide hC
   have hfm' := hide hfm
   have hxl' := hide hxl
   clear hPr hC hfm hxl
   by_cases hlt : k < n
   ·have hil : (k : Int) < (n : Int) := by omega
    have hkn := hide hlt
    have hkL : k < lo.length := by have := unhide hn'; omega
    have hkb : (k : Int) ≤ 1025 := by have := unhide hn25; omega
    have hstep := unhide hst M k hkL
    obtain ⟨b4, o4, rfl, hcz⟩ := cellI (own_at (enc := encI) (by have h := (unhide hP).row 0 rfl; rw [unhide hn'] at h; exact h) (fun _ => rfl)) hkL
    clear hcz
    obtain ⟨y, hy⟩ : ∃ y, y = lo[k] := ⟨_, rfl⟩
    have c0 := slE (own_at (enc := encI) (by have h := (unhide hP).row 0 rfl; rw [unhide hn'] at h; exact h) (fun _ => rfl)) hkL
    rw [← hy] at c0 hstep
    obtain ⟨M2, hM2⟩ : ∃ M2, M2 = withoutS M y := ⟨_, rfl⟩
    obtain ⟨N1, hN1⟩ : ∃ N, N = nearS y E := ⟨_, rfl⟩
    obtain ⟨cc, hcc⟩ : ∃ c, c = withS (N1 &&& M2) y := ⟨_, rfl⟩
    rw [← hM2, ← hN1, ← hcc] at hstep
    have hC2 := unhide hC'
    rw [hstep] at hC2
    have hC2' := hide (show (xs ++ [cc]) ++ allC E (lo.drop (k + 1)) M2 = C by rw [List.append_assoc]; exact hC2)
    have hM2' := hide hM2
    have hN1' := hide hN1
    have hcc' := hide hcc
    clear hC2 hstep hy hM2 hN1 hcc hC' hlt
    have hself := Ext.refl wr
    try dsimp only
    repeat ((fail_if_success (with_reducible refine wp_reg (id := 7) ?_)); (first | go_values | go_skip | go_step | go_guarded | go_upon | go_in | go_back | fail))
    with_reducible refine wp_reg (id := 7) ?_
    refine wpO_want rfl ?_
    go_simp
    refine wpO_done ?_
    try go_frame
    try dsimp only
    repeat ((fail_if_success (with_reducible refine wp_reg (id := 8) ?_)); (first | go_values | go_skip | go_step | go_guarded | go_upon | go_in | go_back | fail))
    with_reducible refine wp_reg (id := 8) ?_
    iterate 3
     refine wpO_want rfl ?_
     go_simp
    clear c0 hself
    refine wpO_done ?_
    try go_frame
    try dsimp only
    repeat ((fail_if_success (with_reducible refine wp_reg (id := 9) ?_)); (first | go_values | go_skip | go_step | go_guarded | go_upon | go_in | go_back | fail))
    with_reducible refine wp_reg (id := 9) ?_
    refine wpO_val rfl (load_SetR (N := M) rfl rfl ((unhide hP).get 0 rfl).whole) ?_
    go_frame
    refine wpO_want rfl ?_
    go_simp
    refine wpO_want rfl ?_
    go_simp
    have hca := without_S M y wr
    rw [← unhide hM2'] at hca
    refine (hca).mono ?_
    rintro _ y5 ⟨rfl, hxc⟩
    clear hca
    refine ⟨_, rfl, ?_⟩
    replace hP : Hid (Sp w [] w [] [(r6, 51, setC M)] [(3, 1, .slice (some ⟨b4, o4, none⟩) n c4, n, lo.flatMap encI), (51, 16, .slice A7 k c7, k, xs.flatMap encS)] y5) := hide ((unhide hP).ext hxc)
    clear hxc
    refine (unhide hP).setO 0 (setC M2) rfl rfl (fun hb => store_SetR (N := M2) rfl rfl rfl hb) ?_
    intro y6 hQ
    replace hP : Hid (Sp w [] w [] [(r6, 51, setC M2)] [(3, 1, .slice (some ⟨b4, o4, none⟩) n c4, n, lo.flatMap encI), (51, 16, .slice A7 k c7, k, xs.flatMap encS)] y6) := hide hQ
    clear hQ
    refine wpO_done ?_
    try go_frame
    go_wp2_with fail
    have hoff : r6 ∉ (Value.slice A7 k c7).ownBlock.toList := (unhide hP).ne_row 0 1 rfl rfl
    have hself := Keep.refl (Value.slice A7 k c7).ownBlock.toList y6
    have hG := hide (fun (W : World) (hW : Keep (Value.slice A7 k c7).ownBlock.toList y6 W) => show Ext w W from (unhide hP).extf.of_new hW (fun z hz => (unhide hP).st.ge z ((unhide hP).row_in 1 rfl (by decide) z hz)))
    refine wp_regionK (P := Tryz.prog) (Value.slice A7 k c7).ownBlock.toList [0,1,2,3,4,5,6,7] [] 3 #[true,true,true,true,true,true,true,true,false,false,false] (by kernel_rfl) (by kernel_rfl) rfl (by rfl) ?_
    iterate 3
     refine ql_want (v := ?_) rfl (by rfl) (fun W hW => ?_) ?_
     rotate_left
     ·go_simp
      first | done | rfl
     go_frame
    refine ql_want (v := .agg (setC N1)) rfl (by rfl) (fun W hW => ?_) ?_
    ·go_simp
     refine (nearG og V E y W ((unhide hg').ext (unhide hG W hW))).mono ?_
     rw [← unhide hN1']
     rintro _ _ ⟨h1, h2⟩
     exact ⟨_, h1, rfl, h2⟩
    go_frame
    refine ql_want (v := .agg (setC M2)) rfl (by rfl) (fun W hW => qUpon_ofX (load_SetR rfl rfl ((unhide hP).wholeK 0 rfl hW hoff))) ?_
    go_frame
    refine ql_want (v := .agg (setC (N1 &&& M2))) rfl (by rfl) (fun W hW => ?_) ?_
    ·go_simp
     refine (inter_any N1 M2 W).mono ?_
     rintro _ _ ⟨h1, h2⟩
     exact ⟨_, h1, rfl, h2⟩
    go_frame
    iterate 1
     refine ql_want (v := ?_) rfl (by rfl) (fun W hW => ?_) ?_
     rotate_left
     ·go_simp
      first | done | rfl
     go_frame
    refine ql_want (v := .agg (setC cc)) rfl (by rfl) (fun W hW => ?_) ?_
    ·go_simp
     refine (with_any (N1 &&& M2) y W).mono ?_
     rw [← unhide hcc']
     rintro _ _ ⟨h1, h2⟩
     exact ⟨_, h1, rfl, h2⟩
    go_frame
    refine wpQL_nil (fun y7 hxq => ?_)
    have hK := hide (hxq.keep (Value.slice A7 k c7).ownBlock.toList)
    replace hP : Hid (Sp w [] w [] [(r6, 51, setC M2)] [(3, 1, .slice (some ⟨b4, o4, none⟩) n c4, n, lo.flatMap encI), (51, 16, .slice A7 k c7, k, xs.flatMap encS)] y7) := hide ((unhide hP).ext hxq)
    clear hxq
    clear hoff hself hG
    refine lx_one (i := 8) (by kernel_rfl) rfl (by rfl) #[true,true,true,true,true,true,true,true,true,false,false] (by rfl) ?_
    refine (unhide hP).allocL (unhide hK) (v := fun b => .slice (some ⟨b, 0, none⟩) 1 1) 51 (setC cc) ?_ ?_
    ·exact run_buildS rfl rfl
    intro bt y8 hQ hK2 hg2
    replace hP : Hid (Sp w [] w [] [(r6, 51, setC M2), (bt, 51, setC cc)] [(3, 1, .slice (some ⟨b4, o4, none⟩) n c4, n, lo.flatMap encI), (51, 16, .slice A7 k c7, k, xs.flatMap encS)] y8) := hide hQ
    replace hK := hide hK2
    have hge_bt := hide hg2
    clear hQ hK2 hg2
    try go_frame
    refine lx_one (i := 9) (by kernel_rfl) rfl (by rfl) #[true,true,true,true,true,true,true,true,true,true,false] (by rfl) ?_
    refine (unhide hP).ap1L (unhide hK) (enc := encS) (T := 51) (ST := 66) 1 (v := .slice A7 k c7) (m := k) (xs := xs) rfl (fun z hz => .inl hz) infoS Tryz.underlying66 one_encS (fun _ => rfl) (by decide) (by decide) rfl cc rfl rfl ((unhide hP).get 1 rfl) (by omega) ?_
    intro A8 cA8 y9 hQ hK2 hg2
    replace hP : Hid (Sp w [] w [] [(r6, 51, setC M2), (bt, 51, setC cc)] [(3, 1, .slice (some ⟨b4, o4, none⟩) n c4, n, lo.flatMap encI), (51, 16, .slice A8 (k + 1) cA8, k + 1, (xs ++ [cc]).flatMap encS)] y9) := hide hQ
    replace hK := hide hK2
    have hge_A8 := hide hg2
    clear hQ hK2 hg2
    try go_frame
    refine lx_rekeep (unhide hK) [10] [] 0 1 #[true,true,true,true,true,true,true,true,true,true,false] #[true,true,true,true,true,true,true,true,true,true,true] (by kernel_rfl) rfl (by rfl) ?_
    clear hK
    iterate 1
     refine ql_want (v := ?_) rfl (by rfl) (fun W hW => ?_) ?_
     rotate_left
     ·go_simp
      first | done | rfl
     go_frame
    refine wpQL_nil (fun y10 hxq => ?_)
    replace hP : Hid (Sp w [] w [] [(r6, 51, setC M2), (bt, 51, setC cc)] [(3, 1, .slice (some ⟨b4, o4, none⟩) n c4, n, lo.flatMap encI), (51, 16, .slice A8 (k + 1) cA8, k + 1, (xs ++ [cc]).flatMap encS)] y10) := hide ((unhide hP).ext hxq)
    clear hxq
    refine wpX_done (by kernel_rfl) ?_
    try go_frame
    replace hP : Hid (Sp w [] w [] [(r6, 51, setC M2)] [(3, 1, .slice (some ⟨b4, o4, none⟩) n c4, n, lo.flatMap encI), (51, 16, .slice A8 (k + 1) cA8, k + 1, (xs ++ [cc]).flatMap encS)] y10) := hide ((unhide hP).sub (List.sublist_append_left _ ([(bt, 51, setC cc)] : List Cl)) (List.Sublist.refl _))
    clear hge_bt hge_A8
    go_wp2_with fail
    have h1 := unhide hkn
    refine ⟨n - (k + 1), ?_, by have := unhide hfm'; omega⟩
    rw [unhide hI4_4]
    exact ⟨k + 1, M2, A8, cA8, xs ++ [cc], (by first | rfl | trivial), (by first | rfl | trivial), (by first | rfl | trivial), (by first | rfl | trivial), (by first | rfl | trivial), (by first | rfl | trivial), (by first | rfl | (show _ = Value.int _ _; go_num) | go_num), (by first | rfl | trivial), by omega, by rw [List.length_append, unhide hxl']; rfl, unhide hC2', unhide hP, rfl⟩
   ·have hil : ¬ (k : Int) < (n : Int) := by omega
    obtain rfl : k = n := by omega
    obtain rfl : xs = C := by
     have h := unhide hC'
     rw [List.drop_of_length_le (by have := unhide hn'; omega)] at h
     simpa [allC] using h
    clear hC' hlt hxl' hfm'
    try dsimp only
    repeat ((fail_if_success (with_reducible refine wp_reg (id := 7) ?_)); (first | go_values | go_skip | go_step | go_guarded | go_upon | go_in | go_back | fail))
    with_reducible refine wp_reg (id := 7) ?_
    refine wpO_want rfl ?_
    go_simp
    refine wpO_done ?_
    try go_frame
    go_wp2_with fail
    replace hP := hide ((unhide hP).sub (List.nil_sublist _) (List.sublist_cons_self _ _))
    replace hP : Hid (Sp w [] w [] [] [(51, 16, .slice A7 k c7, k, xs.flatMap encS), (51, 16, .slice none 0 0, 0, ([] : List Nat).flatMap encS)] wr) := hide ((unhide hP).nil 51 16)
    obtain ⟨I4_8, hI4_80⟩ : ∃ I : Nat → Act → World → Prop, I = fun fi a' wr => ∃ (i : Nat), ∃ (A7 : Option Addr), ∃ (A10 : Option Addr), ∃ (c10 : Nat), ∃ (no : Nat), ∃ (ys : List Nat), a'.tmps.size = 81 ∧ a'.tmps.getD 7 undef = .slice A7 k c7 ∧ a'.tmps.getD 10 undef = .slice A10 no c10 ∧ a'.tmps.getD 45 undef = .slice A7 k c7 ∧ a'.tmps.getD 46 undef = .int .i64 (k : Nat) ∧ a'.tmps.getD 47 undef = .int .i64 (i : Nat) ∧ a'.defers = [] ∧ i ≤ k ∧ no = ys.length ∧ ys = outK xs i ∧ Sp w [] w [] [] [(51, 16, .slice A7 k c7, k, xs.flatMap encS), (51, 16, .slice A10 no c10, no, ys.flatMap encS)] wr ∧ fi = k - i := ⟨_, rfl⟩
    have hI4_8 := hide hI4_80
    clear hI4_80
    refine wp_loop_ix I4_8 (k - 0) ?_ ?_
    ·rw [unhide hI4_8]; exact ⟨0, A7, none, 0, 0, [], rfl, rfl, rfl, rfl, rfl, rfl, rfl, Nat.zero_le _, rfl, rfl, unhide hP, rfl⟩
    ·rintro fi ⟨tm, dfs⟩ wr hrel
     rw [unhide hI4_8] at hrel
     obtain ⟨i, A7, A10, c10, no, ys, hsz, e7, e10, e45, e46, e47, hdf, hik, hno, hys, hPr, hfm⟩ := hrel
     obtain ⟨us, rfl⟩ : ∃ us : Nat → Value, tm = #[us 0, us 1, us 2, us 3, us 4, us 5, us 6, us 7, us 8, us 9, us 10, us 11, us 12, us 13, us 14, us 15, us 16, us 17, us 18, us 19, us 20, us 21, us 22, us 23, us 24, us 25, us 26, us 27, us 28, us 29, us 30, us 31, us 32, us 33, us 34, us 35, us 36, us 37, us 38, us 39, us 40, us 41, us 42, us 43, us 44, us 45, us 46, us 47, us 48, us 49, us 50, us 51, us 52, us 53, us 54, us 55, us 56, us 57, us 58, us 59, us 60, us 61, us 62, us 63, us 64, us 65, us 66, us 67, us 68, us 69, us 70, us 71, us 72, us 73, us 74, us 75, us 76, us 77, us 78, us 79, us 80] := ⟨fun i => tm.getD i undef, arr_fn hsz⟩
     have h7 : us 7 = .slice A7 k c7 := e7
     have h10 : us 10 = .slice A10 no c10 := e10
     have h45 : us 45 = .slice A7 k c7 := e45
     have h46 : us 46 = .int .i64 (k : Nat) := e46
     have h47 : us 47 = .int .i64 (i : Nat) := e47
     have hdf2 : dfs = [] := hdf
     subst hdf2
     clear hdf hsz e7 e10 e45 e46 e47
     simp only [h7, h10, h45, h46, h47]
     clear h7 h10 h45 h46 h47
     clear hP
     have hP := hide hPr
     have hno' := hide hno
     have hys' := hide hys
     have hfm' := hide hfm
     have hnob := hide (show no ≤ 1025 by have h := outK_le xs i; rw [← hys, ← hno] at h; have := unhide hn25; omega)
     clear hPr hno hys hfm
     by_cases hlt : i < k
     ·have hil : (i : Int) < (k : Int) := by omega
      have hik2 := hide hlt
      have hiX : i < xs.length := by have := unhide hCl; omega
      have hib : (i : Int) ≤ 1025 := by have := unhide hn25; omega
      obtain ⟨c, hc⟩ : ∃ c, c = xs[i] := ⟨_, rfl⟩
      have hcD := hide (show xs.getD i 0 = c by rw [hc]; exact getD_get hiX)
      have hc' := hide hc
      obtain ⟨b7, o7, rfl, hb7, hcs⟩ := SlAt.set (own_at (enc := encS) (by have h := (unhide hP).row 0 rfl; rw [← unhide hCl] at h; exact h) (fun _ => rfl)) hiX
      rw [← hc] at hcs
      have hcs0 := hcs [] _ (Keep.refl _ _) (by simp)
      clear hc hcs hb7 hlt hik
      try dsimp only
      repeat ((fail_if_success (with_reducible refine wp_reg (id := 14) ?_)); (first | go_values | go_skip | go_step | go_guarded | go_upon | go_in | go_back | fail))
      with_reducible refine wp_reg (id := 14) ?_
      refine wpO_want rfl ?_
      go_simp
      refine wpO_done ?_
      try go_frame
      try dsimp only
      repeat ((fail_if_success (with_reducible refine wp_reg (id := 15) ?_)); (first | go_values | go_skip | go_step | go_guarded | go_upon | go_in | go_back | fail))
      with_reducible refine wp_reg (id := 15) ?_
      iterate 2
       refine wpO_want rfl ?_
       go_simp
      refine wpO_val rfl (load_SetR (N := c) rfl rfl hcs0) ?_
      go_frame
      refine (unhide hP).allocO 51 (setC 0) rfl (run_alloc_set rfl) ?_
      intro r12 y5 hQ
      replace hP : Hid (Sp w [] w [] [(r12, 51, setC 0)] [(51, 16, .slice (some ⟨b7, o7, none⟩) k c7, k, xs.flatMap encS), (51, 16, .slice A10 no c10, no, ys.flatMap encS)] y5) := hide hQ
      clear hQ
      refine wpO_want rfl ?_
      go_simp
      refine (unhide hP).setO 0 (setC c) rfl rfl (fun hb => store_SetR (N := c) rfl rfl rfl hb) ?_
      intro y6 hQ
      replace hP : Hid (Sp w [] w [] [(r12, 51, setC c)] [(51, 16, .slice (some ⟨b7, o7, none⟩) k c7, k, xs.flatMap encS), (51, 16, .slice A10 no c10, no, ys.flatMap encS)] y6) := hide hQ
      clear hQ
      refine wpO_done ?_
      try go_frame
      clear hcs0
      go_wp2_with fail
      obtain ⟨I6_12, hI6_120⟩ : ∃ I : Nat → Act → World → Prop, I = fun fj a' wr => ∃ (j : Nat), ∃ (q : Bool), a'.tmps.size = 81 ∧ a'.tmps.getD 7 undef = .slice (some ⟨b7, o7, none⟩) k c7 ∧ a'.tmps.getD 10 undef = .slice A10 no c10 ∧ a'.tmps.getD 11 undef = .int .i64 (i : Nat) ∧ a'.tmps.getD 12 undef = .pointer (some ⟨r12, 0, none⟩) ∧ a'.tmps.getD 13 undef = .bool q ∧ a'.tmps.getD 45 undef = .slice (some ⟨b7, o7, none⟩) k c7 ∧ a'.tmps.getD 46 undef = .int .i64 (k : Nat) ∧ a'.tmps.getD 47 undef = .int .i64 (i : Nat) ∧ a'.tmps.getD 52 undef = .slice (some ⟨b7, o7, none⟩) k c7 ∧ a'.tmps.getD 53 undef = .int .i64 (k : Nat) ∧ a'.tmps.getD 54 undef = .int .i64 (j : Nat) ∧ a'.defers = [] ∧ j ≤ k ∧ q = innK xs i j ∧ Sp w [] w [] [(r12, 51, setC c)] [(51, 16, .slice (some ⟨b7, o7, none⟩) k c7, k, xs.flatMap encS), (51, 16, .slice A10 no c10, no, ys.flatMap encS)] wr ∧ fj = k - j := ⟨_, rfl⟩
      have hI6_12 := hide hI6_120
      clear hI6_120
      refine wp_loop_ix I6_12 (k - 0) ?_ ?_
      ·rw [unhide hI6_12]; exact ⟨0, false, rfl, rfl, rfl, rfl, rfl, rfl, rfl, rfl, rfl, rfl, rfl, rfl, rfl, Nat.zero_le _, rfl, unhide hP, rfl⟩
      ·rintro fj ⟨tm, dfs⟩ wr hrel
       rw [unhide hI6_12] at hrel
       obtain ⟨j, q, hsz, e7, e10, e11, e12, e13, e45, e46, e47, e52, e53, e54, hdf, hjk, hq, hPr, hfj⟩ := hrel
       obtain ⟨us, rfl⟩ : ∃ us : Nat → Value, tm = #[us 0, us 1, us 2, us 3, us 4, us 5, us 6, us 7, us 8, us 9, us 10, us 11, us 12, us 13, us 14, us 15, us 16, us 17, us 18, us 19, us 20, us 21, us 22, us 23, us 24, us 25, us 26, us 27, us 28, us 29, us 30, us 31, us 32, us 33, us 34, us 35, us 36, us 37, us 38, us 39, us 40, us 41, us 42, us 43, us 44, us 45, us 46, us 47, us 48, us 49, us 50, us 51, us 52, us 53, us 54, us 55, us 56, us 57, us 58, us 59, us 60, us 61, us 62, us 63, us 64, us 65, us 66, us 67, us 68, us 69, us 70, us 71, us 72, us 73, us 74, us 75, us 76, us 77, us 78, us 79, us 80] := ⟨fun i => tm.getD i undef, arr_fn hsz⟩
       have h7 : us 7 = .slice (some ⟨b7, o7, none⟩) k c7 := e7
       have h10 : us 10 = .slice A10 no c10 := e10
       have h11 : us 11 = .int .i64 (i : Nat) := e11
       have h12 : us 12 = .pointer (some ⟨r12, 0, none⟩) := e12
       have h13 : us 13 = .bool q := e13
       have h45 : us 45 = .slice (some ⟨b7, o7, none⟩) k c7 := e45
       have h46 : us 46 = .int .i64 (k : Nat) := e46
       have h47 : us 47 = .int .i64 (i : Nat) := e47
       have h52 : us 52 = .slice (some ⟨b7, o7, none⟩) k c7 := e52
       have h53 : us 53 = .int .i64 (k : Nat) := e53
       have h54 : us 54 = .int .i64 (j : Nat) := e54
       have hdf2 : dfs = [] := hdf
       subst hdf2
       clear hdf hsz e7 e10 e11 e12 e13 e45 e46 e47 e52 e53 e54
       simp only [h7, h10, h11, h12, h13, h45, h46, h47, h52, h53, h54]
       clear h7 h10 h11 h12 h13 h45 h46 h47 h52 h53 h54
       clear hP
       have hP := hide hPr
       have hq' := hide hq
       have hfj' := hide hfj
       clear hPr hq hfj
       by_cases hlt : j < k
       ·have hil2 : (j : Int) < (k : Int) := by omega
        have hjk2 := hide hlt
        have hjX : j < xs.length := by have := unhide hCl; omega
        have hjb : (j : Int) ≤ 1025 := by have := unhide hn25; omega
        obtain ⟨d, hd⟩ : ∃ d, d = xs[j] := ⟨_, rfl⟩
        have hdD := hide (show xs.getD j 0 = d by rw [hd]; exact getD_get hjX)
        obtain ⟨b7', o7', hA7, hb7, hcs⟩ := SlAt.set (own_at (enc := encS) (by have h := (unhide hP).row 0 rfl; rw [← unhide hCl] at h; exact h) (fun _ => rfl)) hjX
        injection hA7 with hA7
        injection hA7 with hA7a hA7b
        subst hA7a
        subst hA7b
        rw [← hd] at hcs
        have hcs0 := hcs [] _ (Keep.refl _ _) (by simp)
        have hnx := hide (innK_next xs i j)
        rw [unhide hcD, unhide hdD, ← unhide hq'] at hnx
        clear hd hcs hb7 hlt hjk
        try dsimp only
        repeat ((fail_if_success (with_reducible refine wp_reg (id := 18) ?_)); (first | go_values | go_skip | go_step | go_guarded | go_upon | go_in | go_back | fail))
        with_reducible refine wp_reg (id := 18) ?_
        refine wpO_want rfl ?_
        go_simp
        refine wpO_done ?_
        try go_frame
        try dsimp only
        repeat ((fail_if_success (with_reducible refine wp_reg (id := 19) ?_)); (first | go_values | go_skip | go_step | go_guarded | go_upon | go_in | go_back | fail))
        with_reducible refine wp_reg (id := 19) ?_
        iterate 2
         refine wpO_want rfl ?_
         go_simp
        refine wpO_val rfl (load_SetR (N := d) rfl rfl hcs0) ?_
        go_frame
        refine (unhide hP).allocO 51 (setC 0) rfl (run_alloc_set rfl) ?_
        intro r15 y7 hQ
        replace hP : Hid (Sp w [] w [] [(r12, 51, setC c), (r15, 51, setC 0)] [(51, 16, .slice (some ⟨b7, o7, none⟩) k c7, k, xs.flatMap encS), (51, 16, .slice A10 no c10, no, ys.flatMap encS)] y7) := hide hQ
        clear hQ
        refine wpO_want rfl ?_
        go_simp
        refine (unhide hP).setO 1 (setC d) rfl rfl (fun hb => store_SetR (N := d) rfl rfl rfl hb) ?_
        intro y8 hQ
        replace hP : Hid (Sp w [] w [] [(r12, 51, setC c), (r15, 51, setC d)] [(51, 16, .slice (some ⟨b7, o7, none⟩) k c7, k, xs.flatMap encS), (51, 16, .slice A10 no c10, no, ys.flatMap encS)] y8) := hide hQ
        clear hQ
        refine wpO_done ?_
        try go_frame
        clear hcs0
        obtain ⟨sb, hsb⟩ : ∃ s, s = subS c d := ⟨_, rfl⟩
        rw [← hsb] at hnx
        have hsb' := hide hsb
        clear hsb
        cases q with
        | false =>
         by_cases hij : i = j
         ·have hnij : ((i : Int) != (j : Int)) = false := by simp [hij]
          replace hij := hide hij
          try dsimp only
          repeat ((fail_if_success (with_reducible refine wp_reg (id := 20) ?_)); (first | go_values | go_skip | go_step | go_guarded | go_upon | go_in | go_back | fail))
          with_reducible refine wp_reg (id := 20) ?_
          iterate 6
           refine wpO_want rfl ?_
           go_simp
          refine wpO_out (by rfl) ?_
          go_frame
          refine wpO_out (by rfl) ?_
          go_frame
          refine wpO_out (by rfl) ?_
          go_frame
          iterate 3
           refine wpO_want rfl ?_
           go_simp
          refine wpO_done ?_
          try go_frame
          clear hnij
          replace hP : Hid (Sp w [] w [] [(r12, 51, setC c)] [(51, 16, .slice (some ⟨b7, o7, none⟩) k c7, k, xs.flatMap encS), (51, 16, .slice A10 no c10, no, ys.flatMap encS)] y8) := hide ((unhide hP).sub (List.sublist_append_left _ ([(r15, 51, setC d)] : List Cl)) (List.Sublist.refl _))
          go_wp2_with fail
          have h1 := unhide hjk2
          refine ⟨k - (j + 1), ?_, by have := unhide hfj'; omega⟩
          rw [unhide hI6_12]
          exact ⟨j + 1, false, (by first | rfl | trivial), (by first | rfl | trivial), (by first | rfl | trivial), (by first | rfl | trivial), (by first | rfl | trivial), (by first | rfl | trivial), (by first | rfl | trivial), (by first | rfl | trivial), (by first | rfl | trivial), (by first | rfl | trivial), (by first | rfl | trivial), (by first | rfl | (show _ = Value.int _ _; go_num) | go_num), (by first | rfl | trivial), by omega, by rw [unhide hnx, show decide (i ≠ j) = false by simp [unhide hij]]; rfl, unhide hP, rfl⟩
         ·have hnij : ((i : Int) != (j : Int)) = true := by simp; omega
          replace hij := hide hij
          try dsimp only
          repeat ((fail_if_success (with_reducible refine wp_reg (id := 20) ?_)); (first | go_values | go_skip | go_step | go_guarded | go_upon | go_in | go_back | fail))
          with_reducible refine wp_reg (id := 20) ?_
          iterate 6
           refine wpO_want rfl ?_
           go_simp
          refine wpO_val rfl (load_SetR (N := c) rfl rfl ((unhide hP).get 0 rfl).whole) ?_
          go_frame
          refine wpO_val rfl (load_SetR (N := d) rfl rfl ((unhide hP).get 1 rfl).whole) ?_
          go_frame
          refine wpO_want rfl ?_
          go_simp
          have hca := sub_any c d y8
          rw [← unhide hsb'] at hca
          refine (hca).mono ?_
          rintro _ y9 ⟨rfl, hxc⟩
          clear hca
          refine ⟨_, rfl, ?_⟩
          replace hP : Hid (Sp w [] w [] [(r12, 51, setC c), (r15, 51, setC d)] [(51, 16, .slice (some ⟨b7, o7, none⟩) k c7, k, xs.flatMap encS), (51, 16, .slice A10 no c10, no, ys.flatMap encS)] y9) := hide ((unhide hP).ext hxc)
          clear hxc
          iterate 3
           refine wpO_want rfl ?_
           go_simp
          refine wpO_done ?_
          try go_frame
          clear hnij
          replace hP : Hid (Sp w [] w [] [(r12, 51, setC c)] [(51, 16, .slice (some ⟨b7, o7, none⟩) k c7, k, xs.flatMap encS), (51, 16, .slice A10 no c10, no, ys.flatMap encS)] y9) := hide ((unhide hP).sub (List.sublist_append_left _ ([(r15, 51, setC d)] : List Cl)) (List.Sublist.refl _))
          go_wp2_with fail
          have h1 := unhide hjk2
          refine ⟨k - (j + 1), ?_, by have := unhide hfj'; omega⟩
          rw [unhide hI6_12]
          exact ⟨j + 1, sb, (by first | rfl | trivial), (by first | rfl | trivial), (by first | rfl | trivial), (by first | rfl | trivial), (by first | rfl | trivial), (by first | rfl | trivial), (by first | rfl | trivial), (by first | rfl | trivial), (by first | rfl | trivial), (by first | rfl | trivial), (by first | rfl | trivial), (by first | rfl | (show _ = Value.int _ _; go_num) | go_num), (by first | rfl | trivial), by omega, by rw [unhide hnx, show decide (i ≠ j) = true by simp [unhide hij]]; rfl, unhide hP, rfl⟩
        | true =>
         try dsimp only
         repeat ((fail_if_success (with_reducible refine wp_reg (id := 20) ?_)); (first | go_values | go_skip | go_step | go_guarded | go_upon | go_in | go_back | fail))
         with_reducible refine wp_reg (id := 20) ?_
         iterate 2
          refine wpO_want rfl ?_
          go_simp
         refine wpO_out (by rfl) ?_
         go_frame
         refine wpO_out (by rfl) ?_
         go_frame
         refine wpO_out (by rfl) ?_
         go_frame
         refine wpO_out (by rfl) ?_
         go_frame
         refine wpO_out (by rfl) ?_
         go_frame
         refine wpO_out (by rfl) ?_
         go_frame
         refine wpO_out (by rfl) ?_
         go_frame
         refine wpO_out (by rfl) ?_
         go_frame
         iterate 2
          refine wpO_want rfl ?_
          go_simp
         refine wpO_done ?_
         try go_frame
         replace hP : Hid (Sp w [] w [] [(r12, 51, setC c)] [(51, 16, .slice (some ⟨b7, o7, none⟩) k c7, k, xs.flatMap encS), (51, 16, .slice A10 no c10, no, ys.flatMap encS)] y8) := hide ((unhide hP).sub (List.sublist_append_left _ ([(r15, 51, setC d)] : List Cl)) (List.Sublist.refl _))
         go_wp2_with fail
         have h1 := unhide hjk2
         refine ⟨k - (j + 1), ?_, by have := unhide hfj'; omega⟩
         rw [unhide hI6_12]
         exact ⟨j + 1, true, (by first | rfl | trivial), (by first | rfl | trivial), (by first | rfl | trivial), (by first | rfl | trivial), (by first | rfl | trivial), (by first | rfl | trivial), (by first | rfl | trivial), (by first | rfl | trivial), (by first | rfl | trivial), (by first | rfl | trivial), (by first | rfl | trivial), (by first | rfl | (show _ = Value.int _ _; go_num) | go_num), (by first | rfl | trivial), by omega, by rw [unhide hnx]; rfl, unhide hP, rfl⟩
       ·have hil2 : ¬ (j : Int) < (k : Int) := by omega
        obtain rfl : j = k := by omega
        have hin := hide (show innerS xs i = q by rw [unhide hq']; unfold innerS innK; rw [unhide hCl])
        have hnx := hide (outK_next xs i)
        rw [unhide hin, unhide hcD, ← unhide hys'] at hnx
        clear hlt hfj' hq'
        try dsimp only
        repeat ((fail_if_success (with_reducible refine wp_reg (id := 18) ?_)); (first | go_values | go_skip | go_step | go_guarded | go_upon | go_in | go_back | fail))
        with_reducible refine wp_reg (id := 18) ?_
        refine wpO_want rfl ?_
        go_simp
        refine wpO_done ?_
        try go_frame
        cases q with
        | true =>
         try dsimp only
         repeat ((fail_if_success (with_reducible refine wp_reg (id := 22) ?_)); (first | go_values | go_skip | go_step | go_guarded | go_upon | go_in | go_back | fail))
         with_reducible refine wp_reg (id := 22) ?_
         iterate 2
          refine wpO_want rfl ?_
          go_simp
         refine wpO_done ?_
         try go_frame
         replace hP : Hid (Sp w [] w [] [] [(51, 16, .slice (some ⟨b7, o7, none⟩) j c7, j, xs.flatMap encS), (51, 16, .slice A10 no c10, no, ys.flatMap encS)] wr) := hide ((unhide hP).sub (List.sublist_append_left _ ([(r12, 51, setC c)] : List Cl)) (List.Sublist.refl _))
         go_wp2_with fail
         have h1 := unhide hik2
         refine ⟨j - (i + 1), ?_, by have := unhide hfm'; omega⟩
         rw [unhide hI4_8]
         exact ⟨i + 1, some ⟨b7, o7, none⟩, A10, c10, no, ys, (by first | rfl | trivial), (by first | rfl | trivial), (by first | rfl | trivial), (by first | rfl | trivial), (by first | rfl | trivial), (by first | rfl | (show _ = Value.int _ _; go_num) | go_num), (by first | rfl | trivial), by omega, unhide hno', by rw [unhide hnx]; simp, unhide hP, rfl⟩
        | false =>
         try dsimp only
         repeat ((fail_if_success (with_reducible refine wp_reg (id := 22) ?_)); (first | go_values | go_skip | go_step | go_guarded | go_upon | go_in | go_back | fail))
         with_reducible refine wp_reg (id := 22) ?_
         iterate 2
          refine wpO_want rfl ?_
          go_simp
         refine wpO_done ?_
         try go_frame
         try dsimp only
         repeat ((fail_if_success (with_reducible refine wp_reg (id := 23) ?_)); (first | go_values | go_skip | go_step | go_guarded | go_upon | go_in | go_back | fail))
         with_reducible refine wp_reg (id := 23) ?_
         refine wpO_want rfl ?_
         go_simp
         refine wpO_val rfl (load_SetR (N := c) rfl rfl ((unhide hP).get 0 rfl).whole) ?_
         go_frame
         refine (unhide hP).build1O 51 (setC c) rfl (run_buildS rfl rfl) ?_
         intro bt y7 hQ
         replace hP : Hid (Sp w [] w [] [(r12, 51, setC c), (bt, 51, setC c)] [(51, 16, .slice (some ⟨b7, o7, none⟩) j c7, j, xs.flatMap encS), (51, 16, .slice A10 no c10, no, ys.flatMap encS)] y7) := hide hQ
         clear hQ
         go_frame
         refine (unhide hP).ap1O (enc := encS) (T := 51) (ST := 66) 1 (v := .slice A10 no c10) (m := no) (xs := ys) rfl rfl infoS Tryz.underlying66 one_encS (fun _ => rfl) (by decide) (by decide) rfl c rfl rfl ((unhide hP).get 1 rfl) (by have := unhide hnob; omega) ?_
         intro A11 cA11 y8 hQ
         replace hP : Hid (Sp w [] w [] [(r12, 51, setC c), (bt, 51, setC c)] [(51, 16, .slice (some ⟨b7, o7, none⟩) j c7, j, xs.flatMap encS), (51, 16, .slice A11 (no + 1) cA11, no + 1, (ys ++ [c]).flatMap encS)] y8) := hide hQ
         clear hQ
         try go_frame
         refine wpO_want rfl ?_
         go_simp
         refine wpO_done ?_
         try go_frame
         replace hP : Hid (Sp w [] w [] [(r12, 51, setC c)] [(51, 16, .slice (some ⟨b7, o7, none⟩) j c7, j, xs.flatMap encS), (51, 16, .slice A11 (no + 1) cA11, no + 1, (ys ++ [c]).flatMap encS)] y8) := hide ((unhide hP).sub (List.sublist_append_left _ ([(bt, 51, setC c)] : List Cl)) (List.Sublist.refl _))
         replace hP : Hid (Sp w [] w [] [] [(51, 16, .slice (some ⟨b7, o7, none⟩) j c7, j, xs.flatMap encS), (51, 16, .slice A11 (no + 1) cA11, no + 1, (ys ++ [c]).flatMap encS)] y8) := hide ((unhide hP).sub (List.sublist_append_left _ ([(r12, 51, setC c)] : List Cl)) (List.Sublist.refl _))
         go_wp2_with fail
         have h1 := unhide hik2
         refine ⟨j - (i + 1), ?_, by have := unhide hfm'; omega⟩
         rw [unhide hI4_8]
         exact ⟨i + 1, some ⟨b7, o7, none⟩, A11, cA11, no + 1, ys ++ [c], (by first | rfl | trivial), (by first | rfl | trivial), (by first | rfl | trivial), (by first | rfl | trivial), (by first | rfl | trivial), (by first | rfl | (show _ = Value.int _ _; go_num) | go_num), (by first | rfl | trivial), by omega, by rw [List.length_append, ← unhide hno']; rfl, by rw [unhide hnx]; simp, unhide hP, rfl⟩
     ·have hil : ¬ (i : Int) < (k : Int) := by omega
      obtain rfl : i = k := by omega
      have hye := hide (show ys = outC xs by rw [unhide hys']; unfold outK outC; rw [unhide hCl])
      have hlp := hide (show l.Perm ys by rw [unhide hye]; exact unhide hCp)
      have hls := hide (lt_sorted (unhide hlR) (unhide hCs))
      clear hlt hfm' hik hys'
      try dsimp only
      repeat ((fail_if_success (with_reducible refine wp_reg (id := 14) ?_)); (first | go_values | go_skip | go_step | go_guarded | go_upon | go_in | go_back | fail))
      with_reducible refine wp_reg (id := 14) ?_
      refine wpO_want rfl ?_
      go_simp
      refine wpO_done ?_
      try go_frame
      try dsimp only
      repeat ((fail_if_success (with_reducible refine wp_reg (id := 25) ?_)); (first | go_values | go_skip | go_step | go_guarded | go_upon | go_in | go_back | fail))
      with_reducible refine wp_reg (id := 25) ?_
      refine wpO_want rfl ?_
      go_simp
      refine wpO_want rfl ?_
      go_simp
      have hca := sortS_any w.heap.size (.slice A10 no c10) ys l wr (by have h := (unhide hP).row 1 rfl; rw [unhide hno'] at h ⊢; exact h) (unhide hlp) (unhide hls) (by rw [← unhide hno']; have := unhide hnob; omega)
      refine hca.mono ?_
      clear hca
      rintro _ y5 ⟨rfl, ho, hgr⟩
      refine ⟨_, rfl, ?_⟩
      rw [← unhide hno'] at ho
      replace hP := hide ((unhide hP).sorted 1 (by decide) rfl ho hgr)
      replace hP : Hid (Sp w [] w [] [] [(51, 16, .slice A7 i c7, i, xs.flatMap encS), (51, 16, .slice A10 no c10, no, l.flatMap encS)] y5) := hP
      clear ho hgr
      refine wpO_done ?_
      try go_frame
      go_wp2_with fail
      refine Sp.leaves0 ?_
      rw [unhide hre]
      exact ⟨_, results_tmp2 (t := 2) (u := 3) rfl _ _ _, McPost.mk (by rw [unhide hno']; exact (unhide hlp).length_eq.symm) rfl ((unhide hP).row 1 rfl) (unhide hP).extf⟩
end Go.Proofs.YtmfkkkhddigkfaaGreatDoor
