/- Parts of a proof, laid together. Each part says its own conditions. -/
import Derived.Test.YtoacpebmhbkmbaaGreatDoorT34
import Derived.Test.YtoacpebmhbkmbaaGreatDoorT35
import Derived.Test.YtoacpebmhbkmbaaGreatDoorT36
import Derived.Test.YtoacpebmhbkmbaaGreatDoorT31
import Derived.Test.YtoacpebmhbkmbaaGreatDoorT25
namespace Go.Proofs.YtoacpebmhbkmbaaGreatDoor
open Go Go.RowKit Go.Shelf
attribute [local go_sem] qUpon lUpon
attribute [local irreducible] wpO wpX wpQL
def lbS (near : Int → Int → Bool) (L : List Int) : Int := max (max (dgnP near L.length L) ((conS L.length near L).foldl (fun m p => max m (p.2 : Int)) (-1))) (((grcL near L).length : Int) - 1)
noncomputable def ubS (E : List ((Int × Int) × Thing)) (near : Int → Int → Bool) (L : List Int) : Int × List Int := if widK E (ordS filP L.length near L) (ordS filP L.length near L).length < widK E (ordS degP L.length near L) (ordS degP L.length near L).length then (widK E (ordS filP L.length near L) (ordS filP L.length near L).length,ordS filP L.length near L) else (widK E (ordS degP L.length near L) (ordS degP L.length near L).length,ordS degP L.length near L)
theorem perm_ord {V : List (Int × Thing)} {a : List Int} (hV : toL (vS V) = V.map (·.1)) (hp : a.Perm (toL (vS V))) : Ord V a := ⟨hp.nodup_iff.2 (toL_nodup _),fun x => by rw [hp.mem_iff,hV]⟩
theorem grcL_le {m : List (Int × Nat)} {L : List Int} {near : Int → Int → Bool} (h : Rep m L near) : (grcL near L).length ≤ 1024 := Nat.le_trans (List.length_filter_le _ _) h.le
set_option maxRecDepth 100000 in
set_option maxHeartbeats 16000000 in
theorem lower_any (og : Option Addr) (V : List (Int × Thing)) (E : List ((Int × Int) × Thing)) (w : World) (hg : GL w og V E) (hi : GInv V E) (hT : Tab w) :
  Calls Tryz.prog 16 #[.pointer og] w (fun e w' => e = .returned (.int .i64 (lbS (nr0 E) (toL (vS V)))) ∧ Ext w w') := by
 have hd := hide (fun W (hW : Ext w W) => degeneracy_any og V E W (hg.ext hW) hi (hT.ext hW))
 have hc := hide (fun W (hW : Ext w W) => contraction_any og V E W (hg.ext hW) hi (hT.ext hW))
 have hq := hide (fun W (hW : Ext w W) => greedy_any og V E W (hg.ext hW) hi (hT.ext hW))
 have hgl := hide (grcL_le (rep_of hi))
 have hlb : lbS (nr0 E) (toL (vS V)) = max (max (dgnP (nr0 E) (toL (vS V)).length (toL (vS V))) ((conS (toL (vS V)).length (nr0 E) (toL (vS V))).foldl (fun m p => max m (p.2 : Int)) (-1))) (((grcL (nr0 E) (toL (vS V))).length : Int) - 1) := rfl
 rw [hlb]
 generalize dgnP (nr0 E) (toL (vS V)).length (toL (vS V)) = x at hd ⊢
 generalize (degS (nr0 E) (toL (vS V)).length (toL (vS V))).map (·.1) = xl at hd
 generalize (conS (toL (vS V)).length (nr0 E) (toL (vS V))).foldl (fun m p => max m (p.2 : Int)) (-1) = y at hc ⊢
 generalize outC2 (conS (toL (vS V)).length (nr0 E) (toL (vS V))) = yl at hc
 generalize grcL (nr0 E) (toL (vS V)) = zl at hq hgl ⊢
 obtain ⟨n,hn⟩ : ∃ n,n = zl.length := ⟨_,rfl⟩
 rw [← hn] at hgl ⊢
 have hn' := hide hn
 obtain ⟨rv,hrv⟩ : ∃ rv,rv = max (max x y) ((n : Int) - 1) := ⟨_,rfl⟩
 rw [← hrv]
 have hrv' := hide hrv
 clear hg hi hT hlb hn hrv
 have hw1 : IntKind.i64.wrap ((n : Int) - 1) = (n : Int) - 1 := IntWalk.i64_in _ (by have := unhide hgl; omega)
 have hP := hide (Sp.new w)
 refine callsIn_wide.1 (callsIn_of_wp_marks (n := 0) Tryz.func16 rfl trivial (wpIn_wide.2 ?_))
 simp only [Tryz.ntmps16,List.size_toArray,List.length_cons,List.length_nil,Nat.reduceAdd,Nat.reduceSub,Array.replicate_succ,Array.replicate_zero,List.push_toArray,List.append_toArray,List.nil_append,List.cons_append]
 try dsimp only
 repeat ((fail_if_success (with_reducible refine wp_reg (id := 1) ?_)); (first | go_values | go_skip | go_step | go_guarded | go_upon | go_in | go_back | fail))
 with_reducible refine wp_reg (id := 1) ?_
 refine wpO_want rfl ?_
 go_simp
 refine wpO_want rfl ?_
 go_simp
 refine (unhide hd _ (unhide hP).extf).mono ?_
 rintro _ y1 ⟨A1,c1,rfl,_,hxc⟩
 refine ⟨_,rfl, ?_⟩
 replace hP : Hid (Sp w [] w [] [] [] y1) := hide ((unhide hP).ext hxc)
 clear hxc
 obtain ⟨n1,hn1⟩ : ∃ n,n = xl.length := ⟨_,rfl⟩
 rw [← hn1]
 clear hn1
 generalize htu0 : Value.tuple _ = tu
 have htu := hide htu0
 clear htu0
 refine wpO_val rfl (run_move rfl rfl) ?_
 go_frame
 refine wpO_val rfl (run_extract (i := 0) (v := .int .i64 x) rfl (unhide htu).symm rfl) ?_
 go_frame
 refine wpO_val rfl (run_extract (i := 1) (v := .slice A1 n1 c1) rfl (unhide htu).symm rfl) ?_
 go_frame
 iterate 2
  refine wpO_want rfl ?_
  go_simp
 refine wpO_done ?_
 try go_frame
 clear htu
 try dsimp only
 repeat ((fail_if_success (with_reducible refine wp_reg (id := 2) ?_)); (first | go_values | go_skip | go_step | go_guarded | go_upon | go_in | go_back | fail))
 with_reducible refine wp_reg (id := 2) ?_
 refine wpO_want rfl ?_
 go_simp
 refine wpO_want rfl ?_
 go_simp
 refine (unhide hc _ (unhide hP).extf).mono ?_
 rintro _ y2 ⟨A2,c2,rfl,_,hxc⟩
 refine ⟨_,rfl, ?_⟩
 replace hP : Hid (Sp w [] w [] [] [] y2) := hide ((unhide hP).ext hxc)
 clear hxc
 obtain ⟨n2,hn2⟩ : ∃ n,n = yl.length := ⟨_,rfl⟩
 rw [← hn2]
 clear hn2
 generalize htu0 : Value.tuple _ = tu
 have htu := hide htu0
 clear htu0
 refine wpO_val rfl (run_move rfl rfl) ?_
 go_frame
 refine wpO_val rfl (run_extract (i := 0) (v := .int .i64 y) rfl (unhide htu).symm rfl) ?_
 go_frame
 refine wpO_val rfl (run_extract (i := 1) (v := .slice A2 n2 c2) rfl (unhide htu).symm rfl) ?_
 go_frame
 iterate 2
  refine wpO_want rfl ?_
  go_simp
 refine wpO_done ?_
 try go_frame
 clear htu
 try dsimp only
 repeat ((fail_if_success (with_reducible refine wp_reg (id := 3) ?_)); (first | go_values | go_skip | go_step | go_guarded | go_upon | go_in | go_back | fail))
 with_reducible refine wp_reg (id := 3) ?_
 iterate 3
  refine wpO_want rfl ?_
  go_simp
 refine wpO_want rfl ?_
 go_simp
 refine (unhide hq _ (unhide hP).extf).mono ?_
 rintro _ y3 ⟨A3,c3,rfl,_,hxc⟩
 rw [← unhide hn']
 refine ⟨_,rfl, ?_⟩
 replace hP : Hid (Sp w [] w [] [] [] y3) := hide ((unhide hP).ext hxc)
 clear hxc
 iterate 4
  refine wpO_want rfl ?_
  go_simp
 refine wpO_done ?_
 try go_frame
 clear hw1
 go_wp2_with fail
 all_goals
  refine Sp.leaves0 ?_
  refine ⟨_,results_tmp (t := 2) rfl _ _ _, ?_,(unhide hP).extf⟩
  exact congrArg (fun z : Int => Ending.returned (Value.int .i64 z)) (by rw [unhide hrv']; first | rfl | omega)
set_option maxRecDepth 100000 in
set_option maxHeartbeats 16000000 in
theorem narrow_any (g bv be : Nat) (V : List (Int × Thing)) (E : List ((Int × Int) × Thing)) (A B : Option Addr) (a b : List Int) (n m c d : Nat) (w : World) (hg : IsG w g bv be V E) (hT : Tab w) (hA : SlAt encI 1 w A a) (hB : SlAt encI 1 w B b) (hn : n = a.length) (hm : m = b.length) (hl : n ≤ 1024) (hl2 : m ≤ 1024) (hca : checkS a V = 0) (hcb : checkS b V = 0) :
  Calls Tryz.prog 51 #[.pointer (some ⟨g,0,none⟩), .slice A n c, .slice B m d] w fun e w' => e = .returned (if widK E b b.length < widK E a a.length then .tuple #[.int .i64 (widK E b b.length), .slice B m d] else .tuple #[.int .i64 (widK E a a.length), .slice A n c]) ∧ Ext w w' := by
 have h1 := hide (fun W (hW : Ext w W) => by
  have h := width_ok A a c g bv be V E W (hA.ext hW) (by omega) (hg.ext hW) (hT.ext hW) hca
  rw [← hn] at h
  exact h)
 have h2 := hide (fun W (hW : Ext w W) => by
  have h := width_ok B b d g bv be V E W (hB.ext hW) (by omega) (hg.ext hW) (hT.ext hW) hcb
  rw [← hm] at h
  exact h)
 rw [← hn, ← hm]
 generalize widK E a n = x at h1 ⊢
 generalize widK E b m = y at h2 ⊢
 obtain ⟨rv,hrv⟩ : ∃ rv,rv = (if y < x then Value.tuple #[.int .i64 y, .slice B m d] else Value.tuple #[.int .i64 x, .slice A n c]) := ⟨_,rfl⟩
 rw [← hrv]
 have hrv' := hide hrv
 clear hrv
 clear hg hT hA hB hn hm hl hl2 hca hcb
 have hP := hide (Sp.new w)
 refine callsIn_wide.1 (callsIn_of_wp_marks (n := 0) Tryz.func51 rfl trivial (wpIn_wide.2 ?_))
 simp only [Tryz.ntmps51,List.size_toArray,List.length_cons,List.length_nil,Nat.reduceAdd,Nat.reduceSub,Array.replicate_succ,Array.replicate_zero,List.push_toArray,List.append_toArray,List.nil_append,List.cons_append]
 try dsimp only
 repeat ((fail_if_success (with_reducible refine wp_reg (id := 1) ?_)); (first | go_values | go_skip | go_step | go_guarded | go_upon | go_in | go_back | fail))
 with_reducible refine wp_reg (id := 1) ?_
 iterate 2
  refine wpO_want rfl ?_
  go_simp
 refine wpO_want rfl ?_
 go_simp
 have hca := unhide h1 _ (unhide hP).extf
 refine (hca).mono ?_
 rintro _ y1 ⟨rfl,hxc⟩
 clear hca
 refine ⟨_,rfl, ?_⟩
 replace hP : Hid (Sp w [] w [] [] [] y1) := hide ((unhide hP).ext hxc)
 clear hxc
 generalize htu0 : Value.tuple _ = tu
 have htu := hide htu0
 clear htu0
 refine wpO_val rfl (run_move rfl rfl) ?_
 go_frame
 refine wpO_val rfl (run_extract (i := 0) (v := .int .i64 x) rfl (unhide htu).symm rfl) ?_
 go_frame
 refine wpO_val rfl (run_extract (i := 1) (v := .int .i64 0) rfl (unhide htu).symm rfl) ?_
 go_frame
 iterate 2
  refine wpO_want rfl ?_
  go_simp
 refine wpO_done ?_
 try go_frame
 clear htu
 try dsimp only
 repeat ((fail_if_success (with_reducible refine wp_reg (id := 2) ?_)); (first | go_values | go_skip | go_step | go_guarded | go_upon | go_in | go_back | fail))
 with_reducible refine wp_reg (id := 2) ?_
 iterate 2
  refine wpO_want rfl ?_
  go_simp
 refine wpO_want rfl ?_
 go_simp
 have hca := unhide h2 _ (unhide hP).extf
 refine (hca).mono ?_
 rintro _ y2 ⟨rfl,hxc⟩
 clear hca
 refine ⟨_,rfl, ?_⟩
 replace hP : Hid (Sp w [] w [] [] [] y2) := hide ((unhide hP).ext hxc)
 clear hxc
 generalize htu0 : Value.tuple _ = tu
 have htu := hide htu0
 clear htu0
 refine wpO_val rfl (run_move rfl rfl) ?_
 go_frame
 refine wpO_val rfl (run_extract (i := 0) (v := .int .i64 y) rfl (unhide htu).symm rfl) ?_
 go_frame
 refine wpO_val rfl (run_extract (i := 1) (v := .int .i64 0) rfl (unhide htu).symm rfl) ?_
 go_frame
 iterate 2
  refine wpO_want rfl ?_
  go_simp
 refine wpO_done ?_
 try go_frame
 clear htu
 by_cases hyx : y < x
 ·skip
  have hd : decide (y < x) = true := decide_eq_true hyx
  replace hyx := hide hyx
  try dsimp only
  repeat ((fail_if_success (with_reducible refine wp_reg (id := 3) ?_)); (first | go_values | go_skip | go_step | go_guarded | go_upon | go_in | go_back | fail))
  with_reducible refine wp_reg (id := 3) ?_
  iterate 3
   refine wpO_want rfl ?_
   go_simp
  refine wpO_done ?_
  try go_frame
  try dsimp only
  repeat ((fail_if_success (with_reducible refine wp_reg (id := 4) ?_)); (first | go_values | go_skip | go_step | go_guarded | go_upon | go_in | go_back | fail))
  with_reducible refine wp_reg (id := 4) ?_
  iterate 4
   refine wpO_want rfl ?_
   go_simp
  refine wpO_done ?_
  try go_frame
  clear hd
  go_wp2_with fail
  refine Sp.leaves0 ?_
  exact ⟨_,results_tmp2 (t := 6) (u := 7) rfl _ _ _,by rw [unhide hrv',if_pos (unhide hyx)]; rfl,(unhide hP).extf⟩
 ·skip
  have hd : decide (y < x) = false := decide_eq_false hyx
  replace hyx := hide hyx
  try dsimp only
  repeat ((fail_if_success (with_reducible refine wp_reg (id := 3) ?_)); (first | go_values | go_skip | go_step | go_guarded | go_upon | go_in | go_back | fail))
  with_reducible refine wp_reg (id := 3) ?_
  iterate 3
   refine wpO_want rfl ?_
   go_simp
  refine wpO_done ?_
  try go_frame
  try dsimp only
  repeat ((fail_if_success (with_reducible refine wp_reg (id := 5) ?_)); (first | go_values | go_skip | go_step | go_guarded | go_upon | go_in | go_back | fail))
  with_reducible refine wp_reg (id := 5) ?_
  iterate 4
   refine wpO_want rfl ?_
   go_simp
  refine wpO_done ?_
  try go_frame
  clear hd
  go_wp2_with fail
  refine Sp.leaves0 ?_
  exact ⟨_,results_tmp2 (t := 6) (u := 7) rfl _ _ _,by rw [unhide hrv',if_neg (by have h := unhide hyx; omega)]; rfl,(unhide hP).extf⟩
set_option maxRecDepth 100000 in
set_option maxHeartbeats 16000000 in
theorem upper_any (og : Option Addr) (V : List (Int × Thing)) (E : List ((Int × Int) × Thing)) (w : World) (hg : GL w og V E) (hi : GInv V E) (hT : Tab w) :
  Calls Tryz.prog 15 #[.pointer og] w (DgPost w (ubS E (nr0 E) (toL (vS V))).1 (ubS E (nr0 E) (toL (vS V))).2) := by
 have hmd := hide (fun W (hW : Ext w W) => minDegree_any og V E W (hg.ext hW) hi (hT.ext hW))
 have hmf := hide (fun W (hW : Ext w W) => minFill_any og V E W (hg.ext hW) hi (hT.ext hW))
 have hub : ubS E (nr0 E) (toL (vS V)) = if widK E (ordS filP (toL (vS V)).length (nr0 E) (toL (vS V))) (ordS filP (toL (vS V)).length (nr0 E) (toL (vS V))).length < widK E (ordS degP (toL (vS V)).length (nr0 E) (toL (vS V))) (ordS degP (toL (vS V)).length (nr0 E) (toL (vS V))).length then (widK E (ordS filP (toL (vS V)).length (nr0 E) (toL (vS V))) (ordS filP (toL (vS V)).length (nr0 E) (toL (vS V))).length,ordS filP (toL (vS V)).length (nr0 E) (toL (vS V))) else (widK E (ordS degP (toL (vS V)).length (nr0 E) (toL (vS V))) (ordS degP (toL (vS V)).length (nr0 E) (toL (vS V))).length,ordS degP (toL (vS V)).length (nr0 E) (toL (vS V))) := rfl
 have hpa := ordS_perm (key := degP) (toL (vS V)).length (nr0 E) (toL (vS V)) (Nat.le_refl _)
 have hpb := ordS_perm (key := filP) (toL (vS V)).length (nr0 E) (toL (vS V)) (Nat.le_refl _)
 have hV0 := toL_vS hi
 have hle := (rep_of hi).le
 have hnil := hide (show V = [] → toL (vS V) = [] from fun h => by rw [hV0,h]; rfl)
 generalize ordS degP (toL (vS V)).length (nr0 E) (toL (vS V)) = a at hmd hub hpa
 generalize ordS filP (toL (vS V)).length (nr0 E) (toL (vS V)) = b at hmf hub hpb
 have hca := hide (ord_check (perm_ord hV0 hpa) (by rw [hpa.length_eq,hV0,List.length_map]))
 have hcb := hide (ord_check (perm_ord hV0 hpb) (by rw [hpb.length_eq,hV0,List.length_map]))
 have hal := hide (show a.length ≤ 1024 by rw [hpa.length_eq]; exact hle)
 have hbl := hide (show b.length ≤ 1024 by rw [hpb.length_eq]; exact hle)
 have hpa' := hide hpa
 have hpb' := hide hpb
 obtain ⟨rv,hrv⟩ : ∃ rv,rv = ubS E (nr0 E) (toL (vS V)) := ⟨_,rfl⟩
 rw [← hrv]
 rw [hub] at hrv
 have hrv' := hide hrv
 clear hub hpa hpb hle hV0 hi hrv
 rcases hg with ⟨g,bv,be,rfl,hg⟩ | ⟨rfl,rfl,rfl⟩
 ·skip
  obtain ⟨n,hn⟩ : ∃ n,n = a.length := ⟨_,rfl⟩
  obtain ⟨m,hm⟩ : ∃ m,m = b.length := ⟨_,rfl⟩
  have hg' := hide hg
  have hT' := hide hT
  have hn' := hide hn
  have hm' := hide hm
  clear hg hT hn hm
  have hP := hide (Sp.new w)
  refine callsIn_wide.1 (callsIn_of_wp_marks (n := 0) Tryz.func15 rfl trivial (wpIn_wide.2 ?_))
  simp only [Tryz.ntmps15,List.size_toArray,List.length_cons,List.length_nil,Nat.reduceAdd,Nat.reduceSub,Array.replicate_succ,Array.replicate_zero,List.push_toArray,List.append_toArray,List.nil_append,List.cons_append]
  try dsimp only
  repeat ((fail_if_success (with_reducible refine wp_reg (id := 1) ?_)); (first | go_values | go_skip | go_step | go_guarded | go_upon | go_in | go_back | fail))
  with_reducible refine wp_reg (id := 1) ?_
  iterate 2
   refine wpO_want rfl ?_
   go_simp
  refine wpO_done ?_
  try go_frame
  try dsimp only
  repeat ((fail_if_success (with_reducible refine wp_reg (id := 3) ?_)); (first | go_values | go_skip | go_step | go_guarded | go_upon | go_in | go_back | fail))
  with_reducible refine wp_reg (id := 3) ?_
  iterate 2
   refine wpO_want rfl ?_
   go_simp
  refine wpO_want rfl ?_
  go_simp
  refine (unhide hmd _ (unhide hP).extf).mono ?_
  rintro _ y1 ⟨A2,c2,rfl,ho,hxc⟩
  rw [← unhide hn'] at ho
  rw [← unhide hn']
  refine ⟨_,rfl, ?_⟩
  replace hP : Hid (Sp w [] w [] [] [(3,1, .slice A2 n c2,n,a.flatMap encI)] y1) := hide ((unhide hP).addRow hxc ho)
  clear hxc ho
  refine wpO_want rfl ?_
  go_simp
  refine wpO_want rfl ?_
  go_simp
  refine (unhide hmf _ (unhide hP).extf).mono ?_
  rintro _ y2 ⟨A3,c3,rfl,ho,hxc⟩
  rw [← unhide hm'] at ho
  rw [← unhide hm']
  refine ⟨_,rfl, ?_⟩
  replace hP : Hid (Sp w [] w [] [] [(3,1, .slice A2 n c2,n,a.flatMap encI),(3,1, .slice A3 m c3,m,b.flatMap encI)] y2) := hide ((unhide hP).addRow hxc ho)
  clear hxc ho
  refine wpO_want rfl ?_
  go_simp
  have hna := narrow_any g bv be V E A2 A3 a b n m c2 c3 y2 ((unhide hg').ext (unhide hP).extf) ((unhide hT').ext (unhide hP).extf) (own_at (enc := encI) (by have h := (unhide hP).row 0 rfl; rw [unhide hn'] at h; exact h) (fun _ => rfl)) (own_at (enc := encI) (by have h := (unhide hP).row 1 rfl; rw [unhide hm'] at h; exact h) (fun _ => rfl)) (unhide hn') (unhide hm') (by have := unhide hal; have := unhide hn'; omega) (by have := unhide hbl; have := unhide hm'; omega) (unhide hca) (unhide hcb)
  refine hna.mono ?_
  clear hna
  rintro _ y3 ⟨rfl,hxc⟩
  refine ⟨_,rfl, ?_⟩
  replace hP : Hid (Sp w [] w [] [] [(3,1, .slice A2 n c2,n,a.flatMap encI),(3,1, .slice A3 m c3,m,b.flatMap encI)] y3) := hide ((unhide hP).ext hxc)
  clear hxc
  by_cases hyx : widK E b b.length < widK E a a.length
  ·skip
   have hre := hide ((unhide hrv').trans (if_pos hyx))
   rw [if_pos hyx]
   have hyx' := hide hyx
   clear hyx
   obtain ⟨wv,hwv⟩ : ∃ wv,wv = widK E b b.length := ⟨_,rfl⟩
   rw [← hwv] at hre ⊢
   clear hwv
   generalize htu0 : Value.tuple _ = tu
   have htu := hide htu0
   clear htu0
   refine wpO_val rfl (run_extract (i := 0) (v := .int .i64 wv) rfl (unhide htu).symm rfl) ?_
   go_frame
   refine wpO_val rfl (run_extract (i := 1) (v := .slice A3 m c3) rfl (unhide htu).symm rfl) ?_
   go_frame
   iterate 2
    refine wpO_want rfl ?_
    go_simp
   refine wpO_done ?_
   try go_frame
   clear htu
   go_wp2_with fail
   refine Sp.leaves0 ?_
   exact ⟨_,results_tmp2 (t := 2) (u := 3) rfl _ _ _,by rw [unhide hre]; exact DgPost.mk rfl (unhide hm') ((unhide hP).row 1 rfl) (unhide hP).extf⟩
  ·skip
   have hre := hide ((unhide hrv').trans (if_neg hyx))
   rw [if_neg hyx]
   have hyx' := hide hyx
   clear hyx
   obtain ⟨wv,hwv⟩ : ∃ wv,wv = widK E a a.length := ⟨_,rfl⟩
   rw [← hwv] at hre ⊢
   clear hwv
   generalize htu0 : Value.tuple _ = tu
   have htu := hide htu0
   clear htu0
   refine wpO_val rfl (run_extract (i := 0) (v := .int .i64 wv) rfl (unhide htu).symm rfl) ?_
   go_frame
   refine wpO_val rfl (run_extract (i := 1) (v := .slice A2 n c2) rfl (unhide htu).symm rfl) ?_
   go_frame
   iterate 2
    refine wpO_want rfl ?_
    go_simp
   refine wpO_done ?_
   try go_frame
   clear htu
   go_wp2_with fail
   refine Sp.leaves0 ?_
   exact ⟨_,results_tmp2 (t := 2) (u := 3) rfl _ _ _,by rw [unhide hre]; exact DgPost.mk rfl (unhide hn') ((unhide hP).row 0 rfl) (unhide hP).extf⟩
 ·skip
  have ha : a = [] := by have h := unhide hpa'; rw [unhide hnil rfl] at h; exact h.eq_nil
  have hb : b = [] := by have h := unhide hpb'; rw [unhide hnil rfl] at h; exact h.eq_nil
  subst ha hb
  have hw0 : widK ([] : List ((Int × Int) × Thing)) [] ([] : List Int).length = -1 := rfl
  have hre := hide (show rv = (-1,[]) by rw [unhide hrv',hw0,if_neg (by omega)])
  clear hT hw0 hmd hrv' hmf hca hcb hal hbl hpa' hpb' hnil
  have hP := hide (Sp.new w)
  refine callsIn_wide.1 (callsIn_of_wp_marks (n := 0) Tryz.func15 rfl trivial (wpIn_wide.2 ?_))
  simp only [Tryz.ntmps15,List.size_toArray,List.length_cons,List.length_nil,Nat.reduceAdd,Nat.reduceSub,Array.replicate_succ,Array.replicate_zero,List.push_toArray,List.append_toArray,List.nil_append,List.cons_append]
  try dsimp only
  repeat ((fail_if_success (with_reducible refine wp_reg (id := 1) ?_)); (first | go_values | go_skip | go_step | go_guarded | go_upon | go_in | go_back | fail))
  with_reducible refine wp_reg (id := 1) ?_
  iterate 2
   refine wpO_want rfl ?_
   go_simp
  refine wpO_done ?_
  try go_frame
  try dsimp only
  repeat ((fail_if_success (with_reducible refine wp_reg (id := 2) ?_)); (first | go_values | go_skip | go_step | go_guarded | go_upon | go_in | go_back | fail))
  with_reducible refine wp_reg (id := 2) ?_
  iterate 2
   refine wpO_want rfl ?_
   go_simp
  refine wpO_done ?_
  try go_frame
  go_wp2_with fail
  refine Sp.leaves0 ?_
  exact ⟨_,results_tmp2 (t := 2) (u := 3) rfl _ _ _,by rw [unhide hre]; exact DgPost.mk rfl rfl (World.ownsRow_nil _ _ _ _) (unhide hP).extf⟩
end Go.Proofs.YtoacpebmhbkmbaaGreatDoor
namespace Go.Proofs.YtoacpebmhbkmbaaGreatDoor
open Go Go.RowKit Go.Shelf
attribute [local go_sem] qUpon lUpon
attribute [local irreducible] wpO wpX wpQL
theorem cellI {w : World} {A : Option Addr} {L : List Int} (h : SlAt encI 1 w A L) {k : Nat} (hk : k < L.length) : ∃ b off,A = some ⟨b,off,none⟩ ∧ ∀ W,Ext w W → W.cell? ⟨b,off + k,none⟩ = some (.int .i64 L[k]) := by
 obtain ⟨b,off,rfl,hc⟩ := atI h hk
 exact ⟨b,off,rfl,hc⟩
set_option maxRecDepth 100000 in
set_option maxHeartbeats 4000000 in
theorem same_ints (A B : Option Addr) (L M : List Int) (n m cA cB : Nat) (w : World) (hA : SlAt encI 1 w A L) (hB : SlAt encI 1 w B M) (hn : n = L.length) (hm : m = M.length) (hl : n ≤ 100000) (hl2 : m ≤ 100000) :
  Calls Tryz.prog 21 #[.slice A n cA, .slice B m cB] w fun e w' => e = .returned (.bool (decide (L = M))) ∧ Ext w w' := by
 have hA' := hide hA
 have hB' := hide hB
 clear hA hB
 go_enter Tryz.func21,Tryz.ntmps21
 by_cases hnm : (n : Int) = (m : Int)
 ·have hnm2 : n = m := by omega
  subst hnm2
  have hn' := hide hn
  have hm' := hide hm
  clear hn hm hnm
  go_wp2_with fail
  go_loopw [5] (fun iv wr => ∃ k : Nat,k ≤ n ∧ iv = .int .i64 k ∧ L.take k = M.take k ∧ Ext w wr) (fun iv _ => n - (intOf iv).toNat)
  case atStart => exact ⟨0,Nat.zero_le _,rfl,by simp,Ext.refl _⟩
  case round =>
   obtain ⟨k,hk,rfl,htk,hx⟩ := hrel
   have htk' := hide htk
   have hx' := hide hx
   clear htk hx
   by_cases hlt : k < n
   ·have hkL : k < L.length := by have := unhide hn'; omega
    have hkM : k < M.length := by have := unhide hm'; omega
    obtain ⟨b,off,rfl,c0⟩ := cellI ((unhide hA').ext (unhide hx')) hkL
    obtain ⟨b2,off2,rfl,d0⟩ := cellI ((unhide hB').ext (unhide hx')) hkM
    have t1 := hide (List.take_succ_eq_append_getElem hkL)
    have t2 := hide (List.take_succ_eq_append_getElem hkM)
    have hne := hide (show L[k] ≠ M[k] → L ≠ M from fun h e => h (by subst e; rfl))
    generalize L[k] = x at *
    generalize M[k] = y at *
    have hself := Ext.refl wr
    go_wp2_with fail
    obtain ⟨q,hq⟩ : ∃ q : Bool,q = !decide (x = y) := ⟨_,rfl⟩
    have hq' := hide hq
    clear hq
    refine wp_region_ext (P := Tryz.prog) [0,1,2,3,4,5,6,7,8] [] 0 #[true,true,true,true,true,true,true,true,true] (by kernel_rfl) (by kernel_rfl) rfl (by rfl) ?_
    iterate 8
     refine ql_want (v := ?_) rfl (by rfl) (fun W hW => ?_) ?_
     rotate_left
     ·go_simp
      first | done | rfl
     go_frame
    refine ql_want (v := .bool q) rfl (by rfl) (fun W hW => ?_) ?_
    ·go_simp
     rw [unhide hq']
     by_cases h1 : x = y <;> simp [h1]
    go_frame
    refine wpQL_nil (fun w2 hx2 => ?_)
    refine wpX_done (by kernel_rfl) ?_
    try go_frame
    have hx2' := hide ((unhide hx').trans hx2)
    clear c0 d0 hself hx2
    cases q
    ·have hxy : x = y := by
      have h := unhide hq'
      by_cases h1 : x = y
      ·exact h1
      ·simp [h1] at h
     have hnx := hide (show L.take (k + 1) = M.take (k + 1) by rw [unhide t1,unhide t2,unhide htk',hxy])
     clear hxy hq'
     go_wp2_with fail
     go_roundw
     case rel => exact ⟨k + 1,by omega,by go_num,unhide hnx,unhide hx2'⟩
     case measure => simp [intOf]; omega
    ·have hxy : x ≠ y := by
      have h := unhide hq'
      by_cases h1 : x = y
      ·simp [h1] at h
      ·exact h1
     have hres := hide (decide_eq_false (unhide hne hxy))
     clear hxy hq'
     go_wp2_with fail
     go_ret
     exact ⟨by rw [unhide hres]; rfl,unhide hx2'⟩
   ·have hke : k = n := by omega
    have hres := hide (show decide (L = M) = true from decide_eq_true (by have h := unhide htk'; rw [hke] at h; rw [unhide hn',List.take_length, ← unhide hn',unhide hm',List.take_length] at h; exact h))
    go_wp2_with fail
    go_ret
    exact ⟨by rw [unhide hres]; rfl,unhide hx'⟩
 ·have hres := hide (show decide (L = M) = false from decide_eq_false (fun e => hnm (by rw [hn,hm,e])))
  clear hn hm
  go_wp2_with fail
  go_ret
  exact ⟨by rw [unhide hres]; rfl,Ext.refl _⟩
def rg1 (i : Nat) : Ed := (0,(i : Int),0,0,0)
def rg2 (n i : Nat) : Ed := (2,(i : Int),((i : Int) + 1) % (n : Int),0,0)
def ringE (n : Nat) : List Ed := (List.range n).map rg1 ++ (List.range n).map (rg2 n)
def ringG (n : Nat) : GS := (ringE n).foldl stD ([],[])
def r5V : List (Int × Thing) := [((0 : Int),((0 : Int),(0 : Int))),(1,(0,0)),(2,(0,0)),(3,(0,0)),(4,(0,0))]
def r5E : List ((Int × Int) × Thing) := [(((0 : Int),(1 : Int)),((0 : Int),(0 : Int))),((0,4),(0,0)),((1,2),(0,0)),((2,3),(0,0)),((3,4),(0,0))]
set_option maxRecDepth 100000 in
theorem ring5 : ringG 5 = (r5V,r5E) := by decide +kernel
set_option maxRecDepth 100000 in
theorem r5_dgn : dgnP (nr0 r5E) (toL (vS r5V)).length (toL (vS r5V)) = 2 := by kernel_rfl
set_option maxRecDepth 100000 in
theorem r5_con : (conS (toL (vS r5V)).length (nr0 r5E) (toL (vS r5V))).foldl (fun m p => max m (p.2 : Int)) (-1) = 2 := by kernel_rfl
set_option maxRecDepth 100000 in
theorem r5_grc : (grcL (nr0 r5E) (toL (vS r5V))).length = 2 := by kernel_rfl
set_option maxRecDepth 100000 in
theorem r5_lb : lbS (nr0 r5E) (toL (vS r5V)) = 2 := by kernel_rfl
set_option maxRecDepth 100000 in
theorem r5_ub1 : (ubS r5E (nr0 r5E) (toL (vS r5V))).1 = 2 := by kernel_rfl
set_option maxRecDepth 100000 in
theorem r5_ub2 : (ubS r5E (nr0 r5E) (toL (vS r5V))).2 = [0,1,2,3,4] := by kernel_rfl
end Go.Proofs.YtoacpebmhbkmbaaGreatDoor
