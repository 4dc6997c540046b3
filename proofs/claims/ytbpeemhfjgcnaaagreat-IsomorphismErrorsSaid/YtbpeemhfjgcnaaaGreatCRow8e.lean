/- Every input makes the law IsomorphismErrors answer true, and each argument reads behind the call as it read before: the given statement. No condition. -/
import Derived.Test.YtbpeemhfjgcnaaaGreatC30
import Derived.Test.YtbpeemhfjgcnaaaGreatC32
import Derived.Test.YtbpeemhfjgcnaaaGreatC24
import Derived.Test.YtbpeemhfjgcnaaaGreatC21
import Derived.Test.YtbpeemhfjgcnaaaGreatC16
import Derived.Test.YtbpeemhfjgcnaaaGreatC17
import Derived.Test.YtbpeemhfjgcnaaaGreatC33
import Derived.Test.YtbpeemhfjgcnaaaGreatC31
import Derived.Test.YtbpeemhfjgcnaaaGreatC28
import Derived.Test.YtbpeemhfjgcnaaaGreatC34
import Derived.Test.YtbpeemhfjgcnaaaGreatC35
import Derived.Test.YtbpeemhfjgcnaaaGreatC36
import Derived.Test.YtbpeemhfjgcnaaaGreatC37
import Derived.Test.YtbpeemhfjgcnaaaGreatC23
import Derived.Test.YtbpeemhfjgcnaaaGreatC38
import Derived.WalkKit
import Derived.ProofKit
import Derived.OpenShut
import Derived.ShutString
import Derived.ChangeOld
import Derived.Below
import Derived.Test.YtbpeemhfjgcnaaaGreatC43
namespace Go.Proofs.YtbpeemhfjgcnaaaGreat
open Go Go.RowKit Go.Shelf
attribute [local go_sem] qUpon lUpon
attribute [local irreducible] wpO wpX wpQL
set_option maxRecDepth 100000 in
set_option maxHeartbeats 16000000 in
theorem relabel_nil (A : Option Addr) (n cA : Nat) (w : World) :
  Calls Tryz.prog 20 #[.pointer none, .slice A n cA] w fun e w' => e = .returned (.tuple #[.pointer none, .int .i64 1]) ∧ Ext w w' := by
 have hP := hide (Sp.new w)
 refine callsIn_wide.1 (callsIn_of_wp_marks (n := 0) Tryz.func20 rfl trivial (wpIn_wide.2 ?_))
 simp only [Tryz.ntmps20,List.size_toArray,List.length_cons,List.length_nil,Nat.reduceAdd,Nat.reduceSub,Array.replicate_succ,Array.replicate_zero,List.push_toArray,List.append_toArray,List.nil_append,List.cons_append]
 try dsimp only
 repeat ((fail_if_success (with_reducible refine wp_reg (id := 0) ?_)); (first | go_values | go_skip | go_step | go_guarded | go_upon | go_in | go_back | fail))
 with_reducible refine wp_reg (id := 0) ?_
 iterate 2
  refine wpO_want rfl ?_
  go_simp
 refine wpO_done ?_
 try go_frame
 try dsimp only
 repeat ((fail_if_success (with_reducible refine wp_reg (id := 1) ?_)); (first | go_values | go_skip | go_step | go_guarded | go_upon | go_in | go_back | fail))
 with_reducible refine wp_reg (id := 1) ?_
 iterate 2
  refine wpO_want rfl ?_
  go_simp
 refine wpO_done ?_
 try go_frame
 try dsimp only
 repeat ((fail_if_success (with_reducible refine wp_reg (id := 2) ?_)); (first | go_values | go_skip | go_step | go_guarded | go_upon | go_in | go_back | fail))
 with_reducible refine wp_reg (id := 2) ?_
 iterate 2
  refine wpO_want rfl ?_
  go_simp
 refine wpO_done ?_
 try go_frame
 go_wp2_with fail
 refine Sp.leaves0 ?_
 exact ⟨_,results_tmp2 (t := 4) (u := 5) rfl _ _ _,rfl,(unhide hP).extf⟩
end Go.Proofs.YtbpeemhfjgcnaaaGreat
namespace Go.Proofs.YtbpeemhfjgcnaaaGreat
open Go Go.RowKit Go.Shelf
attribute [local go_sem] qUpon lUpon
attribute [local irreducible] wpO wpX wpQL
theorem slPt2 {w : World} {b : Nat} {p q : Option Addr} (h : Blk w b 24 #[.pointer p, .pointer q]) : SlAt encPt 1 w (some ⟨b,0,none⟩) [p,q] := slat_blk [p,q] h rfl (fun _ => rfl) (by simp)
theorem asked2 (b : Nat) (p q : Option Addr) (e f : Nat) (z : Int) (w : World) (h : Blk w b 24 #[.pointer p, .pointer q]) (hk : AskIs w p e) (hq : AskIs w q f) (hz : z = ((if e = 0 then f else e : Nat) : Int)) : Calls Tryz.prog 39 #[.slice (some ⟨b,0,none⟩) 2 2] w fun e' w' => e' = .returned (.int .i64 z) ∧ Ext w w' := by
 have h1 := asked_any (some ⟨b,0,none⟩) [p,q] [e,f] 2 2 w (slPt2 h) rfl rfl (by decide) (fun i h1 h2 => by
  rcases i with _ | _ | i
  ·exact hk
  ·exact hq
  ·simp at h1; omega)
 rw [show ((askL [e,f] : Nat) : Int) = z by rw [hz]; by_cases he : e = 0 <;> by_cases hf : f = 0 <;> simp [askL,he,hf]] at h1
 exact h1
theorem AskIs.big {w : World} {g bv be : Nat} {V : List (Int × Thing)} {E : List ((Int × Int) × Thing)} (h : IsG w g bv be V E) (hl : 8 < V.length) : AskIs w (some ⟨g,0,none⟩) 2 := .inr ⟨g,bv,be,V,E,rfl,h,by rw [if_pos hl]⟩
theorem AskIs.none (w : World) : AskIs w none 1 := .inl ⟨rfl,rfl⟩
set_option maxRecDepth 100000 in
set_option maxHeartbeats 16000000 in
theorem canon_bad (p : Option Addr) (e : Nat) (z : Int) (w : World) (hk : AskIs w p e) (hz : z = (e : Int)) (h0 : z ≠ 0) :
  Calls Tryz.prog 13 #[.pointer p] w fun e' w' => e' = .returned (.tuple #[.pointer none, .slice none 0 0, .int .i64 z]) ∧ Ext w w' := by
 have hk' := hide hk
 have hz' := hide hz
 have hq : ((z : Int) != 0) = true := by simpa using h0
 clear hk hz h0
 have hP := hide (Sp.new w)
 refine callsIn_wide.1 (callsIn_of_wp_marks (n := 0) Tryz.func13 rfl trivial (wpIn_wide.2 ?_))
 simp only [Tryz.ntmps13,List.size_toArray,List.length_cons,List.length_nil,Nat.reduceAdd,Nat.reduceSub,Array.replicate_succ,Array.replicate_zero,List.push_toArray,List.append_toArray,List.nil_append,List.cons_append]
 try dsimp only
 repeat ((fail_if_success (with_reducible refine wp_reg (id := 0) ?_)); (first | go_values | go_skip | go_step | go_guarded | go_upon | go_in | go_back | fail))
 with_reducible refine wp_reg (id := 0) ?_
 refine (unhide hP).allocO 24 #[.pointer p] rfl (run_box (v := .pointer p) rfl rfl) ?_
 intro b1 y1 hQ
 replace hP : Hid (Sp w [] w [] [(b1,24, #[.pointer p])] [] y1) := hide hQ
 clear hQ
 iterate 3
  refine wpO_want rfl ?_
  go_simp
 refine wpO_done ?_
 try go_frame
 try dsimp only
 repeat ((fail_if_success (with_reducible refine wp_reg (id := 1) ?_)); (first | go_values | go_skip | go_step | go_guarded | go_upon | go_in | go_back | fail))
 with_reducible refine wp_reg (id := 1) ?_
 refine wpO_val rfl (load_V (v := .pointer p) rfl rfl (by simp [go_sem]) (((unhide hP).get 0 rfl).cell 0)) ?_
 go_frame
 refine (unhide hP).buildO 1 24 #[.pointer p] rfl (by go_simp) ?_
 intro bp y2 hQ
 replace hP : Hid (Sp w [] w [] [(b1,24, #[.pointer p]),(bp,24, #[.pointer p])] [] y2) := hide hQ
 clear hQ
 try go_frame
 refine wpO_want rfl ?_
 go_simp
 refine (asked1 bp p e z y2 ((unhide hP).get 1 rfl) ((unhide hk').ext (unhide hP).extf) (unhide hz')).mono ?_
 rintro _ y3 ⟨rfl,hxc⟩
 refine ⟨_,rfl, ?_⟩
 replace hP : Hid (Sp w [] w [] [(b1,24, #[.pointer p]),(bp,24, #[.pointer p])] [] y3) := hide ((unhide hP).ext hxc)
 clear hxc
 refine wpO_want rfl ?_
 go_simp
 refine wpO_done ?_
 try go_frame
 replace hP : Hid (Sp w [] w [] [(b1,24, #[.pointer p])] [] y3) := hide ((unhide hP).sub (List.sublist_append_left _ ([(bp,24, #[.pointer p])] : List Cl)) (List.Sublist.refl _))
 try dsimp only
 repeat ((fail_if_success (with_reducible refine wp_reg (id := 2) ?_)); (first | go_values | go_skip | go_step | go_guarded | go_upon | go_in | go_back | fail))
 with_reducible refine wp_reg (id := 2) ?_
 iterate 2
  refine wpO_want rfl ?_
  go_simp
 refine wpO_done ?_
 try go_frame
 clear hq
 try dsimp only
 repeat ((fail_if_success (with_reducible refine wp_reg (id := 3) ?_)); (first | go_values | go_skip | go_step | go_guarded | go_upon | go_in | go_back | fail))
 with_reducible refine wp_reg (id := 3) ?_
 iterate 4
  refine wpO_want rfl ?_
  go_simp
 refine wpO_done ?_
 try go_frame
 go_wp2_with fail
 refine Sp.leaves0 ?_
 exact ⟨_,results_tmp3 (t := 2) (u := 3) (v := 4) rfl _ _ _,rfl,(unhide hP).extf⟩
end Go.Proofs.YtbpeemhfjgcnaaaGreat
namespace Go.Proofs.YtbpeemhfjgcnaaaGreat
open Go Go.RowKit Go.Shelf
attribute [local go_sem] qUpon lUpon
attribute [local irreducible] wpO wpX wpQL
set_option maxRecDepth 100000 in
set_option maxHeartbeats 16000000 in
theorem autos_bad (p : Option Addr) (e : Nat) (z : Int) (w : World) (hk : AskIs w p e) (hz : z = (e : Int)) (h0 : z ≠ 0) :
  Calls Tryz.prog 18 #[.pointer p] w fun e' w' => e' = .returned (.tuple #[.slice none 0 0, .int .i64 z]) ∧ Ext w w' := by
 have hk' := hide hk
 have hz' := hide hz
 have hq : ((z : Int) != 0) = true := by simpa using h0
 clear hk hz h0
 have hP := hide (Sp.new w)
 refine callsIn_wide.1 (callsIn_of_wp_marks (n := 0) Tryz.func18 rfl trivial (wpIn_wide.2 ?_))
 simp only [Tryz.ntmps18,List.size_toArray,List.length_cons,List.length_nil,Nat.reduceAdd,Nat.reduceSub,Array.replicate_succ,Array.replicate_zero,List.push_toArray,List.append_toArray,List.nil_append,List.cons_append]
 try dsimp only
 repeat ((fail_if_success (with_reducible refine wp_reg (id := 0) ?_)); (first | go_values | go_skip | go_step | go_guarded | go_upon | go_in | go_back | fail))
 with_reducible refine wp_reg (id := 0) ?_
 iterate 2
  refine wpO_want rfl ?_
  go_simp
 refine wpO_done ?_
 try go_frame
 try dsimp only
 repeat ((fail_if_success (with_reducible refine wp_reg (id := 1) ?_)); (first | go_values | go_skip | go_step | go_guarded | go_upon | go_in | go_back | fail))
 with_reducible refine wp_reg (id := 1) ?_
 refine wpO_want rfl ?_
 go_simp
 refine (unhide hP).buildO 1 24 #[.pointer p] rfl (by go_simp) ?_
 intro bp y1 hQ
 replace hP : Hid (Sp w [] w [] [(bp,24, #[.pointer p])] [] y1) := hide hQ
 clear hQ
 try go_frame
 refine wpO_want rfl ?_
 go_simp
 refine (asked1 bp p e z y1 ((unhide hP).get 0 rfl) ((unhide hk').ext (unhide hP).extf) (unhide hz')).mono ?_
 rintro _ y2 ⟨rfl,hxc⟩
 refine ⟨_,rfl, ?_⟩
 replace hP : Hid (Sp w [] w [] [(bp,24, #[.pointer p])] [] y2) := hide ((unhide hP).ext hxc)
 clear hxc
 refine wpO_want rfl ?_
 go_simp
 refine wpO_done ?_
 try go_frame
 replace hP : Hid (Sp w [] w [] [] [] y2) := hide ((unhide hP).sub (List.sublist_append_left _ ([(bp,24, #[.pointer p])] : List Cl)) (List.Sublist.refl _))
 try dsimp only
 repeat ((fail_if_success (with_reducible refine wp_reg (id := 2) ?_)); (first | go_values | go_skip | go_step | go_guarded | go_upon | go_in | go_back | fail))
 with_reducible refine wp_reg (id := 2) ?_
 iterate 2
  refine wpO_want rfl ?_
  go_simp
 refine wpO_done ?_
 try go_frame
 clear hq
 try dsimp only
 repeat ((fail_if_success (with_reducible refine wp_reg (id := 3) ?_)); (first | go_values | go_skip | go_step | go_guarded | go_upon | go_in | go_back | fail))
 with_reducible refine wp_reg (id := 3) ?_
 iterate 3
  refine wpO_want rfl ?_
  go_simp
 refine wpO_done ?_
 try go_frame
 go_wp2_with fail
 refine Sp.leaves0 ?_
 exact ⟨_,results_tmp2 (t := 2) (u := 3) rfl _ _ _,rfl,(unhide hP).extf⟩
end Go.Proofs.YtbpeemhfjgcnaaaGreat
namespace Go.Proofs.YtbpeemhfjgcnaaaGreat
open Go Go.RowKit Go.Shelf
attribute [local go_sem] qUpon lUpon
attribute [local irreducible] wpO wpX wpQL
set_option maxRecDepth 100000 in
set_option maxHeartbeats 16000000 in
theorem iso_bad (p q : Option Addr) (e f : Nat) (z : Int) (w : World) (hk : AskIs w p e) (hk2 : AskIs w q f) (hz : z = ((if e = 0 then f else e : Nat) : Int)) (h0 : z ≠ 0) :
  Calls Tryz.prog 27 #[.pointer p, .pointer q] w fun e' w' => e' = .returned (.tuple #[.bool false, .int .i64 z]) ∧ Ext w w' := by
 have hk' := hide hk
 have hk2' := hide hk2
 have hz' := hide hz
 have hq : ((z : Int) != 0) = true := by simpa using h0
 clear hk hk2 hz h0
 have hP := hide (Sp.new w)
 refine callsIn_wide.1 (callsIn_of_wp_marks (n := 0) Tryz.func27 rfl trivial (wpIn_wide.2 ?_))
 simp only [Tryz.ntmps27,List.size_toArray,List.length_cons,List.length_nil,Nat.reduceAdd,Nat.reduceSub,Array.replicate_succ,Array.replicate_zero,List.push_toArray,List.append_toArray,List.nil_append,List.cons_append]
 try dsimp only
 repeat ((fail_if_success (with_reducible refine wp_reg (id := 0) ?_)); (first | go_values | go_skip | go_step | go_guarded | go_upon | go_in | go_back | fail))
 with_reducible refine wp_reg (id := 0) ?_
 iterate 2
  refine wpO_want rfl ?_
  go_simp
 refine wpO_done ?_
 try go_frame
 try dsimp only
 repeat ((fail_if_success (with_reducible refine wp_reg (id := 1) ?_)); (first | go_values | go_skip | go_step | go_guarded | go_upon | go_in | go_back | fail))
 with_reducible refine wp_reg (id := 1) ?_
 iterate 2
  refine wpO_want rfl ?_
  go_simp
 refine (unhide hP).buildO 2 24 #[.pointer p, .pointer q] rfl (by go_simp) ?_
 intro bp y1 hQ
 replace hP : Hid (Sp w [] w [] [(bp,24, #[.pointer p, .pointer q])] [] y1) := hide hQ
 clear hQ
 try go_frame
 refine wpO_want rfl ?_
 go_simp
 refine (asked2 bp p q e f z y1 ((unhide hP).get 0 rfl) ((unhide hk').ext (unhide hP).extf) ((unhide hk2').ext (unhide hP).extf) (unhide hz')).mono ?_
 rintro _ y2 ⟨rfl,hxc⟩
 refine ⟨_,rfl, ?_⟩
 replace hP : Hid (Sp w [] w [] [(bp,24, #[.pointer p, .pointer q])] [] y2) := hide ((unhide hP).ext hxc)
 clear hxc
 refine wpO_want rfl ?_
 go_simp
 refine wpO_done ?_
 try go_frame
 replace hP : Hid (Sp w [] w [] [] [] y2) := hide ((unhide hP).sub (List.sublist_append_left _ ([(bp,24, #[.pointer p, .pointer q])] : List Cl)) (List.Sublist.refl _))
 try dsimp only
 repeat ((fail_if_success (with_reducible refine wp_reg (id := 2) ?_)); (first | go_values | go_skip | go_step | go_guarded | go_upon | go_in | go_back | fail))
 with_reducible refine wp_reg (id := 2) ?_
 iterate 2
  refine wpO_want rfl ?_
  go_simp
 refine wpO_done ?_
 try go_frame
 clear hq
 try dsimp only
 repeat ((fail_if_success (with_reducible refine wp_reg (id := 3) ?_)); (first | go_values | go_skip | go_step | go_guarded | go_upon | go_in | go_back | fail))
 with_reducible refine wp_reg (id := 3) ?_
 iterate 3
  refine wpO_want rfl ?_
  go_simp
 refine wpO_done ?_
 try go_frame
 go_wp2_with fail
 refine Sp.leaves0 ?_
 exact ⟨_,results_tmp2 (t := 4) (u := 5) rfl _ _ _,rfl,(unhide hP).extf⟩
end Go.Proofs.YtbpeemhfjgcnaaaGreat
namespace Go.Proofs.YtbpeemhfjgcnaaaGreat
open Go Go.RowKit Go.Shelf
attribute [local go_sem] qUpon lUpon
attribute [local irreducible] wpO wpX wpQL
set_option maxRecDepth 100000 in
set_option maxHeartbeats 16000000 in
theorem mapping_bad (p q : Option Addr) (e f : Nat) (z : Int) (w : World) (hk : AskIs w p e) (hk2 : AskIs w q f) (hz : z = ((if e = 0 then f else e : Nat) : Int)) (h0 : z ≠ 0) :
  Calls Tryz.prog 29 #[.pointer p, .pointer q] w fun e' w' => e' = .returned (.tuple #[.slice none 0 0, .bool false, .int .i64 z]) ∧ Ext w w' := by
 have hk' := hide hk
 have hk2' := hide hk2
 have hz' := hide hz
 have hq : ((z : Int) != 0) = true := by simpa using h0
 clear hk hk2 hz h0
 have hP := hide (Sp.new w)
 refine callsIn_wide.1 (callsIn_of_wp_marks (n := 0) Tryz.func29 rfl trivial (wpIn_wide.2 ?_))
 simp only [Tryz.ntmps29,List.size_toArray,List.length_cons,List.length_nil,Nat.reduceAdd,Nat.reduceSub,Array.replicate_succ,Array.replicate_zero,List.push_toArray,List.append_toArray,List.nil_append,List.cons_append]
 try dsimp only
 repeat ((fail_if_success (with_reducible refine wp_reg (id := 0) ?_)); (first | go_values | go_skip | go_step | go_guarded | go_upon | go_in | go_back | fail))
 with_reducible refine wp_reg (id := 0) ?_
 refine (unhide hP).allocO 24 #[.pointer p] rfl (run_box (v := .pointer p) rfl rfl) ?_
 intro b2 y1 hQ
 replace hP : Hid (Sp w [] w [] [(b2,24, #[.pointer p])] [] y1) := hide hQ
 clear hQ
 iterate 3
  refine wpO_want rfl ?_
  go_simp
 refine wpO_done ?_
 try go_frame
 try dsimp only
 repeat ((fail_if_success (with_reducible refine wp_reg (id := 1) ?_)); (first | go_values | go_skip | go_step | go_guarded | go_upon | go_in | go_back | fail))
 with_reducible refine wp_reg (id := 1) ?_
 refine wpO_val rfl (load_V (v := .pointer p) rfl rfl (by simp [go_sem]) (((unhide hP).get 0 rfl).cell 0)) ?_
 go_frame
 refine wpO_want rfl ?_
 go_simp
 refine (unhide hP).buildO 2 24 #[.pointer p, .pointer q] rfl (by go_simp) ?_
 intro bp y2 hQ
 replace hP : Hid (Sp w [] w [] [(b2,24, #[.pointer p]),(bp,24, #[.pointer p, .pointer q])] [] y2) := hide hQ
 clear hQ
 try go_frame
 refine wpO_want rfl ?_
 go_simp
 refine (asked2 bp p q e f z y2 ((unhide hP).get 1 rfl) ((unhide hk').ext (unhide hP).extf) ((unhide hk2').ext (unhide hP).extf) (unhide hz')).mono ?_
 rintro _ y3 ⟨rfl,hxc⟩
 refine ⟨_,rfl, ?_⟩
 replace hP : Hid (Sp w [] w [] [(b2,24, #[.pointer p]),(bp,24, #[.pointer p, .pointer q])] [] y3) := hide ((unhide hP).ext hxc)
 clear hxc
 refine wpO_want rfl ?_
 go_simp
 refine wpO_done ?_
 try go_frame
 try dsimp only
 repeat ((fail_if_success (with_reducible refine wp_reg (id := 2) ?_)); (first | go_values | go_skip | go_step | go_guarded | go_upon | go_in | go_back | fail))
 with_reducible refine wp_reg (id := 2) ?_
 iterate 2
  refine wpO_want rfl ?_
  go_simp
 refine wpO_done ?_
 try go_frame
 clear hq
 try dsimp only
 repeat ((fail_if_success (with_reducible refine wp_reg (id := 3) ?_)); (first | go_values | go_skip | go_step | go_guarded | go_upon | go_in | go_back | fail))
 with_reducible refine wp_reg (id := 3) ?_
 iterate 4
  refine wpO_want rfl ?_
  go_simp
 refine wpO_done ?_
 try go_frame
 go_wp2_with fail
 refine Sp.leaves0 ?_
 exact ⟨_,results_tmp3 (t := 4) (u := 5) (v := 6) rfl _ _ _,rfl,(unhide hP).extf⟩
set_option maxRecDepth 100000 in
set_option maxHeartbeats 16000000 in
theorem orbits_bad (p : Option Addr) (e : Nat) (z : Int) (w : World) (hk : AskIs w p e) (hz : z = (e : Int)) (h0 : z ≠ 0) :
  Calls Tryz.prog 31 #[.pointer p] w fun e' w' => e' = .returned (.tuple #[.slice none 0 0, .int .i64 z]) ∧ Ext w w' := by
 have hk' := hide hk
 have hz' := hide hz
 have h0' := hide h0
 have hq : ((z : Int) != 0) = true := by simpa using h0
 clear hk hz h0
 have hP := hide (Sp.new w)
 refine callsIn_wide.1 (callsIn_of_wp_marks (n := 0) Tryz.func31 rfl trivial (wpIn_wide.2 ?_))
 simp only [Tryz.ntmps31,List.size_toArray,List.length_cons,List.length_nil,Nat.reduceAdd,Nat.reduceSub,Array.replicate_succ,Array.replicate_zero,List.push_toArray,List.append_toArray,List.nil_append,List.cons_append]
 try dsimp only
 repeat ((fail_if_success (with_reducible refine wp_reg (id := 0) ?_)); (first | go_values | go_skip | go_step | go_guarded | go_upon | go_in | go_back | fail))
 with_reducible refine wp_reg (id := 0) ?_
 iterate 2
  refine wpO_want rfl ?_
  go_simp
 refine wpO_done ?_
 try go_frame
 try dsimp only
 repeat ((fail_if_success (with_reducible refine wp_reg (id := 1) ?_)); (first | go_values | go_skip | go_step | go_guarded | go_upon | go_in | go_back | fail))
 with_reducible refine wp_reg (id := 1) ?_
 refine wpO_want rfl ?_
 go_simp
 refine wpO_want rfl ?_
 go_simp
 refine (autos_bad p e z w (unhide hk') (unhide hz') (unhide h0')).mono ?_
 rintro _ y1 ⟨rfl,hxc⟩
 refine ⟨_,rfl, ?_⟩
 replace hP : Hid (Sp w [] w [] [] [] y1) := hide ((unhide hP).ext hxc)
 clear hxc
 generalize htu0 : Value.tuple _ = tu
 have htu := hide htu0
 clear htu0
 refine wpO_val rfl (run_move rfl rfl) ?_
 go_frame
 refine wpO_val rfl (run_extract (i := 0) (v := .slice none 0 0) rfl (unhide htu).symm rfl) ?_
 go_frame
 refine wpO_val rfl (run_extract (i := 1) (v := .int .i64 z) rfl (unhide htu).symm rfl) ?_
 go_frame
 iterate 2
  refine wpO_want rfl ?_
  go_simp
 refine wpO_done ?_
 try go_frame
 clear htu
 try dsimp only
 repeat ((fail_if_success (with_reducible refine wp_reg (id := 2) ?_)); (first | go_values | go_skip | go_step | go_guarded | go_upon | go_in | go_back | fail))
 with_reducible refine wp_reg (id := 2) ?_
 iterate 2
  refine wpO_want rfl ?_
  go_simp
 refine wpO_done ?_
 try go_frame
 clear hq
 try dsimp only
 repeat ((fail_if_success (with_reducible refine wp_reg (id := 3) ?_)); (first | go_values | go_skip | go_step | go_guarded | go_upon | go_in | go_back | fail))
 with_reducible refine wp_reg (id := 3) ?_
 iterate 3
  refine wpO_want rfl ?_
  go_simp
 refine wpO_done ?_
 try go_frame
 go_wp2_with fail
 refine Sp.leaves0 ?_
 exact ⟨_,results_tmp2 (t := 2) (u := 3) rfl _ _ _,rfl,(unhide hP).extf⟩
end Go.Proofs.YtbpeemhfjgcnaaaGreat
namespace Go.Proofs.YtbpeemhfjgcnaaaGreat
open Go Go.RowKit Go.Shelf
attribute [local go_sem] qUpon lUpon
attribute [local irreducible] wpO wpX wpQL
def vsN (i : Nat) : List (Int × Thing) := (List.range i).map fun k : Nat => ((k : Int),((0 : Int),(0 : Int)))
theorem vsN_len (i : Nat) : (vsN i).length = i := by simp [vsN]
theorem vsN_next (i : Nat) : vsN (i + 1) = vsN i ++ [((i : Int),((0 : Int),(0 : Int)))] := by simp [vsN,List.range_succ]
theorem erV_zero {s : GS} {x : Int × Thing} (h : fe erV stV [x] s = 0) : erV s x = 0 := by
 unfold fe at h
 split at h
 ·assumption
 ·exact h
theorem vsN_step (i : Nat) (h : i < 1000) : wrongR 0 (i : Int) 0 0 (vsN i) [] = 0 ∧ nxV 0 (i : Int) 0 0 0 (vsN i) [] = vsN (i + 1) ∧ nxE 0 (i : Int) 0 0 0 (vsN i) [] = [] := by
 have h1 := redoV [((i : Int),((0 : Int),(0 : Int)))] (vsN i) (by
  rw [← vsN_next]
  exact List.pairwise_map.2 (List.pairwise_lt_range.imp fun {a b} h => by unfold ltV; dsimp only; omega)) (by
  rw [← vsN_next]
  intro p hp
  obtain ⟨k,hk,rfl⟩ := List.mem_map.1 hp
  have := List.mem_range.1 hk
  unfold idB
  simp
  omega) (by
  rw [← vsN_next]
  intro p hp
  obtain ⟨k,hk,rfl⟩ := List.mem_map.1 hp
  rfl)
 obtain ⟨h2,h3⟩ := h1
 have h4 : stV (vsN i,[]) ((i : Int),((0 : Int),(0 : Int))) = (vsN i ++ [((i : Int),((0 : Int),(0 : Int)))],[]) := h2
 have h5 := Prod.mk.inj h4
 refine ⟨?_,by rw [vsN_next]; exact h5.1,h5.2⟩
 have h6 := erV_zero h3
 exact h6
theorem lab_none : LabB [] [] := ⟨by simp,by simp⟩
set_option maxRecDepth 100000 in
set_option maxHeartbeats 16000000 in
theorem isomorphismErrors_walk (many : Int) (first : Bool) (w : World) (hmy : 0 ≤ many ∧ many ≤ 255) :
  Calls Tryz.prog 10 #[.int .u8 many, .bool first] w fun e w' => e = .returned (.bool true) ∧ Ext w w' := by
 have hmy' := hide hmy
 clear hmy
 have hP := hide (Sp.new w)
 refine callsIn_wide.1 (callsIn_of_wp_marks (n := 0) Tryz.func10 rfl trivial (wpIn_wide.2 ?_))
 simp only [Tryz.ntmps10,List.size_toArray,List.length_cons,List.length_nil,Nat.reduceAdd,Nat.reduceSub,Array.replicate_succ,Array.replicate_zero,List.push_toArray,List.append_toArray,List.nil_append,List.cons_append]
 try dsimp only
 repeat ((fail_if_success (with_reducible refine wp_reg (id := 1) ?_)); (first | go_values | go_skip | go_step | go_guarded | go_upon | go_in | go_back | fail))
 with_reducible refine wp_reg (id := 1) ?_
 refine wpO_want rfl ?_
 go_simp
 have hca := known08_any w
 refine hca.mono ?_
 clear hca
 rintro _ y1 ⟨rfl,hxc⟩
 refine ⟨_,rfl, ?_⟩
 replace hP : Hid (Sp w [] w [] [] [] y1) := hide ((unhide hP).ext hxc)
 clear hxc
 refine wpO_want rfl ?_
 go_simp
 refine wpO_done ?_
 try go_frame
 try dsimp only
 repeat ((fail_if_success (with_reducible refine wp_reg (id := 3) ?_)); (first | go_values | go_skip | go_step | go_guarded | go_upon | go_in | go_back | fail))
 with_reducible refine wp_reg (id := 3) ?_
 refine wpO_want rfl ?_
 go_simp
 have hca := new_rel y1
 refine hca.mono ?_
 clear hca
 rintro _ y2 ⟨g1,v1,e1,rfl,hg0,hxc,n1,n2,n3⟩
 have hg1 := hide hg0
 have hz1 := hide (show y1.heap.size ≤ g1 ∧ y1.heap.size ≤ v1 ∧ y1.heap.size ≤ e1 from ⟨n1,n2,n3⟩)
 have hw1 := hide (Below.size (unhide hP).extf)
 refine ⟨_,rfl, ?_⟩
 replace hP : Hid (Sp w [] w [] [] [] y2) := hide ((unhide hP).ext hxc)
 clear hxc hg0 n1 n2 n3
 refine wpO_want rfl ?_
 go_simp
 refine wpO_done ?_
 try go_frame
 try dsimp only
 repeat ((fail_if_success (with_reducible refine wp_reg (id := 4) ?_)); (first | go_values | go_skip | go_step | go_guarded | go_upon | go_in | go_back | fail))
 with_reducible refine wp_reg (id := 4) ?_
 refine wpO_want rfl ?_
 go_simp
 have hlt1 := hide (unhide hg1).lt
 have hca := new_rel y2
 refine hca.mono ?_
 clear hca
 rintro _ y3 ⟨g2,v2,e2,rfl,hg0,hxc,n1,n2,n3⟩
 have hg2 := hide hg0
 have hz2 := hide (show y2.heap.size ≤ g2 ∧ y2.heap.size ≤ v2 ∧ y2.heap.size ≤ e2 from ⟨n1,n2,n3⟩)
 have hw2 := hide (Below.size (unhide hP).extf)
 refine ⟨_,rfl, ?_⟩
 replace hP : Hid (Sp w [] w [] [] [] y3) := hide ((unhide hP).ext hxc)
 replace hg1 := hide ((unhide hg1).ext (hxc))
 clear hxc hg0 n1 n2 n3
 refine wpO_want rfl ?_
 go_simp
 refine wpO_done ?_
 try go_frame
 try dsimp only
 repeat ((fail_if_success (with_reducible refine wp_reg (id := 5) ?_)); (first | go_values | go_skip | go_step | go_guarded | go_upon | go_in | go_back | fail))
 with_reducible refine wp_reg (id := 5) ?_
 iterate 6
  refine wpO_want rfl ?_
  go_simp
 refine wpO_done ?_
 try go_frame
 have h12 := hide (show (w.heap.size ≤ v1 ∧ w.heap.size ≤ e1) ∧ (g2 ≠ v1 ∧ g2 ≠ e1 ∧ v2 ≠ v1 ∧ v2 ≠ e1 ∧ e2 ≠ v1 ∧ e2 ≠ e1) from by
  have a1 := unhide hz1
  have a2 := unhide hz2
  have b1 := unhide hw1
  have b2 := unhide hlt1
  omega)
 obtain ⟨mn,hmn⟩ : ∃ n : Nat,(n : Int) = many := ⟨many.toNat,by have := (unhide hmy').1; omega⟩
 obtain ⟨rr,hrr⟩ : ∃ r : Nat,r = mn % 20 := ⟨_,rfl⟩
 have hrem : many.tmod 20 = (rr : Int) := by rw [← hmn,Int.tmod_eq_emod_of_nonneg (by omega),hrr]; rfl
 obtain ⟨n,hn0⟩ : ∃ n : Nat,n = 9 + rr := ⟨_,rfl⟩
 have hnb := hide (show 9 ≤ n ∧ n ≤ 28 by omega)
 have hw8 : IntKind.u8.wrap (rr : Int) = (rr : Int) := by rw [IntKind.wrap_u8]; omega
 have hw9 : IntKind.i64.wrap (rr : Int) = (rr : Int) := by rw [IntKind.wrap_i64]; omega
 have hw10 : IntKind.i64.wrap ((9 : Int) + (rr : Int)) = (n : Int) := by rw [IntKind.wrap_i64]; omega
 have hxw := hide (unhide hP).extf
 clear hmn hrr hn0 hz1 hz2 hw1 hw2 hlt1
 try dsimp only
 repeat ((fail_if_success (with_reducible refine wp_reg (id := 7) ?_)); (first | go_values | go_skip | go_step | go_guarded | go_upon | go_in | go_back | fail))
 with_reducible refine wp_reg (id := 7) ?_
 iterate 5
  refine wpO_want rfl ?_
  go_simp
 refine wpO_done ?_
 try go_frame
 clear hrem hw8 hw9 hw10
 go_wp2_with fail
 obtain ⟨I3_2,hI3_20⟩ : ∃ I : Nat → Act → World → Prop,I = fun fi a' wr => ∃ (i : Nat),a'.tmps.size = 177 ∧ a'.tmps.getD 1 undef = .bool first ∧ a'.tmps.getD 5 undef = .pointer (some ⟨g1,0,none⟩) ∧ a'.tmps.getD 6 undef = .pointer (some ⟨g2,0,none⟩) ∧ a'.tmps.getD 7 undef = .int .i64 (n : Nat) ∧ a'.tmps.getD 8 undef = .int .i64 (i : Nat) ∧ a'.defers = [] ∧ i ≤ n ∧ IsG wr g1 v1 e1 (vsN i) [] ∧ IsG wr g2 v2 e2 [] [] ∧ Ext w wr ∧ fi = n - i := ⟨_,rfl⟩
 have hI3_2 := hide hI3_20
 clear hI3_20
 refine wp_loop_ix I3_2 (n - 0) ?_ ?_
 ·rw [unhide hI3_2]; exact ⟨0,rfl,rfl,rfl,rfl,rfl,rfl,rfl,Nat.zero_le _,unhide hg1,unhide hg2,unhide hxw,rfl⟩
 ·rintro fi ⟨tm,dfs⟩ wr hrel
  rw [unhide hI3_2] at hrel
  obtain ⟨i,hsz,e1,e5,e6,e7,e8,hdf,hin,hga,hgb,hxr,hfm⟩ := hrel
  obtain ⟨us,rfl⟩ : ∃ us : Nat → Value,tm = #[us 0,us 1,us 2,us 3,us 4,us 5,us 6,us 7,us 8,us 9,us 10,us 11,us 12,us 13,us 14,us 15,us 16,us 17,us 18,us 19,us 20,us 21,us 22,us 23,us 24,us 25,us 26,us 27,us 28,us 29,us 30,us 31,us 32,us 33,us 34,us 35,us 36,us 37,us 38,us 39,us 40,us 41,us 42,us 43,us 44,us 45,us 46,us 47,us 48,us 49,us 50,us 51,us 52,us 53,us 54,us 55,us 56,us 57,us 58,us 59,us 60,us 61,us 62,us 63,us 64,us 65,us 66,us 67,us 68,us 69,us 70,us 71,us 72,us 73,us 74,us 75,us 76,us 77,us 78,us 79,us 80,us 81,us 82,us 83,us 84,us 85,us 86,us 87,us 88,us 89,us 90,us 91,us 92,us 93,us 94,us 95,us 96,us 97,us 98,us 99,us 100,us 101,us 102,us 103,us 104,us 105,us 106,us 107,us 108,us 109,us 110,us 111,us 112,us 113,us 114,us 115,us 116,us 117,us 118,us 119,us 120,us 121,us 122,us 123,us 124,us 125,us 126,us 127,us 128,us 129,us 130,us 131,us 132,us 133,us 134,us 135,us 136,us 137,us 138,us 139,us 140,us 141,us 142,us 143,us 144,us 145,us 146,us 147,us 148,us 149,us 150,us 151,us 152,us 153,us 154,us 155,us 156,us 157,us 158,us 159,us 160,us 161,us 162,us 163,us 164,us 165,us 166,us 167,us 168,us 169,us 170,us 171,us 172,us 173,us 174,us 175,us 176] := ⟨fun i => tm.getD i undef,arr_fn hsz⟩
  have h1 : us 1 = .bool first := e1
  have h5 : us 5 = .pointer (some ⟨g1,0,none⟩) := e5
  have h6 : us 6 = .pointer (some ⟨g2,0,none⟩) := e6
  have h7 : us 7 = .int .i64 (n : Nat) := e7
  have h8 : us 8 = .int .i64 (i : Nat) := e8
  have hdf2 : dfs = [] := hdf
  subst hdf2
  clear hdf hsz e1 e5 e6 e7 e8
  simp only [h1,h5,h6,h7,h8]
  clear h1 h5 h6 h7 h8
  clear hP hg1 hg2 hxw
  have hP := hide (Sp.new wr)
  have hg1 := hide hga
  have hg2 := hide hgb
  have hxw := hide hxr
  have hfm' := hide hfm
  clear hga hgb hxr hfm
  by_cases hlt : i < n
  ·skip
   have hil : (i : Int) < (n : Int) := by omega
   have hlt' := hide hlt
   have hib : (i : Int) ≤ 28 := by have := unhide hnb; omega
   have hstp := hide (vsN_step i (by have := unhide hnb; omega))
   clear hlt
   try dsimp only
   repeat ((fail_if_success (with_reducible refine wp_reg (id := 9) ?_)); (first | go_values | go_skip | go_step | go_guarded | go_upon | go_in | go_back | fail))
   with_reducible refine wp_reg (id := 9) ?_
   iterate 3
    refine wpO_want rfl ?_
    go_simp
   refine wpO_done ?_
   try go_frame
   try dsimp only
   repeat ((fail_if_success (with_reducible refine wp_reg (id := 11) ?_)); (first | go_values | go_skip | go_step | go_guarded | go_upon | go_in | go_back | fail))
   with_reducible refine wp_reg (id := 11) ?_
   iterate 3
    refine wpO_want rfl ?_
    go_simp
   refine wpO_want rfl ?_
   go_simp
   have hca := apply_any g1 v1 e1 (vsN i) [] 0 (i : Int) 0 0 0 wr (unhide hg1) (okK (by omega)) (by unfold i64ok; decide)
   rw [(unhide hstp).1,(unhide hstp).2.1,(unhide hstp).2.2] at hca
   refine hca.mono ?_
   clear hca
   rintro _ W9 ⟨rfl,hg0,hk9⟩
   have hg1n := hide hg0
   have hg2n := hide ((unhide hg2).keep hk9 (by have := unhide h12; simp; omega) (by have := unhide h12; simp; omega) (by have := unhide h12; simp; omega))
   have hxn := hide ((unhide hxw).of_new hk9 (fun x hm => by have := unhide h12; simp at hm; omega))
   refine ⟨_,rfl, ?_⟩
   clear hg0 hk9
   refine wpO_want rfl ?_
   go_simp
   refine wpO_done ?_
   try go_frame
   go_wp2_with fail
   refine ⟨n - (i + 1), ?_,by have := unhide hfm'; have := unhide hlt'; omega⟩
   rw [unhide hI3_2]
   exact ⟨i + 1,(by first | rfl | trivial),(by first | rfl | trivial),(by first | rfl | trivial),(by first | rfl | trivial),(by first | rfl | trivial),(by first | rfl | (show _ = Value.int _ _; go_num) | go_num),(by first | rfl | trivial),by have := unhide hlt'; omega,unhide hg1n,unhide hg2n,unhide hxn,rfl⟩
  ·skip
   have hil : ¬ (i : Int) < (n : Int) := by omega
   have h8 := hide (show 8 < (vsN i).length by rw [vsN_len]; have := unhide hnb; omega)
   clear hlt hin
   try dsimp only
   repeat ((fail_if_success (with_reducible refine wp_reg (id := 9) ?_)); (first | go_values | go_skip | go_step | go_guarded | go_upon | go_in | go_back | fail))
   with_reducible refine wp_reg (id := 9) ?_
   iterate 3
    refine wpO_want rfl ?_
    go_simp
   refine wpO_done ?_
   try go_frame
   clear hil
   try dsimp only
   repeat ((fail_if_success (with_reducible refine wp_reg (id := 13) ?_)); (first | go_values | go_skip | go_step | go_guarded | go_upon | go_in | go_back | fail))
   with_reducible refine wp_reg (id := 13) ?_
   iterate 4
    refine wpO_want rfl ?_
    go_simp
   refine wpO_done ?_
   try go_frame
   try dsimp only
   repeat ((fail_if_success (with_reducible refine wp_reg (id := 14) ?_)); (first | go_values | go_skip | go_step | go_guarded | go_upon | go_in | go_back | fail))
   with_reducible refine wp_reg (id := 14) ?_
   refine wpO_want rfl ?_
   go_simp
   refine wpO_done ?_
   try go_frame
   cases first
   ·skip
    try dsimp only
    repeat ((fail_if_success (with_reducible refine wp_reg (id := 16) ?_)); (first | go_values | go_skip | go_step | go_guarded | go_upon | go_in | go_back | fail))
    with_reducible refine wp_reg (id := 16) ?_
    iterate 2
     refine wpO_want rfl ?_
     go_simp
    refine wpO_want rfl ?_
    go_simp
    have hca := iso_bad (some ⟨g2,0,none⟩) (some ⟨g1,0,none⟩) 0 2 2 wr (AskIs.good (unhide hg2) (by decide)) (AskIs.big (unhide hg1) (unhide h8)) rfl (by decide)
    refine hca.mono ?_
    clear hca
    rintro _ y4 ⟨rfl,hxc⟩
    refine ⟨_,rfl, ?_⟩
    replace hP : Hid (Sp wr [] wr [] [] [] y4) := hide ((unhide hP).ext hxc)
    replace hg1 := hide ((unhide hg1).ext (hxc))
    replace hg2 := hide ((unhide hg2).ext (hxc))
    clear hxc
    generalize htu0 : Value.tuple _ = tu
    have htu := hide htu0
    clear htu0
    refine wpO_val rfl (run_move rfl rfl) ?_
    go_frame
    refine wpO_val rfl (run_extract (i := 0) (v := .bool false) rfl (unhide htu).symm rfl) ?_
    go_frame
    refine wpO_val rfl (run_extract (i := 1) (v := .int .i64 2) rfl (unhide htu).symm rfl) ?_
    go_frame
    iterate 2
     refine wpO_want rfl ?_
     go_simp
    refine wpO_done ?_
    try go_frame
    clear htu
    try dsimp only
    repeat ((fail_if_success (with_reducible refine wp_reg (id := 17) ?_)); (first | go_values | go_skip | go_step | go_guarded | go_upon | go_in | go_back | fail))
    with_reducible refine wp_reg (id := 17) ?_
    iterate 2
     refine wpO_want rfl ?_
     go_simp
    refine wpO_want rfl ?_
    go_simp
    have hca := mapping_bad (some ⟨g2,0,none⟩) (some ⟨g1,0,none⟩) 0 2 2 y4 (AskIs.good (unhide hg2) (by decide)) (AskIs.big (unhide hg1) (unhide h8)) rfl (by decide)
    refine hca.mono ?_
    clear hca
    rintro _ y5 ⟨rfl,hxc⟩
    refine ⟨_,rfl, ?_⟩
    replace hP : Hid (Sp wr [] wr [] [] [] y5) := hide ((unhide hP).ext hxc)
    replace hg1 := hide ((unhide hg1).ext (hxc))
    replace hg2 := hide ((unhide hg2).ext (hxc))
    clear hxc
    generalize htu0 : Value.tuple _ = tu
    have htu := hide htu0
    clear htu0
    refine wpO_val rfl (run_move rfl rfl) ?_
    go_frame
    refine wpO_val rfl (run_extract (i := 0) (v := .slice none 0 0) rfl (unhide htu).symm rfl) ?_
    go_frame
    refine wpO_val rfl (run_extract (i := 1) (v := .bool false) rfl (unhide htu).symm rfl) ?_
    go_frame
    refine wpO_val rfl (run_extract (i := 2) (v := .int .i64 2) rfl (unhide htu).symm rfl) ?_
    go_frame
    iterate 3
     refine wpO_want rfl ?_
     go_simp
    refine wpO_done ?_
    try go_frame
    clear htu
    try dsimp only
    repeat ((fail_if_success (with_reducible refine wp_reg (id := 18) ?_)); (first | go_values | go_skip | go_step | go_guarded | go_upon | go_in | go_back | fail))
    with_reducible refine wp_reg (id := 18) ?_
    refine wpO_want rfl ?_
    go_simp
    refine wpO_want rfl ?_
    go_simp
    have hca := canon_bad (some ⟨g1,0,none⟩) 2 2 y5 (AskIs.big (unhide hg1) (unhide h8)) rfl (by decide)
    refine hca.mono ?_
    clear hca
    rintro _ y6 ⟨rfl,hxc⟩
    refine ⟨_,rfl, ?_⟩
    replace hP : Hid (Sp wr [] wr [] [] [] y6) := hide ((unhide hP).ext hxc)
    replace hg1 := hide ((unhide hg1).ext (hxc))
    replace hg2 := hide ((unhide hg2).ext (hxc))
    clear hxc
    generalize htu0 : Value.tuple _ = tu
    have htu := hide htu0
    clear htu0
    refine wpO_val rfl (run_move rfl rfl) ?_
    go_frame
    refine wpO_val rfl (run_extract (i := 0) (v := .pointer none) rfl (unhide htu).symm rfl) ?_
    go_frame
    refine wpO_val rfl (run_extract (i := 1) (v := .slice none 0 0) rfl (unhide htu).symm rfl) ?_
    go_frame
    refine wpO_val rfl (run_extract (i := 2) (v := .int .i64 2) rfl (unhide htu).symm rfl) ?_
    go_frame
    iterate 3
     refine wpO_want rfl ?_
     go_simp
    refine wpO_done ?_
    try go_frame
    clear htu
    try dsimp only
    repeat ((fail_if_success (with_reducible refine wp_reg (id := 19) ?_)); (first | go_values | go_skip | go_step | go_guarded | go_upon | go_in | go_back | fail))
    with_reducible refine wp_reg (id := 19) ?_
    refine wpO_want rfl ?_
    go_simp
    refine wpO_want rfl ?_
    go_simp
    have hca := autos_bad (some ⟨g1,0,none⟩) 2 2 y6 (AskIs.big (unhide hg1) (unhide h8)) rfl (by decide)
    refine hca.mono ?_
    clear hca
    rintro _ y7 ⟨rfl,hxc⟩
    refine ⟨_,rfl, ?_⟩
    replace hP : Hid (Sp wr [] wr [] [] [] y7) := hide ((unhide hP).ext hxc)
    replace hg1 := hide ((unhide hg1).ext (hxc))
    replace hg2 := hide ((unhide hg2).ext (hxc))
    clear hxc
    generalize htu0 : Value.tuple _ = tu
    have htu := hide htu0
    clear htu0
    refine wpO_val rfl (run_move rfl rfl) ?_
    go_frame
    refine wpO_val rfl (run_extract (i := 0) (v := .slice none 0 0) rfl (unhide htu).symm rfl) ?_
    go_frame
    refine wpO_val rfl (run_extract (i := 1) (v := .int .i64 2) rfl (unhide htu).symm rfl) ?_
    go_frame
    iterate 2
     refine wpO_want rfl ?_
     go_simp
    refine wpO_done ?_
    try go_frame
    clear htu
    try dsimp only
    repeat ((fail_if_success (with_reducible refine wp_reg (id := 20) ?_)); (first | go_values | go_skip | go_step | go_guarded | go_upon | go_in | go_back | fail))
    with_reducible refine wp_reg (id := 20) ?_
    refine wpO_want rfl ?_
    go_simp
    refine wpO_want rfl ?_
    go_simp
    have hca := orbits_bad (some ⟨g1,0,none⟩) 2 2 y7 (AskIs.big (unhide hg1) (unhide h8)) rfl (by decide)
    refine hca.mono ?_
    clear hca
    rintro _ y8 ⟨rfl,hxc⟩
    refine ⟨_,rfl, ?_⟩
    replace hP : Hid (Sp wr [] wr [] [] [] y8) := hide ((unhide hP).ext hxc)
    replace hg1 := hide ((unhide hg1).ext (hxc))
    replace hg2 := hide ((unhide hg2).ext (hxc))
    clear hxc
    generalize htu0 : Value.tuple _ = tu
    have htu := hide htu0
    clear htu0
    refine wpO_val rfl (run_move rfl rfl) ?_
    go_frame
    refine wpO_val rfl (run_extract (i := 0) (v := .slice none 0 0) rfl (unhide htu).symm rfl) ?_
    go_frame
    refine wpO_val rfl (run_extract (i := 1) (v := .int .i64 2) rfl (unhide htu).symm rfl) ?_
    go_frame
    iterate 2
     refine wpO_want rfl ?_
     go_simp
    refine wpO_done ?_
    try go_frame
    clear htu
    try dsimp only
    repeat ((fail_if_success (with_reducible refine wp_reg (id := 21) ?_)); (first | go_values | go_skip | go_step | go_guarded | go_upon | go_in | go_back | fail))
    with_reducible refine wp_reg (id := 21) ?_
    refine wpO_want rfl ?_
    go_simp
    refine wpO_want rfl ?_
    go_simp
    have hca := iso_bad none (some ⟨g1,0,none⟩) 1 2 1 y8 (AskIs.none _) (AskIs.big (unhide hg1) (unhide h8)) rfl (by decide)
    refine hca.mono ?_
    clear hca
    rintro _ y9 ⟨rfl,hxc⟩
    refine ⟨_,rfl, ?_⟩
    replace hP : Hid (Sp wr [] wr [] [] [] y9) := hide ((unhide hP).ext hxc)
    replace hg1 := hide ((unhide hg1).ext (hxc))
    replace hg2 := hide ((unhide hg2).ext (hxc))
    clear hxc
    generalize htu0 : Value.tuple _ = tu
    have htu := hide htu0
    clear htu0
    refine wpO_val rfl (run_move rfl rfl) ?_
    go_frame
    refine wpO_val rfl (run_extract (i := 0) (v := .bool false) rfl (unhide htu).symm rfl) ?_
    go_frame
    refine wpO_val rfl (run_extract (i := 1) (v := .int .i64 1) rfl (unhide htu).symm rfl) ?_
    go_frame
    iterate 2
     refine wpO_want rfl ?_
     go_simp
    refine wpO_done ?_
    try go_frame
    clear htu
    try dsimp only
    repeat ((fail_if_success (with_reducible refine wp_reg (id := 22) ?_)); (first | go_values | go_skip | go_step | go_guarded | go_upon | go_in | go_back | fail))
    with_reducible refine wp_reg (id := 22) ?_
    refine wpO_want rfl ?_
    go_simp
    refine wpO_want rfl ?_
    go_simp
    have hca := iso_bad (some ⟨g1,0,none⟩) none 2 1 2 y9 (AskIs.big (unhide hg1) (unhide h8)) (AskIs.none _) rfl (by decide)
    refine hca.mono ?_
    clear hca
    rintro _ y10 ⟨rfl,hxc⟩
    refine ⟨_,rfl, ?_⟩
    replace hP : Hid (Sp wr [] wr [] [] [] y10) := hide ((unhide hP).ext hxc)
    replace hg1 := hide ((unhide hg1).ext (hxc))
    replace hg2 := hide ((unhide hg2).ext (hxc))
    clear hxc
    generalize htu0 : Value.tuple _ = tu
    have htu := hide htu0
    clear htu0
    refine wpO_val rfl (run_move rfl rfl) ?_
    go_frame
    refine wpO_val rfl (run_extract (i := 0) (v := .bool false) rfl (unhide htu).symm rfl) ?_
    go_frame
    refine wpO_val rfl (run_extract (i := 1) (v := .int .i64 2) rfl (unhide htu).symm rfl) ?_
    go_frame
    iterate 2
     refine wpO_want rfl ?_
     go_simp
    refine wpO_done ?_
    try go_frame
    clear htu
    try dsimp only
    repeat ((fail_if_success (with_reducible refine wp_reg (id := 23) ?_)); (first | go_values | go_skip | go_step | go_guarded | go_upon | go_in | go_back | fail))
    with_reducible refine wp_reg (id := 23) ?_
    refine wpO_want rfl ?_
    go_simp
    have hca := canon_bad none 1 1 y10 (AskIs.none _) rfl (by decide)
    refine hca.mono ?_
    clear hca
    rintro _ y11 ⟨rfl,hxc⟩
    refine ⟨_,rfl, ?_⟩
    replace hP : Hid (Sp wr [] wr [] [] [] y11) := hide ((unhide hP).ext hxc)
    replace hg1 := hide ((unhide hg1).ext (hxc))
    replace hg2 := hide ((unhide hg2).ext (hxc))
    clear hxc
    generalize htu0 : Value.tuple _ = tu
    have htu := hide htu0
    clear htu0
    refine wpO_val rfl (run_move rfl rfl) ?_
    go_frame
    refine wpO_val rfl (run_extract (i := 0) (v := .pointer none) rfl (unhide htu).symm rfl) ?_
    go_frame
    refine wpO_val rfl (run_extract (i := 1) (v := .slice none 0 0) rfl (unhide htu).symm rfl) ?_
    go_frame
    refine wpO_val rfl (run_extract (i := 2) (v := .int .i64 1) rfl (unhide htu).symm rfl) ?_
    go_frame
    iterate 3
     refine wpO_want rfl ?_
     go_simp
    refine wpO_done ?_
    try go_frame
    clear htu
    try dsimp only
    repeat ((fail_if_success (with_reducible refine wp_reg (id := 24) ?_)); (first | go_values | go_skip | go_step | go_guarded | go_upon | go_in | go_back | fail))
    with_reducible refine wp_reg (id := 24) ?_
    refine wpO_want rfl ?_
    go_simp
    have hca := relabel_nil none 0 0 y11
    refine hca.mono ?_
    clear hca
    rintro _ y12 ⟨rfl,hxc⟩
    refine ⟨_,rfl, ?_⟩
    replace hP : Hid (Sp wr [] wr [] [] [] y12) := hide ((unhide hP).ext hxc)
    replace hg1 := hide ((unhide hg1).ext (hxc))
    replace hg2 := hide ((unhide hg2).ext (hxc))
    clear hxc
    generalize htu0 : Value.tuple _ = tu
    have htu := hide htu0
    clear htu0
    refine wpO_val rfl (run_move rfl rfl) ?_
    go_frame
    refine wpO_val rfl (run_extract (i := 0) (v := .pointer none) rfl (unhide htu).symm rfl) ?_
    go_frame
    refine wpO_val rfl (run_extract (i := 1) (v := .int .i64 1) rfl (unhide htu).symm rfl) ?_
    go_frame
    iterate 2
     refine wpO_want rfl ?_
     go_simp
    refine wpO_done ?_
    try go_frame
    clear htu
    try dsimp only
    repeat ((fail_if_success (with_reducible refine wp_reg (id := 25) ?_)); (first | go_values | go_skip | go_step | go_guarded | go_upon | go_in | go_back | fail))
    with_reducible refine wp_reg (id := 25) ?_
    refine wpO_want rfl ?_
    go_simp
    refine wpO_want rfl ?_
    go_simp
    have hca := canon_any g2 v2 e2 [] [] y12 (unhide hg2) (by decide) lab_none
    refine hca.mono ?_
    clear hca
    rintro _ y13 ⟨f9,fv,fe,V2,E2,Al,nl,cl,rfl,k1,k2,k3,k4,hxc,k5,k6,k7⟩
    refine ⟨_,rfl, ?_⟩
    replace hP : Hid (Sp wr [] wr [] [] [] y13) := hide ((unhide hP).ext hxc)
    replace hg1 := hide ((unhide hg1).ext (hxc))
    replace hg2 := hide ((unhide hg2).ext (hxc))
    clear hxc k1 k2 k3 k4 k5 k6 k7
    generalize htu0 : Value.tuple _ = tu
    have htu := hide htu0
    clear htu0
    refine wpO_val rfl (run_move rfl rfl) ?_
    go_frame
    refine wpO_val rfl (run_extract (i := 0) (v := .pointer (some ⟨f9,0,none⟩)) rfl (unhide htu).symm rfl) ?_
    go_frame
    refine wpO_val rfl (run_extract (i := 1) (v := .slice Al nl cl) rfl (unhide htu).symm rfl) ?_
    go_frame
    refine wpO_val rfl (run_extract (i := 2) (v := .int .i64 0) rfl (unhide htu).symm rfl) ?_
    go_frame
    iterate 3
     refine wpO_want rfl ?_
     go_simp
    refine wpO_done ?_
    try go_frame
    clear htu
    try dsimp only
    repeat ((fail_if_success (with_reducible refine wp_reg (id := 26) ?_)); (first | go_values | go_skip | go_step | go_guarded | go_upon | go_in | go_back | fail))
    with_reducible refine wp_reg (id := 26) ?_
    iterate 60
     refine wpO_want rfl ?_
     go_simp
    refine wpO_done ?_
    try go_frame
    go_wp2_with fail
    refine Sp.leaves0 ?_
    exact ⟨_,results_tmp (t := 4) rfl _ _ _,rfl,(unhide hxw).trans (unhide hP).extf⟩
   ·skip
    try dsimp only
    repeat ((fail_if_success (with_reducible refine wp_reg (id := 15) ?_)); (first | go_values | go_skip | go_step | go_guarded | go_upon | go_in | go_back | fail))
    with_reducible refine wp_reg (id := 15) ?_
    iterate 4
     refine wpO_want rfl ?_
     go_simp
    refine wpO_done ?_
    try go_frame
    try dsimp only
    repeat ((fail_if_success (with_reducible refine wp_reg (id := 16) ?_)); (first | go_values | go_skip | go_step | go_guarded | go_upon | go_in | go_back | fail))
    with_reducible refine wp_reg (id := 16) ?_
    iterate 2
     refine wpO_want rfl ?_
     go_simp
    refine wpO_want rfl ?_
    go_simp
    have hca := iso_bad (some ⟨g1,0,none⟩) (some ⟨g2,0,none⟩) 2 0 2 wr (AskIs.big (unhide hg1) (unhide h8)) (AskIs.good (unhide hg2) (by decide)) rfl (by decide)
    refine hca.mono ?_
    clear hca
    rintro _ y4 ⟨rfl,hxc⟩
    refine ⟨_,rfl, ?_⟩
    replace hP : Hid (Sp wr [] wr [] [] [] y4) := hide ((unhide hP).ext hxc)
    replace hg1 := hide ((unhide hg1).ext (hxc))
    replace hg2 := hide ((unhide hg2).ext (hxc))
    clear hxc
    generalize htu0 : Value.tuple _ = tu
    have htu := hide htu0
    clear htu0
    refine wpO_val rfl (run_move rfl rfl) ?_
    go_frame
    refine wpO_val rfl (run_extract (i := 0) (v := .bool false) rfl (unhide htu).symm rfl) ?_
    go_frame
    refine wpO_val rfl (run_extract (i := 1) (v := .int .i64 2) rfl (unhide htu).symm rfl) ?_
    go_frame
    iterate 2
     refine wpO_want rfl ?_
     go_simp
    refine wpO_done ?_
    try go_frame
    clear htu
    try dsimp only
    repeat ((fail_if_success (with_reducible refine wp_reg (id := 17) ?_)); (first | go_values | go_skip | go_step | go_guarded | go_upon | go_in | go_back | fail))
    with_reducible refine wp_reg (id := 17) ?_
    iterate 2
     refine wpO_want rfl ?_
     go_simp
    refine wpO_want rfl ?_
    go_simp
    have hca := mapping_bad (some ⟨g1,0,none⟩) (some ⟨g2,0,none⟩) 2 0 2 y4 (AskIs.big (unhide hg1) (unhide h8)) (AskIs.good (unhide hg2) (by decide)) rfl (by decide)
    refine hca.mono ?_
    clear hca
    rintro _ y5 ⟨rfl,hxc⟩
    refine ⟨_,rfl, ?_⟩
    replace hP : Hid (Sp wr [] wr [] [] [] y5) := hide ((unhide hP).ext hxc)
    replace hg1 := hide ((unhide hg1).ext (hxc))
    replace hg2 := hide ((unhide hg2).ext (hxc))
    clear hxc
    generalize htu0 : Value.tuple _ = tu
    have htu := hide htu0
    clear htu0
    refine wpO_val rfl (run_move rfl rfl) ?_
    go_frame
    refine wpO_val rfl (run_extract (i := 0) (v := .slice none 0 0) rfl (unhide htu).symm rfl) ?_
    go_frame
    refine wpO_val rfl (run_extract (i := 1) (v := .bool false) rfl (unhide htu).symm rfl) ?_
    go_frame
    refine wpO_val rfl (run_extract (i := 2) (v := .int .i64 2) rfl (unhide htu).symm rfl) ?_
    go_frame
    iterate 3
     refine wpO_want rfl ?_
     go_simp
    refine wpO_done ?_
    try go_frame
    clear htu
    try dsimp only
    repeat ((fail_if_success (with_reducible refine wp_reg (id := 18) ?_)); (first | go_values | go_skip | go_step | go_guarded | go_upon | go_in | go_back | fail))
    with_reducible refine wp_reg (id := 18) ?_
    refine wpO_want rfl ?_
    go_simp
    refine wpO_want rfl ?_
    go_simp
    have hca := canon_bad (some ⟨g1,0,none⟩) 2 2 y5 (AskIs.big (unhide hg1) (unhide h8)) rfl (by decide)
    refine hca.mono ?_
    clear hca
    rintro _ y6 ⟨rfl,hxc⟩
    refine ⟨_,rfl, ?_⟩
    replace hP : Hid (Sp wr [] wr [] [] [] y6) := hide ((unhide hP).ext hxc)
    replace hg1 := hide ((unhide hg1).ext (hxc))
    replace hg2 := hide ((unhide hg2).ext (hxc))
    clear hxc
    generalize htu0 : Value.tuple _ = tu
    have htu := hide htu0
    clear htu0
    refine wpO_val rfl (run_move rfl rfl) ?_
    go_frame
    refine wpO_val rfl (run_extract (i := 0) (v := .pointer none) rfl (unhide htu).symm rfl) ?_
    go_frame
    refine wpO_val rfl (run_extract (i := 1) (v := .slice none 0 0) rfl (unhide htu).symm rfl) ?_
    go_frame
    refine wpO_val rfl (run_extract (i := 2) (v := .int .i64 2) rfl (unhide htu).symm rfl) ?_
    go_frame
    iterate 3
     refine wpO_want rfl ?_
     go_simp
    refine wpO_done ?_
    try go_frame
    clear htu
    try dsimp only
    repeat ((fail_if_success (with_reducible refine wp_reg (id := 19) ?_)); (first | go_values | go_skip | go_step | go_guarded | go_upon | go_in | go_back | fail))
    with_reducible refine wp_reg (id := 19) ?_
    refine wpO_want rfl ?_
    go_simp
    refine wpO_want rfl ?_
    go_simp
    have hca := autos_bad (some ⟨g1,0,none⟩) 2 2 y6 (AskIs.big (unhide hg1) (unhide h8)) rfl (by decide)
    refine hca.mono ?_
    clear hca
    rintro _ y7 ⟨rfl,hxc⟩
    refine ⟨_,rfl, ?_⟩
    replace hP : Hid (Sp wr [] wr [] [] [] y7) := hide ((unhide hP).ext hxc)
    replace hg1 := hide ((unhide hg1).ext (hxc))
    replace hg2 := hide ((unhide hg2).ext (hxc))
    clear hxc
    generalize htu0 : Value.tuple _ = tu
    have htu := hide htu0
    clear htu0
    refine wpO_val rfl (run_move rfl rfl) ?_
    go_frame
    refine wpO_val rfl (run_extract (i := 0) (v := .slice none 0 0) rfl (unhide htu).symm rfl) ?_
    go_frame
    refine wpO_val rfl (run_extract (i := 1) (v := .int .i64 2) rfl (unhide htu).symm rfl) ?_
    go_frame
    iterate 2
     refine wpO_want rfl ?_
     go_simp
    refine wpO_done ?_
    try go_frame
    clear htu
    try dsimp only
    repeat ((fail_if_success (with_reducible refine wp_reg (id := 20) ?_)); (first | go_values | go_skip | go_step | go_guarded | go_upon | go_in | go_back | fail))
    with_reducible refine wp_reg (id := 20) ?_
    refine wpO_want rfl ?_
    go_simp
    refine wpO_want rfl ?_
    go_simp
    have hca := orbits_bad (some ⟨g1,0,none⟩) 2 2 y7 (AskIs.big (unhide hg1) (unhide h8)) rfl (by decide)
    refine hca.mono ?_
    clear hca
    rintro _ y8 ⟨rfl,hxc⟩
    refine ⟨_,rfl, ?_⟩
    replace hP : Hid (Sp wr [] wr [] [] [] y8) := hide ((unhide hP).ext hxc)
    replace hg1 := hide ((unhide hg1).ext (hxc))
    replace hg2 := hide ((unhide hg2).ext (hxc))
    clear hxc
    generalize htu0 : Value.tuple _ = tu
    have htu := hide htu0
    clear htu0
    refine wpO_val rfl (run_move rfl rfl) ?_
    go_frame
    refine wpO_val rfl (run_extract (i := 0) (v := .slice none 0 0) rfl (unhide htu).symm rfl) ?_
    go_frame
    refine wpO_val rfl (run_extract (i := 1) (v := .int .i64 2) rfl (unhide htu).symm rfl) ?_
    go_frame
    iterate 2
     refine wpO_want rfl ?_
     go_simp
    refine wpO_done ?_
    try go_frame
    clear htu
    try dsimp only
    repeat ((fail_if_success (with_reducible refine wp_reg (id := 21) ?_)); (first | go_values | go_skip | go_step | go_guarded | go_upon | go_in | go_back | fail))
    with_reducible refine wp_reg (id := 21) ?_
    refine wpO_want rfl ?_
    go_simp
    refine wpO_want rfl ?_
    go_simp
    have hca := iso_bad none (some ⟨g1,0,none⟩) 1 2 1 y8 (AskIs.none _) (AskIs.big (unhide hg1) (unhide h8)) rfl (by decide)
    refine hca.mono ?_
    clear hca
    rintro _ y9 ⟨rfl,hxc⟩
    refine ⟨_,rfl, ?_⟩
    replace hP : Hid (Sp wr [] wr [] [] [] y9) := hide ((unhide hP).ext hxc)
    replace hg1 := hide ((unhide hg1).ext (hxc))
    replace hg2 := hide ((unhide hg2).ext (hxc))
    clear hxc
    generalize htu0 : Value.tuple _ = tu
    have htu := hide htu0
    clear htu0
    refine wpO_val rfl (run_move rfl rfl) ?_
    go_frame
    refine wpO_val rfl (run_extract (i := 0) (v := .bool false) rfl (unhide htu).symm rfl) ?_
    go_frame
    refine wpO_val rfl (run_extract (i := 1) (v := .int .i64 1) rfl (unhide htu).symm rfl) ?_
    go_frame
    iterate 2
     refine wpO_want rfl ?_
     go_simp
    refine wpO_done ?_
    try go_frame
    clear htu
    try dsimp only
    repeat ((fail_if_success (with_reducible refine wp_reg (id := 22) ?_)); (first | go_values | go_skip | go_step | go_guarded | go_upon | go_in | go_back | fail))
    with_reducible refine wp_reg (id := 22) ?_
    refine wpO_want rfl ?_
    go_simp
    refine wpO_want rfl ?_
    go_simp
    have hca := iso_bad (some ⟨g1,0,none⟩) none 2 1 2 y9 (AskIs.big (unhide hg1) (unhide h8)) (AskIs.none _) rfl (by decide)
    refine hca.mono ?_
    clear hca
    rintro _ y10 ⟨rfl,hxc⟩
    refine ⟨_,rfl, ?_⟩
    replace hP : Hid (Sp wr [] wr [] [] [] y10) := hide ((unhide hP).ext hxc)
    replace hg1 := hide ((unhide hg1).ext (hxc))
    replace hg2 := hide ((unhide hg2).ext (hxc))
    clear hxc
    generalize htu0 : Value.tuple _ = tu
    have htu := hide htu0
    clear htu0
    refine wpO_val rfl (run_move rfl rfl) ?_
    go_frame
    refine wpO_val rfl (run_extract (i := 0) (v := .bool false) rfl (unhide htu).symm rfl) ?_
    go_frame
    refine wpO_val rfl (run_extract (i := 1) (v := .int .i64 2) rfl (unhide htu).symm rfl) ?_
    go_frame
    iterate 2
     refine wpO_want rfl ?_
     go_simp
    refine wpO_done ?_
    try go_frame
    clear htu
    try dsimp only
    repeat ((fail_if_success (with_reducible refine wp_reg (id := 23) ?_)); (first | go_values | go_skip | go_step | go_guarded | go_upon | go_in | go_back | fail))
    with_reducible refine wp_reg (id := 23) ?_
    refine wpO_want rfl ?_
    go_simp
    have hca := canon_bad none 1 1 y10 (AskIs.none _) rfl (by decide)
    refine hca.mono ?_
    clear hca
    rintro _ y11 ⟨rfl,hxc⟩
    refine ⟨_,rfl, ?_⟩
    replace hP : Hid (Sp wr [] wr [] [] [] y11) := hide ((unhide hP).ext hxc)
    replace hg1 := hide ((unhide hg1).ext (hxc))
    replace hg2 := hide ((unhide hg2).ext (hxc))
    clear hxc
    generalize htu0 : Value.tuple _ = tu
    have htu := hide htu0
    clear htu0
    refine wpO_val rfl (run_move rfl rfl) ?_
    go_frame
    refine wpO_val rfl (run_extract (i := 0) (v := .pointer none) rfl (unhide htu).symm rfl) ?_
    go_frame
    refine wpO_val rfl (run_extract (i := 1) (v := .slice none 0 0) rfl (unhide htu).symm rfl) ?_
    go_frame
    refine wpO_val rfl (run_extract (i := 2) (v := .int .i64 1) rfl (unhide htu).symm rfl) ?_
    go_frame
    iterate 3
     refine wpO_want rfl ?_
     go_simp
    refine wpO_done ?_
    try go_frame
    clear htu
    try dsimp only
    repeat ((fail_if_success (with_reducible refine wp_reg (id := 24) ?_)); (first | go_values | go_skip | go_step | go_guarded | go_upon | go_in | go_back | fail))
    with_reducible refine wp_reg (id := 24) ?_
    refine wpO_want rfl ?_
    go_simp
    have hca := relabel_nil none 0 0 y11
    refine hca.mono ?_
    clear hca
    rintro _ y12 ⟨rfl,hxc⟩
    refine ⟨_,rfl, ?_⟩
    replace hP : Hid (Sp wr [] wr [] [] [] y12) := hide ((unhide hP).ext hxc)
    replace hg1 := hide ((unhide hg1).ext (hxc))
    replace hg2 := hide ((unhide hg2).ext (hxc))
    clear hxc
    generalize htu0 : Value.tuple _ = tu
    have htu := hide htu0
    clear htu0
    refine wpO_val rfl (run_move rfl rfl) ?_
    go_frame
    refine wpO_val rfl (run_extract (i := 0) (v := .pointer none) rfl (unhide htu).symm rfl) ?_
    go_frame
    refine wpO_val rfl (run_extract (i := 1) (v := .int .i64 1) rfl (unhide htu).symm rfl) ?_
    go_frame
    iterate 2
     refine wpO_want rfl ?_
     go_simp
    refine wpO_done ?_
    try go_frame
    clear htu
    try dsimp only
    repeat ((fail_if_success (with_reducible refine wp_reg (id := 25) ?_)); (first | go_values | go_skip | go_step | go_guarded | go_upon | go_in | go_back | fail))
    with_reducible refine wp_reg (id := 25) ?_
    refine wpO_want rfl ?_
    go_simp
    refine wpO_want rfl ?_
    go_simp
    have hca := canon_any g2 v2 e2 [] [] y12 (unhide hg2) (by decide) lab_none
    refine hca.mono ?_
    clear hca
    rintro _ y13 ⟨f9,fv,fe,V2,E2,Al,nl,cl,rfl,k1,k2,k3,k4,hxc,k5,k6,k7⟩
    refine ⟨_,rfl, ?_⟩
    replace hP : Hid (Sp wr [] wr [] [] [] y13) := hide ((unhide hP).ext hxc)
    replace hg1 := hide ((unhide hg1).ext (hxc))
    replace hg2 := hide ((unhide hg2).ext (hxc))
    clear hxc k1 k2 k3 k4 k5 k6 k7
    generalize htu0 : Value.tuple _ = tu
    have htu := hide htu0
    clear htu0
    refine wpO_val rfl (run_move rfl rfl) ?_
    go_frame
    refine wpO_val rfl (run_extract (i := 0) (v := .pointer (some ⟨f9,0,none⟩)) rfl (unhide htu).symm rfl) ?_
    go_frame
    refine wpO_val rfl (run_extract (i := 1) (v := .slice Al nl cl) rfl (unhide htu).symm rfl) ?_
    go_frame
    refine wpO_val rfl (run_extract (i := 2) (v := .int .i64 0) rfl (unhide htu).symm rfl) ?_
    go_frame
    iterate 3
     refine wpO_want rfl ?_
     go_simp
    refine wpO_done ?_
    try go_frame
    clear htu
    try dsimp only
    repeat ((fail_if_success (with_reducible refine wp_reg (id := 26) ?_)); (first | go_values | go_skip | go_step | go_guarded | go_upon | go_in | go_back | fail))
    with_reducible refine wp_reg (id := 26) ?_
    iterate 60
     refine wpO_want rfl ?_
     go_simp
    refine wpO_done ?_
    try go_frame
    go_wp2_with fail
    refine Sp.leaves0 ?_
    exact ⟨_,results_tmp (t := 4) rfl _ _ _,rfl,(unhide hxw).trans (unhide hP).extf⟩
end Go.Proofs.YtbpeemhfjgcnaaaGreat
namespace Go.Proofs.YtbpeemhfjgcnaaaGreat.isomorphismErrorsRow
open Go.ChangeShapes Go.WideShapes Go.ChangeAt Go.RowKit
set_option linter.unusedVariables false
theorem own : ownKnob Tryz.prog.godebug = none := by kernel_rfl
set_option maxRecDepth 100000 in
theorem lifted (os : Os) (started : os.Started) (H : Type) (enc : TypeId × Value → H) :
  ReturnsInHanded {} Tryz.checked os 10 .any (Rows.isomorphismErrorsSpec.pre6 enc Tryz.prog Tryz.f10 Rows.isomorphismErrorsRow.domain false) (Rows.isomorphismErrorsSpec.post enc Tryz.prog Tryz.f10 false true false false) := by
 refine returnsInHanded_of_change (C := Tryz.checked) own started (by kernel_rfl) Tryz.func10
  (ChangeSpec.witness6 (enc := enc) (C := Tryz.checked) false ⟨#[], #[.int .u8 0, .bool false],[]⟩ 8 (by kernel_rfl) (by kernel_rfl) (by kernel_rfl) (by kernel_rfl)) ?_
 intro W base args ds gs before hval0 hW hcnd _
 have hval : ∀ (j : Nat) t v,Tryz.f10.params[j]? = some t → args[j]? = some v → Value.okWide Tryz.prog W .any base t v := hval0
 have hW' := hW
 obtain ⟨p,q,hA0,hV,rfl,hfz,hnd⟩ := hW
 have hA : DataW.TrodAll enc Tryz.prog W 0 (fun _ => true) true Tryz.f10.params.toList args.toList ds p := hA0
 rw [Tryz.params10] at hA hval
 obtain ⟨v0,vs0,d0,ds0,p0,q0,hargs,rfl,rfl,h0,r0⟩ := trodAll_cons hA
 obtain ⟨v1,vs1,d1,ds1,p1,q1,rfl,rfl,rfl,h1,r1⟩ := trodAll_cons r0
 obtain ⟨rfl,rfl,rfl⟩ := trodAll_nil r1
 obtain rfl : args = #[v0,v1] := by cases args; simp_all
 obtain ⟨rfl,rfl⟩ := trodVars_none hV
 obtain ⟨a0,rfl,rfl,rfl,w0⟩ := open_int Tryz.underlying5 (hval 0 5 v0 rfl rfl) h0
 obtain ⟨a1,rfl,rfl,rfl⟩ := open_bool Tryz.underlying4 (hval 1 4 v1 rfl rfl) h1
 clear hA0 hval0
 refine (isomorphismErrors_walk a0 a1 W (Go.bounds_u8 w0)).mono fun e W' ⟨he,bel⟩ => ?_
 subst he
 exact ⟨_,rfl,_,_,_,[],_,[],hW',trodAll_mk1 (shut_bool Tryz.underlying4 _),(trodAll_cons_mk (shut_int Tryz.underlying5 w0) (trodAll_cons_mk (shut_bool Tryz.underlying4 a1) trodAll_mk0)),rfl,bel.frame _,fun h => by cases h⟩
theorem over : Rows.isomorphismErrorsRow.holds Tryz.pinned (OpenSpec.ofChange Rows.isomorphismErrorsSpec) :=
 OpenClaim.holds_of_wide 10 Tryz.f10 rfl rfl rfl rfl rfl rfl rfl ⟨rfl,rfl,rfl,rfl,rfl⟩ rfl rfl rfl rfl rfl (by kernel_rfl) Tryz.func10 (by kernel_rfl)
  (of_decide_eq_true (by kernel_rfl)) (by unfold Func.isWrapper; first | (rw [if_pos (by decide +kernel)]; kernel_rfl) | (rw [if_neg (by decide +kernel)]; exact ⟨rfl,rfl⟩))
  (fun os started H enc _ => lifted os started H enc)
end Go.Proofs.YtbpeemhfjgcnaaaGreat.isomorphismErrorsRow
namespace Go.Proofs.YtbpeemhfjgcnaaaGreat
theorem isomorphismErrors_holds : Rows.IsomorphismErrorsSaid := isomorphismErrorsRow.over
#print axioms isomorphismErrors_holds
end Go.Proofs.YtbpeemhfjgcnaaaGreat
