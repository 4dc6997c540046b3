/- Parts of a proof, laid together. Each part says its own conditions. -/
import Derived.Test.YtmokciekndllpaaGreatDoorC34
import Derived.Test.YtmokciekndllpaaGreatDoorC25
import Derived.Test.YtmokciekndllpaaGreatDoorC27
namespace Go.Proofs.YtmokciekndllpaaGreatDoor
open Go Go.RowKit Go.Shelf
attribute [local go_sem] qUpon lUpon
attribute [local irreducible] wpO wpX wpQL
theorem filt_snoc {α : Type} (f : α → Bool) {l : List α} {i : Nat} (h : i < l.length) : ((l.take (i + 1)).filter f).length = ((l.take i).filter f).length + if f l[i] = true then 1 else 0 := by
 rw [List.take_succ_eq_append_getElem h,List.filter_append,List.length_append,List.filter_cons]
 split <;> rfl
set_option maxRecDepth 100000 in
set_option maxHeartbeats 16000000 in
theorem crosses_any (og : Option Addr) (V : List (Int × Thing)) (E : List ((Int × Int) × Thing)) (S T : Nat) (w : World) (hi : GInv V E) (hg : GL w og V E) (hT : Tab w) :
  Calls Tryz.prog 17 #[.pointer og, .agg (setC S), .agg (setC T)] w fun e w' => e = .returned (.bool (crossS V E S T)) ∧ Ext w w' := by
 have hi' := hide hi
 have hg' := hide hg
 have hT' := hide hT
 obtain ⟨CS,hCS0⟩ : ∃ C,C = partS V E S := ⟨_,rfl⟩
 have hCS := hide hCS0
 have hcr := hide (show crossS V E S T = decide (1 < (CS.filter fun p => anyB (p &&& T)).length) by rw [hCS0]; rfl)
 have hCl := hide (show CS.length ≤ 1024 by
  have h2 : CS = compS E 1100 (minusS (vS V) S) := hCS0
  have h1 := comp_len hi 1100 _ _ CS rfl (by have := toL_len (minusS (vS V) S); omega) h2
  have := toL_len (minusS (vS V) S)
  omega)
 rw [unhide hcr]
 clear hi hg hT hCS0 hcr
 have hP := hide (Sp.new w)
 refine callsIn_wide.1 (callsIn_of_wp_marks (n := 0) Tryz.func17 rfl trivial (wpIn_wide.2 ?_))
 simp only [Tryz.ntmps17,List.size_toArray,List.length_cons,List.length_nil,Nat.reduceAdd,Nat.reduceSub,Array.replicate_succ,Array.replicate_zero,List.push_toArray,List.append_toArray,List.nil_append,List.cons_append]
 try dsimp only
 repeat ((fail_if_success (with_reducible refine wp_reg (id := 0) ?_)); (first | go_values | go_skip | go_step | go_guarded | go_upon | go_in | go_back | fail))
 with_reducible refine wp_reg (id := 0) ?_
 refine (unhide hP).allocO 25 (setC S) rfl (run_box (v := .agg (setC S)) rfl rfl) ?_
 intro r4 y1 hQ
 replace hP : Hid (Sp w [] w [] [(r4,25,setC S)] [] y1) := hide hQ
 clear hQ
 refine (unhide hP).allocO 25 (setC T) rfl (run_box (v := .agg (setC T)) rfl rfl) ?_
 intro r5 y2 hQ
 replace hP : Hid (Sp w [] w [] [(r4,25,setC S),(r5,25,setC T)] [] y2) := hide hQ
 clear hQ
 refine wpO_want rfl ?_
 go_simp
 refine wpO_done ?_
 try go_frame
 try dsimp only
 repeat ((fail_if_success (with_reducible refine wp_reg (id := 1) ?_)); (first | go_values | go_skip | go_step | go_guarded | go_upon | go_in | go_back | fail))
 with_reducible refine wp_reg (id := 1) ?_
 refine wpO_want rfl ?_
 go_simp
 refine wpO_done ?_
 try go_frame
 try dsimp only
 repeat ((fail_if_success (with_reducible refine wp_reg (id := 2) ?_)); (first | go_values | go_skip | go_step | go_guarded | go_upon | go_in | go_back | fail))
 with_reducible refine wp_reg (id := 2) ?_
 refine wpO_want rfl ?_
 go_simp
 refine wpO_val rfl (load_SetR (N := S) rfl rfl ((unhide hP).get 0 rfl).whole) ?_
 refine wpO_want rfl ?_
 go_simp
 have hca := components_any og V E S y2 (unhide hi') ((unhide hg').ext (unhide hP).extf) ((unhide hT').ext (unhide hP).extf)
 rw [← unhide hCS] at hca
 refine hca.mono ?_
 clear hca
 rintro _ y3 ⟨A,n,c,rfl,hn,hown,hxc⟩
 replace hP : Hid (Sp w [] w [] [(r4,25,setC S),(r5,25,setC T)] [] y3) := hide ((unhide hP).ext hxc)
 have hn' := hide hn
 have hsl := hide (own_at (enc := encS) (by rw [hn] at hown; exact hown) encS_len)
 clear hxc hown hn
 refine ⟨_,rfl, ?_⟩
 try go_frame
 iterate 2
  refine wpO_want rfl ?_
  go_simp
 refine wpO_done ?_
 try go_frame
 go_wp2_with fail
 have hb5 := hide ((unhide hP).get 1 rfl)
 have hbase := hide (unhide hP).extf
 clear hP
 generalize y3 = wb at *
 have hP := hide (Sp.new wb)
 obtain ⟨I3_2,hI3_20⟩ : ∃ I : Nat → Act → World → Prop,I = fun fi a' wr => ∃ (i : Nat), ∃ (k : Nat),a'.tmps.size = 28 ∧ a'.tmps.getD 5 undef = .pointer (some ⟨r5,0,none⟩) ∧ a'.tmps.getD 7 undef = .int .i64 (k : Nat) ∧ a'.tmps.getD 12 undef = .slice A n c ∧ a'.tmps.getD 13 undef = .int .i64 (n : Nat) ∧ a'.tmps.getD 14 undef = .int .i64 (i : Nat) ∧ a'.defers = [] ∧ i ≤ n ∧ ((k = ((CS.take i).filter fun p => anyB (p &&& T)).length)) ∧ Sp wb [] wb [] [] [] wr ∧ fi = n - i := ⟨_,rfl⟩
 have hI3_2 := hide hI3_20
 clear hI3_20
 refine wp_loop_ix I3_2 (n - 0) ?_ ?_
 ·rw [unhide hI3_2]; exact ⟨0,0,rfl,rfl,rfl,rfl,rfl,rfl,rfl,Nat.zero_le _,rfl,unhide hP,rfl⟩
 ·rintro fi ⟨tm,dfs⟩ wr hrel
  rw [unhide hI3_2] at hrel
  obtain ⟨i,k,hsz,e5,e7,e12,e13,e14,hdf,hin,hk0,hPr,hfm⟩ := hrel
  obtain ⟨us,rfl⟩ : ∃ us : Nat → Value,tm = #[us 0,us 1,us 2,us 3,us 4,us 5,us 6,us 7,us 8,us 9,us 10,us 11,us 12,us 13,us 14,us 15,us 16,us 17,us 18,us 19,us 20,us 21,us 22,us 23,us 24,us 25,us 26,us 27] := ⟨fun i => tm.getD i undef,arr_fn hsz⟩
  have h5 : us 5 = .pointer (some ⟨r5,0,none⟩) := e5
  have h7 : us 7 = .int .i64 (k : Nat) := e7
  have h12 : us 12 = .slice A n c := e12
  have h13 : us 13 = .int .i64 (n : Nat) := e13
  have h14 : us 14 = .int .i64 (i : Nat) := e14
  have hdf2 : dfs = [] := hdf
  subst hdf2
  clear hdf hsz e5 e7 e12 e13 e14
  simp only [h5,h7,h12,h13,h14]
  clear h5 h7 h12 h13 h14
  clear hP
  have hP := hide hPr
  have hfm' := hide hfm
  have hk := hide hk0
  clear hPr hfm hk0
  by_cases hlt : i < n
  ·skip
   have hil : (i : Int) < (n : Int) := by omega
   have hlt' := hide hlt
   have hiC : i < CS.length := by rw [← unhide hn']; exact hlt
   have hkk := hide (filt_snoc (fun p => anyB (p &&& T)) hiC)
   have hib : (i : Int) ≤ 1024 := by have := unhide hCl; have := unhide hn'; omega
   have hkb := hide (show k ≤ 1024 by have h := List.length_filter_le (fun p => anyB (p &&& T)) (CS.take i); rw [← unhide hk,List.length_take] at h; have := unhide hCl; omega)
   obtain ⟨b9,o9,rfl,hlt9,hst9⟩ := (unhide hsl).set hiC
   obtain ⟨p,hp0⟩ : ∃ p,p = CS[i] := ⟨_,rfl⟩
   rw [← hp0] at hst9 hkk
   have hst := hide hst9
   clear hp0 hlt hin hlt9 hst9 hiC
   try dsimp only
   repeat ((fail_if_success (with_reducible refine wp_reg (id := 3) ?_)); (first | go_values | go_skip | go_step | go_guarded | go_upon | go_in | go_back | fail))
   with_reducible refine wp_reg (id := 3) ?_
   refine wpO_want rfl ?_
   go_simp
   refine wpO_done ?_
   try go_frame
   try dsimp only
   repeat ((fail_if_success (with_reducible refine wp_reg (id := 4) ?_)); (first | go_values | go_skip | go_step | go_guarded | go_upon | go_in | go_back | fail))
   with_reducible refine wp_reg (id := 4) ?_
   refine wpO_want rfl ?_
   go_simp
   refine wpO_val rfl (load_SetR (N := p) rfl rfl (fun j v hv => unhide hst [] _ ((unhide hP).extf.keep []) (by simp) j v hv)) ?_
   try go_frame
   clear hil
   refine (unhide hP).allocO 25 (setC 0) rfl (run_alloc_set rfl) ?_
   intro r9 y4 hQ
   replace hP : Hid (Sp wb [] wb [] [(r9,25,setC 0)] [] y4) := hide hQ
   clear hQ
   refine (unhide hP).setO 0 (setC p) rfl rfl (fun hb => store_SetR (N := p) rfl rfl rfl hb) ?_
   intro y5 hQ
   replace hP : Hid (Sp wb [] wb [] [(r9,25,setC p)] [] y5) := hide hQ
   clear hQ
   refine wpO_done ?_
   try go_frame
   try dsimp only
   repeat ((fail_if_success (with_reducible refine wp_reg (id := 5) ?_)); (first | go_values | go_skip | go_step | go_guarded | go_upon | go_in | go_back | fail))
   with_reducible refine wp_reg (id := 5) ?_
   refine wpO_val rfl (load_SetR (N := p) rfl rfl ((unhide hP).get 0 rfl).whole) ?_
   try go_frame
   refine wpO_val rfl (load_SetR (N := T) rfl rfl (((unhide hb5).ext (unhide hP).extf).whole)) ?_
   try go_frame
   refine wpO_want rfl ?_
   go_simp
   refine (inter_any p T _).mono ?_
   rintro _ y6 ⟨rfl,hxc⟩
   refine ⟨_,rfl, ?_⟩
   replace hP : Hid (Sp wb [] wb [] [(r9,25,setC p)] [] y6) := hide ((unhide hP).ext hxc)
   clear hxc
   refine wpO_want rfl ?_
   go_simp
   have hca := empty_any (p &&& T) y6
   rw [eqS_anyZ] at hca
   refine hca.mono ?_
   clear hca
   rintro _ y7 ⟨rfl,hxc⟩
   replace hP : Hid (Sp wb [] wb [] [(r9,25,setC p)] [] y7) := hide ((unhide hP).ext hxc)
   clear hxc
   obtain ⟨q,hq0⟩ : ∃ q,q = anyB (p &&& T) := ⟨_,rfl⟩
   rw [← hq0]
   rw [← hq0] at hkk
   clear hq0
   refine ⟨_,rfl, ?_⟩
   try go_frame
   cases q
   ·skip
    refine wpO_want rfl ?_
    go_simp
    refine wpO_done ?_
    try go_frame
    replace hP : Hid (Sp wb [] wb [] [] [] y7) := hide ((unhide hP).sub (List.sublist_append_left _ ([(r9,25,setC p)] : List Cl)) (List.Sublist.refl _))
    go_wp2_with fail
    refine ⟨n - (i + 1), ?_,by have := unhide hfm'; have := unhide hlt'; omega⟩
    rw [unhide hI3_2]
    exact ⟨i + 1,k,(by first | rfl | trivial),(by first | rfl | trivial),(by first | rfl | trivial),(by first | rfl | trivial),(by first | rfl | trivial),(by first | rfl | (show _ = Value.int _ _; go_num) | go_num),(by first | rfl | trivial),by have := unhide hlt'; omega,(by have h := unhide hkk; rw [h, ← unhide hk]; rfl),unhide hP,rfl⟩
   ·skip
    refine wpO_want rfl ?_
    go_simp
    refine wpO_done ?_
    try go_frame
    have hw1 : IntKind.i64.wrap ((k : Int) + 1) = ((k + 1 : Nat) : Int) := by have := unhide hkb; rw [IntWalk.i64_in _ (by omega)]; omega
    try dsimp only
    repeat ((fail_if_success (with_reducible refine wp_reg (id := 6) ?_)); (first | go_values | go_skip | go_step | go_guarded | go_upon | go_in | go_back | fail))
    with_reducible refine wp_reg (id := 6) ?_
    iterate 3
     refine wpO_want rfl ?_
     go_simp
    refine wpO_done ?_
    try go_frame
    clear hw1
    replace hP : Hid (Sp wb [] wb [] [] [] y7) := hide ((unhide hP).sub (List.sublist_append_left _ ([(r9,25,setC p)] : List Cl)) (List.Sublist.refl _))
    go_wp2_with fail
    refine ⟨n - (i + 1), ?_,by have := unhide hfm'; have := unhide hlt'; omega⟩
    rw [unhide hI3_2]
    exact ⟨i + 1,k + 1,(by first | rfl | trivial),(by first | rfl | trivial),(by first | rfl | trivial),(by first | rfl | trivial),(by first | rfl | trivial),(by first | rfl | (show _ = Value.int _ _; go_num) | go_num),(by first | rfl | trivial),by have := unhide hlt'; omega,(by have h := unhide hkk; rw [h, ← unhide hk]; rfl),unhide hP,rfl⟩
  ·skip
   have hil : ¬ (i : Int) < (n : Int) := by omega
   obtain ⟨q,hq0⟩ : ∃ q,decide (1 < (CS.filter fun p => anyB (p &&& T)).length) = q := ⟨_,rfl⟩
   have hkq : (decide ((1 : Int) < (k : Int))) = q := by
    rw [← hq0,decide_eq_decide]
    have h := unhide hk
    rw [List.take_of_length_le (by rw [← unhide hn']; omega)] at h
    rw [← h]
    omega
   have hq0' := hide hq0
   have hkq2 : decide (1 < k) = q := by rw [← hkq,decide_eq_decide]; omega
   clear hlt hin hq0
   try dsimp only
   repeat ((fail_if_success (with_reducible refine wp_reg (id := 3) ?_)); (first | go_values | go_skip | go_step | go_guarded | go_upon | go_in | go_back | fail))
   with_reducible refine wp_reg (id := 3) ?_
   refine wpO_want rfl ?_
   go_simp
   refine wpO_done ?_
   try go_frame
   clear hil
   try dsimp only
   repeat ((fail_if_success (with_reducible refine wp_reg (id := 8) ?_)); (first | go_values | go_skip | go_step | go_guarded | go_upon | go_in | go_back | fail))
   with_reducible refine wp_reg (id := 8) ?_
   iterate 3
    refine wpO_want rfl ?_
    go_simp
   refine wpO_done ?_
   try go_frame
   clear hkq hkq2
   go_wp2_with fail
   refine Sp.leaves0 ?_
   exact ⟨_,results_tmp (t := 6) rfl _ _ _,by rw [unhide hq0']; rfl,(unhide hbase).trans (unhide hP).extf⟩
end Go.Proofs.YtmokciekndllpaaGreatDoor
namespace Go.Proofs.YtmokciekndllpaaGreatDoor
open Go
section
variable {κ τ : Type} [DecidableEq κ]
theorem look_map (u x : κ) (v : τ) : ∀ M : List (κ × τ),lookM (M.map fun p => if p.1 = u then (u,v) else p) x = if x = u ∧ (lookM M u).isSome = true then some v else lookM M x
 | [] => by simp [lookM]
 | p :: r => by
  have ih := look_map u x v r
  unfold lookM at ih ⊢
  rw [List.map_cons,List.find?_cons,List.find?_cons,List.find?_cons]
  by_cases h1 : p.1 = u
  ·by_cases h2 : x = u
   ·subst h2; simp [h1]
   ·have h3 : ¬ u = x := fun e => h2 e.symm
    rw [if_pos h1,decide_eq_false h3,decide_eq_false (show ¬ p.1 = x from fun e => h3 (h1.symm.trans e)),ih,if_neg (fun h => h2 h.1),if_neg (fun h => h2 h.1)]
  ·rw [if_neg h1,decide_eq_false h1]
   by_cases h2 : p.1 = x
   ·have h3 : ¬ x = u := fun e => h1 (h2.trans e)
    rw [decide_eq_true h2,if_neg (fun h => h3 h.1)]
   ·rw [decide_eq_false h2,ih]
theorem look_put (M : List (κ × τ)) (u x : κ) (v : τ) : lookM (putM M u v) x = if x = u then some v else lookM M x := by
 unfold putM
 split
 ·rename_i h
  rw [look_map]
  by_cases h2 : x = u
  ·rw [if_pos ⟨h2,h⟩,if_pos h2]
  ·rw [if_neg (fun h => h2 h.1),if_neg h2]
 ·rename_i h
  have h0 : lookM M u = none := by simpa using h
  unfold lookM at h0 ⊢
  rw [List.find?_append]
  by_cases h2 : x = u
  ·subst h2
   have h1 : M.find? (fun p => decide (p.1 = x)) = none := by simpa using h0
   rw [h1,if_pos rfl]
   simp
  ·rw [if_neg h2]
   have h3 : ¬ u = x := fun e => h2 e.symm
   simp [h3]
end
section
variable {V : List (Int × Thing)} {E : List ((Int × Int) × Thing)}
end
end Go.Proofs.YtmokciekndllpaaGreatDoor
namespace Go.Proofs.YtmokciekndllpaaGreatDoor
open Go
def subsR (l : List Int) : List (List Int) := l.foldl (fun out x => out ++ out.map fun K => K ++ [x]) [[]]
theorem subsR_snoc (l : List Int) (x : Int) : subsR (l ++ [x]) = subsR l ++ (subsR l).map fun K => K ++ [x] := by
 unfold subsR
 rw [List.foldl_append]; rfl
theorem mem_subsR {K : List Int} (l : List Int) : K ∈ subsR l ↔ K.Sublist l := by
 suffices h : ∀ (m : List Int) (K : List Int),K ∈ subsR m.reverse ↔ K.Sublist m.reverse by
  have := h l.reverse K
  rwa [List.reverse_reverse] at this
 intro m
 induction m with
 | nil => intro K; simp [subsR]
 | cons x m ih =>
  intro K
  rw [List.reverse_cons,subsR_snoc,List.mem_append,ih,List.mem_map,List.sublist_append_iff]
  constructor
  ·rintro (h | ⟨K',h,rfl⟩)
   ·exact ⟨K,[],by simp,h,List.nil_sublist _⟩
   ·exact ⟨K',[x],rfl,(ih K').1 h,List.Sublist.refl _⟩
  ·rintro ⟨l1,l2,rfl,h1,h2⟩
   have h3 : l2 = [] ∨ l2 = [x] := by
    cases h2 with
    | cons _ h => left; exact List.sublist_nil.1 h
    | cons_cons _ h => right; rw [List.sublist_nil.1 h]
   rcases h3 with rfl | rfl
   ·left; simpa using h1
   ·right; exact ⟨l1,(ih l1).2 h1,rfl⟩
theorem subsR_len (l : List Int) : (subsR l).length = 2 ^ l.length := by
 suffices h : ∀ m : List Int,(subsR m.reverse).length = 2 ^ m.length by
  have := h l.reverse
  rwa [List.reverse_reverse,List.length_reverse] at this
 intro m
 induction m with
 | nil => rfl
 | cons x m ih =>
  rw [List.reverse_cons,subsR_snoc,List.length_append,List.length_map,ih,List.length_cons,Nat.pow_succ]
  omega
section
open Classical
variable {V : List (Int × Thing)} {E : List ((Int × Int) × Thing)}
end
end Go.Proofs.YtmokciekndllpaaGreatDoor
namespace Go.Proofs.YtmokciekndllpaaGreatDoor
open Go
variable {V : List (Int × Thing)} {E : List ((Int × Int) × Thing)}
def InR (c : Nat) : Prop := ∀ k,1024 ≤ k → c.testBit k = false
theorem InR.ext {c d : Nat} (hc : InR c) (hd : InR d) (h : ∀ x,x ∈ toL c ↔ x ∈ toL d) : c = d := by
 refine Nat.eq_of_testBit_eq fun k => ?_
 by_cases hk : k < 1024
 ·have h1 := h (k : Int)
  rw [mem_toL',mem_toL',Int.toNat_natCast] at h1
  cases hc1 : c.testBit k <;> cases hd1 : d.testBit k <;> simp [hc1,hd1] at h1 ⊢ <;> omega
 ·rw [hc k (by omega),hd k (by omega)]
theorem InR.from (l : List Int) : InR (fromS l) := fun k hk => by
 rw [fromS_bit,show decide (k < 1024) = false from decide_eq_false (by omega),Bool.false_and]
theorem InR.near (v : Int) (E : List ((Int × Int) × Thing)) : InR (nearS v E) := by rw [nearS_eq]; exact InR.from _
theorem InR.lt {c : Nat} (h : InR c) {K : Nat} (hK : K = 1024) : c < 2 ^ K := by
 exact Nat.lt_pow_two_of_testBit c fun k hk => h k (by omega)
theorem mem_with {c : Nat} {v x : Int} (hv : 0 ≤ v ∧ v < 1024) : x ∈ toL (withS c v) ↔ x = v ∨ x ∈ toL c := by
 rw [mem_toL',mem_toL',withS_bit]
 constructor
 ·rintro ⟨h1,h2,h3⟩
  rw [Bool.or_eq_true,Bool.and_eq_true,decide_eq_true_eq,decide_eq_true_eq] at h3
  rcases h3 with h3 | ⟨_,h3⟩
  ·exact .inr ⟨h1,h2,h3⟩
  ·left; omega
 ·rintro (rfl | ⟨h1,h2,h3⟩)
  ·refine ⟨hv.1,hv.2, ?_⟩
   rw [Bool.or_eq_true,Bool.and_eq_true,decide_eq_true_eq,decide_eq_true_eq]
   right; omega
  ·exact ⟨h1,h2,by rw [h3,Bool.true_or]⟩
theorem sub_sorted {l : List Int} (hl : l.Pairwise (· < ·)) {K : List Int} (hk : K.Pairwise (· < ·)) (hs : ∀ x ∈ K,x ∈ l) : K.Sublist l := by
 have h : K = l.filter fun x => decide (x ∈ K) := sorted_ext hk (hl.filter _) fun x => by
  rw [List.mem_filter,decide_eq_true_eq]
  exact ⟨fun h => ⟨hs x h,h⟩,fun h => h.2⟩
 rw [h]
 exact List.filter_sublist
theorem fromS_snoc (K : List Int) (x : Int) : fromS (K ++ [x]) = withS (fromS K) x := by unfold fromS; rw [List.foldl_append]; rfl
theorem fromS_small {K : List Int} {n : Nat} (h : ∀ x ∈ K,0 ≤ x ∧ x < n) : fromS K < 2 ^ n := by
 refine Nat.lt_pow_two_of_testBit _ fun k hk => ?_
 rw [fromS_bit]
 by_cases hm : (k : Int) ∈ K
 ·have := h _ hm
  omega
 ·simp [hm]
theorem withS_add {c n : Nat} (hc : c < 2 ^ n) (hn : n < 1024) : withS c (n : Int) = c + 2 ^ n := by
 unfold withS
 rw [if_pos (by unfold fitB; simp; omega),Int.toNat_natCast,Nat.or_comm,show (2 : Nat) ^ n = 2 ^ n * 1 from (Nat.mul_one _).symm, ← Nat.two_pow_add_eq_or_of_lt hc,Nat.mul_one,Nat.add_comm]
theorem subsR_sorted (l : List Int) (hl : l.Pairwise (· < ·)) (hr : ∀ x ∈ l,0 ≤ x ∧ x < 1024) : ((subsR l).map fromS).Pairwise (· < ·) := by
 suffices h : ∀ m : List Int,m.reverse.Pairwise (· < ·) → (∀ x ∈ m,0 ≤ x ∧ x < 1024) → ((subsR m.reverse).map fromS).Pairwise (· < ·) by
  have := h l.reverse
  rw [List.reverse_reverse] at this
  exact this hl fun x hx => hr x (List.mem_reverse.1 hx)
 intro m
 induction m with
 | nil => intro _ _; simp [subsR]
 | cons x m ih =>
  intro hs hr
  rw [List.reverse_cons] at hs ⊢
  obtain ⟨h1,_,h3⟩ := List.pairwise_append.1 hs
  obtain ⟨n,rfl⟩ : ∃ n : Nat,x = (n : Int) := ⟨x.toNat,by have := hr x (by simp); omega⟩
  have hn : n < 1024 := by have := hr n (by simp); omega
  have ih := ih h1 fun y hy => hr y (by simp [hy])
  have hlt : ∀ K ∈ subsR m.reverse,fromS K < 2 ^ n := fun K hK => fromS_small fun y hy => by
   have hy := ((mem_subsR _).1 hK).subset hy
   have := h3 y hy n (by simp)
   have := hr y (by simp [List.mem_reverse.1 hy])
   omega
  rw [subsR_snoc,List.map_append,List.map_map]
  have e : ∀ K ∈ subsR m.reverse,fromS (K ++ [(n : Int)]) = fromS K + 2 ^ n := fun K hK => by rw [fromS_snoc,withS_add (hlt K hK) hn]
  refine List.pairwise_append.2 ⟨ih, ?_, ?_⟩
  ·rw [List.pairwise_map] at ih ⊢
   refine List.Pairwise.imp_of_mem (fun {a b} ha hb hab => ?_) ih
   show fromS (a ++ [(n : Int)]) < fromS (b ++ [(n : Int)])
   rw [e a ha,e b hb]
   omega
  ·intro a ha b hb
   obtain ⟨a',ha',rfl⟩ := List.mem_map.1 ha
   obtain ⟨b',hb',rfl⟩ := List.mem_map.1 hb
   have := hlt a' ha'
   show fromS a' < fromS (b' ++ [(n : Int)])
   rw [e b' hb']
   omega
end Go.Proofs.YtmokciekndllpaaGreatDoor
namespace Go.Proofs.YtmokciekndllpaaGreatDoor
open Go Go.RowKit Go.Shelf
section
variable {V : List (Int × Thing)} {E : List ((Int × Int) × Thing)}
theorem InR.zero : InR 0 := fun k _ => Nat.zero_testBit k
theorem InR.or {c d : Nat} (h : InR c) (h2 : InR d) : InR (c ||| d) := fun k hk => by rw [Nat.testBit_or,h k hk,h2 k hk]; rfl
theorem InR.minus {c d : Nat} (h : InR c) : InR (minusS c d) := fun k hk => by rw [minusS_bit,h k hk,Bool.false_and]
theorem InR.bes (N : Nat) : InR (besS E N) := by
 unfold besS
 refine InR.minus ?_
 generalize toL N = l
 have key : ∀ (l : List Int) (a : Nat),InR a → InR (l.foldl (fun a id => a ||| nearS id E) a) := by
  intro l
  induction l with
  | nil => intro a h; exact h
  | cons x l ih => intro a h; exact ih _ (h.or (InR.near x E))
 exact key l 0 InR.zero
def sepL (V : List (Int × Thing)) (E : List ((Int × Int) × Thing)) : List Nat := ((subsR (V.map (·.1))).map fromS).filter fun c => isepS V E c
theorem fromS_toL {c : Nat} (h : InR c) : fromS (toL c) = c := (InR.from _).ext h fun x => by
 rw [mem_fromS]
 exact ⟨fun h => h.1,fun h => ⟨h,toL_rng h⟩⟩
theorem isep_sub {c : Nat} (h : isepS V E c = true) : ∀ x ∈ toL c,x ∈ toL (vS V) := by
 unfold isepS at h
 rw [Bool.and_eq_true,subS_iff] at h
 exact h.1
theorem mem_sepL (hi : GInv V E) {c : Nat} : c ∈ sepL V E ↔ InR c ∧ isepS V E c = true := by
 unfold sepL
 rw [List.mem_filter]
 constructor
 ·rintro ⟨h1,h2⟩
  obtain ⟨K,_,rfl⟩ := List.mem_map.1 h1
  exact ⟨InR.from K,h2⟩
 ·rintro ⟨h1,h2⟩
  refine ⟨List.mem_map.2 ⟨toL c, ?_,fromS_toL h1⟩,h2⟩
  rw [mem_subsR, ← toL_vS hi]
  exact sub_sorted (toL_sorted _) (toL_sorted _) (isep_sub h2)
theorem sepL_sorted (hi : GInv V E) : (sepL V E).Pairwise (· < ·) := by
 unfold sepL
 refine List.Pairwise.filter _ (subsR_sorted _ ?_ ?_)
 ·rw [← toL_vS hi]; exact toL_sorted _
 ·rw [← toL_vS hi]; exact fun x hx => toL_rng hx
theorem sepL_len : (sepL V E).length ≤ 2 ^ V.length := by
 unfold sepL
 refine Nat.le_trans (List.length_filter_le _ _) ?_
 rw [List.length_map,subsR_len,List.length_map]
 exact Nat.le_refl _
def addS (L : List Nat) (c : Nat) : List Nat := if c ∈ L then L else L ++ [c]
def leftS (E : List ((Int × Int) × Thing)) (L ps : List Nat) : List Nat := ps.foldl (fun L p => addS L (besS E p)) L
theorem leftS_snoc (L ps : List Nat) (p : Nat) : leftS E L (ps ++ [p]) = addS (leftS E L ps) (besS E p) := by
 unfold leftS
 rw [List.foldl_append]
 rfl
structure Fnd (V : List (Int × Thing)) (E : List ((Int × Int) × Thing)) (L : List Nat) : Prop where
 nd : L.Nodup
 sub : ∀ c ∈ L,c ∈ sepL V E
theorem Fnd.nil : Fnd V E [] := ⟨.nil,by simp⟩
theorem Fnd.add {L : List Nat} {c : Nat} (h : Fnd V E L) (hc : c ∈ sepL V E) : Fnd V E (addS L c) := by
 unfold addS
 split
 ·exact h
 ·rename_i hn
  refine ⟨List.nodup_append.2 ⟨h.nd,by simp,fun a ha b hb e => hn ?_⟩,fun x hx => ?_⟩
  ·rw [List.mem_singleton] at hb
   rw [← hb, ← e]; exact ha
  ·rcases List.mem_append.1 hx with hx | hx
   ·exact h.sub x hx
   ·rw [List.mem_singleton] at hx; rw [hx]; exact hc
theorem ndN_len : ∀ (l m : List Nat),l.Nodup → (∀ x ∈ l,x ∈ m) → l.length ≤ m.length
 | [],m,_,_ => Nat.zero_le _
 | a :: l,m,hn,hs => by
  obtain ⟨h1,h2⟩ := List.nodup_cons.1 hn
  have ha : a ∈ m := hs a (by simp)
  have h3 := ndN_len l (m.erase a) h2 fun x hx => (List.mem_erase_of_ne (fun e => h1 (by rw [← e]; exact hx))).2 (hs x (by simp [hx]))
  rw [List.length_erase_of_mem ha] at h3
  have : 0 < m.length := List.length_pos_of_mem ha
  simp only [List.length_cons]
  omega
theorem Fnd.le {L : List Nat} (h : Fnd V E L) : L.length ≤ (sepL V E).length := ndN_len _ _ h.nd h.sub
theorem Fnd.len {L : List Nat} (h : Fnd V E L) (hV : V.length ≤ 9) : L.length ≤ 512 := by
 have h2 := Nat.le_trans h.le sepL_len
 have h3 : 2 ^ V.length ≤ 2 ^ 9 := Nat.pow_le_pow_right (by decide) hV
 have h4 : 2 ^ 9 = 512 := rfl
 omega
theorem Fnd.left {L : List Nat} (h : Fnd V E L) : ∀ {ps : List Nat},(∀ p ∈ ps,besS E p ∈ sepL V E) → Fnd V E (leftS E L ps) := by
 intro ps
 induction ps generalizing L with
 | nil => intro _; exact h
 | cons p ps ih => intro hp; exact ih (h.add (hp p (by simp))) fun q hq => hp q (by simp [hq])
theorem add_pre (L : List Nat) (c : Nat) : L <+: addS L c := by
 unfold addS
 split
 ·exact List.prefix_refl _
 ·exact List.prefix_append _ _
theorem mem_add (L : List Nat) (c : Nat) : c ∈ addS L c := by
 unfold addS
 split
 ·assumption
 ·simp
theorem left_pre (L ps : List Nat) : L <+: leftS E L ps := by
 induction ps generalizing L with
 | nil => exact List.prefix_refl _
 | cons p ps ih => exact (add_pre L (besS E p)).trans (ih _)
theorem mem_left {p : Nat} (L ps : List Nat) (h : p ∈ ps) : besS E p ∈ leftS E L ps := by
 induction ps generalizing L with
 | nil => cases h
 | cons q ps ih =>
  rcases List.mem_cons.1 h with rfl | h
  ·exact (left_pre (E := E) (addS L (besS E p)) ps).subset (mem_add _ _)
  ·exact ih _ h
theorem mem_withS {v x : Int} {N : Nat} (h : 0 ≤ v ∧ v < 1024) : x ∈ toL (withS N v) ↔ x = v ∨ x ∈ toL N := mem_with h
theorem mem_nearS (hi : GInv V E) {v x : Int} : x ∈ toL (nearS v E) ↔ AdE E v x := mem_near hi
theorem bes_in (hi : GInv V E) {p : Nat} {X : Int → Prop} {c : Int} (hx : ∀ x,x ∈ toL p ↔ Cn (AdE E) X c x) (h : Sepr (AdE E) (VtE V) (Bes (AdE E) (VtE V) X c)) : besS E p ∈ sepL V E := by
 refine (mem_sepL hi).2 ⟨InR.bes p,(isep_iff hi).2 ?_⟩
 have e : (fun x => x ∈ toL (besS E p)) = Bes (AdE E) (VtE V) X c := funext fun x => propext (bes_iff hi hx x)
 rw [e]
 exact h
theorem X_vertex (hi : GInv V E) {v : Int} (hv : v ∈ toL (vS V)) : (fun x => VtE V x ∧ ¬ x ∈ toL (withS (nearS v E) v)) = fun x => VtE V x ∧ x ≠ v ∧ ¬ AdE E v x := funext fun x => propext (by
 rw [mem_withS (toL_rng hv),mem_nearS hi,not_or])
theorem X_step (hi : GInv V E) {s : Nat} {z : Int} : (fun x => VtE V x ∧ ¬ x ∈ toL (s ||| nearS z E)) = fun x => VtE V x ∧ ¬ x ∈ toL s ∧ ¬ AdE E z x := funext fun x => propext (by
 rw [mem_or,mem_nearS hi,not_or])
theorem seed_in (hi : GInv V E) {v : Int} (hv : v ∈ toL (vS V)) : ∀ p ∈ partS V E (withS (nearS v E) v),besS E p ∈ sepL V E := fun p hp => by
 have h := part_of hi (withS (nearS v E) v)
 rw [X_vertex hi hv] at h
 obtain ⟨c,hc,hx⟩ := h.all p hp
 exact bes_in hi hx (sepr_vertex AdE.symm hv hc)
theorem step_in (hi : GInv V E) {s : Nat} {z : Int} (hs : s ∈ sepL V E) (hz : z ∈ toL s) : ∀ p ∈ partS V E (s ||| nearS z E),besS E p ∈ sepL V E := fun p hp => by
 have h := part_of hi (s ||| nearS z E)
 rw [X_step hi] at h
 obtain ⟨c,hc,hx⟩ := h.all p hp
 exact bes_in hi hx (sepr_step (s := fun x => x ∈ toL s) AdE.symm ((isep_iff hi).1 ((mem_sepL hi).1 hs).2) hz hc)
def HasV (V : List (Int × Thing)) (E : List ((Int × Int) × Thing)) (l : List Int) (L : List Nat) : Prop := ∀ v ∈ l, ∀ p ∈ partS V E (withS (nearS v E) v),besS E p ∈ L
def HasZ (V : List (Int × Thing)) (E : List ((Int × Int) × Thing)) (s : Nat) (l : List Int) (L : List Nat) : Prop := ∀ z ∈ l, ∀ p ∈ partS V E (s ||| nearS z E),besS E p ∈ L
theorem HasV.up {l : List Int} {L L' : List Nat} (h : HasV V E l L) (hp : L <+: L') : HasV V E l L' := fun v hv p hq => hp.subset (h v hv p hq)
theorem HasZ.up {s : Nat} {l : List Int} {L L' : List Nat} (h : HasZ V E s l L) (hp : L <+: L') : HasZ V E s l L' := fun v hv p hq => hp.subset (h v hv p hq)
theorem HasV.next {l : List Int} {L : List Nat} (h : HasV V E l L) (v : Int) : HasV V E (l ++ [v]) (leftS E L (partS V E (withS (nearS v E) v))) := fun x hx => by
 rcases List.mem_append.1 hx with hx | hx
 ·exact h.up (left_pre _ _) x hx
 ·rw [List.mem_singleton] at hx
  subst hx
  exact fun p hp => mem_left _ _ hp
theorem HasZ.next {s : Nat} {l : List Int} {L : List Nat} (h : HasZ V E s l L) (z : Int) : HasZ V E s (l ++ [z]) (leftS E L (partS V E (s ||| nearS z E))) := fun x hx => by
 rcases List.mem_append.1 hx with hx | hx
 ·exact h.up (left_pre _ _) x hx
 ·rw [List.mem_singleton] at hx
  subst hx
  exact fun p hp => mem_left _ _ hp
def Dne (V : List (Int × Thing)) (E : List ((Int × Int) × Thing)) (i : Nat) (L : List Nat) : Prop := ∀ (k : Nat) (h : k < L.length),k < i → HasZ V E L[k] (toL L[k]) L
theorem Dne.zero (L : List Nat) : Dne V E 0 L := fun _ _ h => absurd h (Nat.not_lt_zero _)
theorem pre_get {L L' : List Nat} (hp : L <+: L') {k : Nat} (h : k < L.length) (h' : k < L'.length) : L'[k] = L[k] := by
 obtain ⟨M,rfl⟩ := hp
 exact List.getElem_append_left h
theorem Dne.next {i : Nat} {L L' : List Nat} (h : Dne V E i L) (hp : L <+: L') (hi : i < L.length) (hz : HasZ V E L[i] (toL L[i]) L') : Dne V E (i + 1) L' := fun k hk hki => by
 have hkL : k < L.length := by omega
 rw [pre_get hp hkL]
 by_cases e : k = i
 ·subst e; exact hz
 ·exact (h k hkL (by omega)).up hp
theorem found_all (hi : GInv V E) {i : Nat} {L : List Nat} (hF : Fnd V E L) (hV : HasV V E (toL (vS V)) L) (hD : Dne V E i L) (hl : L.length ≤ i) : (sepL V E).Perm L := by
 refine (List.perm_ext_iff_of_nodup ((sepL_sorted hi).imp fun {a b} h => by omega) hF.nd).2 fun c => ⟨fun hc => ?_,hF.sub c⟩
 obtain ⟨h1,h2⟩ := (mem_sepL hi).1 hc
 have hs := (isep_iff hi).1 h2
 have key := sepr_all (A := AdE E) (V := VtE V) (G := fun s => ∃ c ∈ L, ∀ x,x ∈ toL c ↔ s x) AdE.symm (L := toL (vS V)) (fun x hx => hx) ?_ ?_ hs
 ·obtain ⟨d,hd,hx⟩ := key
  rw [h1.ext ((mem_sepL hi).1 (hF.sub d hd)).1 fun x => (hx x).symm]
  exact hd
 ·intro v c hv hc
  have h := part_of hi (withS (nearS v E) v)
  rw [X_vertex hi hv] at h
  obtain ⟨p,hp,hx⟩ := h.has c hc
  exact ⟨_,hV v hv p hp,fun x => bes_iff hi hx x⟩
 ·rintro s z c ⟨d,hd,hdx⟩ hz hc
  obtain ⟨k,hk,rfl⟩ := List.getElem_of_mem hd
  have e : s = fun x => x ∈ toL L[k] := funext fun x => propext (hdx x).symm
  subst e
  have h := part_of hi (L[k] ||| nearS z E)
  rw [X_step hi] at h
  obtain ⟨p,hp,hx⟩ := h.has c hc
  exact ⟨_,hD k hk (by omega) z hz p hp,fun x => bes_iff hi hx x⟩
end
def SetK : Type := { c : Nat // InR c }
instance : DecidableEq SetK := fun a b => decidable_of_iff (a.1 = b.1) ⟨fun h => Subtype.ext h,fun h => by rw [h]⟩
def ekS (k : SetK) : Value := .agg (setC k.1)
theorem keyOf_array16 {P : Program} {k e : TypeId} (hu : P.underlying k = some (.array 16 e)) (he : P.underlying e = some (.int .u64)) (hkt : P.keyType k = true) (hc : P.cellsOf k = 16) (hce : P.cellsOf e = 1) (hp : 0 < P.types.size) {f : Nat → Int} (hf : ∀ i,(Lit.int .u64 (f i)).wf = true) : ∃ l,keyOf P k (.agg #[.int .u64 (f 0), .int .u64 (f 1), .int .u64 (f 2), .int .u64 (f 3), .int .u64 (f 4), .int .u64 (f 5), .int .u64 (f 6), .int .u64 (f 7), .int .u64 (f 8), .int .u64 (f 9), .int .u64 (f 10), .int .u64 (f 11), .int .u64 (f 12), .int .u64 (f 13), .int .u64 (f 14), .int .u64 (f 15)]) = some l := by
 obtain ⟨d,hd⟩ : ∃ d,P.types.size = d + 1 := ⟨P.types.size - 1,by omega⟩
 simp [keyOf,hu,hkt,Value.formed,hc,Value.cells,hd,Program.keyLits,he,hce,hf,List.range_succ]
theorem wf_wd (N i : Nat) : (Lit.int .u64 (wd N i)).wf = true := WalkArith.wf_u64 (by
 have : wdN N i < 18446744073709551616 := Nat.mod_lt _ (by decide)
 unfold wd
 omega)
theorem lawS : WideMaps.KeyLaw Tryz.prog 25 := deep_law_laid (by kernel_rfl) (m := 2) (by omega) (of_decide_eq_true (by kernel_rfl)) (by kernel_rfl) (by rw [Tryz.underlying25])
theorem keyS : Tryz.prog.keyType 25 = true := by kernel_rfl
theorem cellsS : Tryz.prog.cellsOf 25 = 16 := by kernel_rfl
theorem cellsU : Tryz.prog.cellsOf 23 = 1 := by kernel_rfl
theorem ekS_inj (a b : SetK) (h : ekS a = ekS b) : a = b := by
 unfold ekS at h
 have h1 : setC a.1 = setC b.1 := by injection h
 have h2 : ∀ i,i < 16 → wdN a.1 i = wdN b.1 i := fun i hi => by
  have h3 := setC_get a.1 hi
  rw [h1,setC_get b.1 hi] at h3
  injection h3 with h3
  injection h3 with _ h3
  unfold wd at h3
  omega
 refine Subtype.ext (Nat.eq_of_testBit_eq fun k => ?_)
 by_cases hk : k < 1024
 ·have h3 := congrArg (fun n => n.testBit (k % 64)) (h2 (k / 64) (by omega))
  simp only [wdN_bit] at h3
  have h4 : 64 * (k / 64) + k % 64 = k := by omega
  have h5 : k % 64 < 64 := by omega
  rw [h4,decide_eq_true h5,Bool.true_and,Bool.true_and] at h3
  exact h3
 ·rw [a.2 k (by omega),b.2 k (by omega)]
theorem keS : KE Tryz.prog 25 ekS (fun _ => True) where
 keyed := Maps.Keyed.of_law lawS
 reads k _ := keyOf_array16 (f := wd k.1) Tryz.underlying25 Tryz.underlying23 keyS cellsS cellsU typesPos (wf_wd k.1)
 inj := ekS_inj
end Go.Proofs.YtmokciekndllpaaGreatDoor
