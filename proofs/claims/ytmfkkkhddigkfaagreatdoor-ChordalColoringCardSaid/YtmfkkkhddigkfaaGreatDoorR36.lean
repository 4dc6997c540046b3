/- Parts of a proof, laid together. Each part says its own conditions. -/
import Derived.Test.YtmfkkkhddigkfaaGreatDoorR35
import Derived.Test.YtmfkkkhddigkfaaGreatDoorR25
import Derived.Test.YtmfkkkhddigkfaaGreatDoorR29
namespace Go.Proofs.YtmfkkkhddigkfaaGreatDoor
open Go Go.RowKit Go.Shelf
attribute [local go_sem] qUpon lUpon
theorem shortF_step {E : List ((Int × Int) × Thing)} {may last f at_ seen : Nat} {n : Int} (hf : 1025 ≤ f + (toL seen).length) (hd : ∀ x ∈ toL at_,x ∉ toL seen) (hq : eqS at_ 0 = false) :
  ∃ f',f = f' + 1 ∧ 1025 ≤ f' + (toL (seen ||| at_)).length ∧ shortF E may last f at_ seen n = (if anyB (nearU E at_ &&& last) = true then n else shortF E may last f' (minusS (nearU E at_ &&& may) (seen ||| at_)) (seen ||| at_) (n + 1)) := by
 have hne : toL at_ ≠ [] := fun e => by rw [eqS_nil.2 e] at hq; cases hq
 have h1 := or_len (N := seen) (M := at_) hd
 have h2 := toL_len_le (seen ||| at_)
 have h3 : 0 < (toL at_).length := List.length_pos_iff.2 hne
 cases f with
 | zero => omega
 | succ f =>
  refine ⟨f,rfl,by omega, ?_⟩
  rw [shortF,if_pos (anyB_iff.2 hne)]
theorem shortF_nil {E : List ((Int × Int) × Thing)} {may last f at_ seen : Nat} {n : Int} (hq : eqS at_ 0 = true) : shortF E may last f at_ seen n = 0 := by
 cases f with
 | zero => rfl
 | succ f => rw [shortF,if_neg (fun h => anyB_iff.1 h (eqS_nil.1 hq))]
theorem eqS_any (N : Nat) : eqS N 0 = !anyB N := by
 have h1 := eqS_nil (N := N)
 have h2 := anyB_iff (N := N)
 generalize toL N = l at *
 cases h3 : eqS N 0 <;> cases h4 : anyB N <;> simp_all
theorem last_at {w : World} {b off : Nat} {L : List Int} (h : SlAt encI 1 w (some ⟨b,off,none⟩) L) (h1 : 1 ≤ L.length) : ∀ W,Ext w W → W.cell? ⟨b,off + (L.length - 1),none⟩ = some (.int .i64 (L.getLastD 0)) := by
 have := atEI h (i := L.length - 1) (by omega)
 intro W hW
 rw [this W hW]
 have hne : L ≠ [] := by rintro rfl; simp at h1
 rw [← List.getLast_eq_getElem hne,List.getLastD_eq_getLast?,List.getLast?_eq_some_getLast hne]
 rfl
set_option maxRecDepth 100000 in
set_option maxHeartbeats 16000000 in
theorem short_any (A : Option Addr) (L : List Int) (cL : Nat) (og : Option Addr) (V : List (Int × Thing)) (E : List ((Int × Int) × Thing)) (w : World) (hL : SlAt encI 1 w A L) (h2 : 2 ≤ L.length) (hl : L.length ≤ 3000) (hcL : L.length ≤ cL) (hr : ∀ x ∈ L,0 ≤ x ∧ x < 1024) (hg : GL w og V E) (hT : Tab w) :
  Calls Tryz.prog 53 #[.slice A L.length cL, .pointer og] w fun e w' => e = .returned (.int .i64 (shortS V E L)) ∧ Ext w w' := by
 obtain ⟨b,off,rfl,hcc⟩ := atI hL (i := 0) (by omega)
 clear hcc
 have hL' := hide hL
 have hg' := hide hg
 have hT' := hide hT
 have hr' := hide hr
 obtain ⟨n,hn⟩ : ∃ n,n = L.length := ⟨_,rfl⟩
 obtain ⟨n1,hn1⟩ : ∃ n1,n1 + 1 = n := ⟨n - 1,by omega⟩
 have hwn : IntKind.i64.wrap ((n : Int) - 1) = (n1 : Int) := by
  rw [show (n : Int) - 1 = (n1 : Int) by omega]
  exact IntWalk.i64_in _ (by omega)
 have hwn2 : IntKind.i64.wrap ((n : Int) + 1) = (n : Int) + 1 := IntWalk.i64_in _ (by omega)
 have hnx := hide (fun (W : World) (hW : Ext w W) => by
  have h := next_any (some ⟨b,off,none⟩) L cL og V E W (hL.ext hW) h2 (by omega) hcL hr (hg.ext hW)
  rw [← hn] at h
  exact h)
 have hdef : shortS V E L = shortF E (nextW V E L) (lastW V E L) 1025 (fromS [L.getLastD 0]) 0 ((L.length : Int) + 1) := rfl
 generalize nextW V E L = nx at hnx hdef
 generalize lastW V E L = la at hnx hdef
 have hlast := last_at hL (by omega)
 rw [show L.length - 1 = n1 by omega] at hlast
 have hlast' := hide hlast
 have hlt1 : n1 < n := by omega
 have hlt2 : (n1 : Int) < (n : Int) := by omega
 obtain ⟨xl,hxl⟩ : ∃ xl,xl = L.getLastD 0 := ⟨_,rfl⟩
 rw [← hxl] at hlast'
 rw [← hxl, ← hn] at hdef
 have hz0 := hide hdef
 have hxl' := hide hxl
 rw [← hn]
 have hn' := hide hn
 have hnb := hide (show 2 ≤ n ∧ n ≤ 3000 by omega)
 clear hL hg hT hr hn hn1 hcL hl h2 hlast hxl hdef hxl'
 have hP := hide (Sp.new w)
 refine callsIn_wide.1 (callsIn_of_wp_marks (n := 0) Tryz.func53 rfl trivial (wpIn_wide.2 ?_))
 simp only [Tryz.ntmps53,List.size_toArray,List.length_cons,List.length_nil,Nat.reduceAdd,Nat.reduceSub,Array.replicate_succ,Array.replicate_zero,List.push_toArray,List.append_toArray,List.nil_append,List.cons_append]
 try dsimp only
 repeat ((fail_if_success (with_reducible refine wp_reg (id := 0) ?_)); (first | go_values | go_skip | go_step | go_guarded | go_upon | go_in | go_back | fail))
 with_reducible refine wp_reg (id := 0) ?_
 refine (unhide hP).allocO 24 #[.pointer og] rfl (run_box (v := .pointer og) rfl rfl) ?_
 intro bg y1 hQ
 replace hP : Hid (Sp w [] w [] [(bg,24, #[.pointer og])] [] y1) := hide hQ
 clear hQ
 refine wpO_want rfl ?_
 go_simp
 refine wpO_done ?_
 try go_frame
 try dsimp only
 repeat ((fail_if_success (with_reducible refine wp_reg (id := 1) ?_)); (first | go_values | go_skip | go_step | go_guarded | go_upon | go_in | go_back | fail))
 with_reducible refine wp_reg (id := 1) ?_
 refine wpO_want rfl ?_
 go_simp
 refine wpO_val rfl (load_V (v := .pointer og) rfl rfl (by simp [go_sem]) (((unhide hP).get 0 rfl).cell 0)) ?_
 go_frame
 refine wpO_want rfl ?_
 go_simp
 refine (unhide hnx _ (unhide hP).extf).mono ?_
 rintro _ y2 ⟨rfl,hxc⟩
 refine ⟨_,rfl, ?_⟩
 replace hP : Hid (Sp w [] w [] [(bg,24, #[.pointer og])] [] y2) := hide ((unhide hP).ext hxc)
 clear hxc
 generalize htu0 : Value.tuple _ = tu
 have htu := hide htu0
 clear htu0
 refine wpO_val rfl (run_move rfl rfl) ?_
 go_frame
 refine wpO_val rfl (run_extract (i := 0) (v := .agg (setC nx)) rfl (unhide htu).symm rfl) ?_
 go_frame
 refine wpO_val rfl (run_extract (i := 1) (v := .agg (setC la)) rfl (unhide htu).symm rfl) ?_
 go_frame
 refine (unhide hP).allocO 51 (setC 0) rfl (run_alloc_set rfl) ?_
 intro bm y3 hQ
 replace hP : Hid (Sp w [] w [] [(bg,24, #[.pointer og]),(bm,51,setC 0)] [] y3) := hide hQ
 clear hQ
 refine (unhide hP).allocO 51 (setC 0) rfl (run_alloc_set rfl) ?_
 intro bl y4 hQ
 replace hP : Hid (Sp w [] w [] [(bg,24, #[.pointer og]),(bm,51,setC 0),(bl,51,setC 0)] [] y4) := hide hQ
 clear hQ
 refine (unhide hP).setO 1 (setC nx) rfl rfl (fun hb => store_SetR (N := nx) rfl rfl rfl hb) ?_
 intro y5 hQ
 replace hP : Hid (Sp w [] w [] [(bg,24, #[.pointer og]),(bm,51,setC nx),(bl,51,setC 0)] [] y5) := hide hQ
 clear hQ
 refine (unhide hP).setO 2 (setC la) rfl rfl (fun hb => store_SetR (N := la) rfl rfl rfl hb) ?_
 intro y6 hQ
 replace hP : Hid (Sp w [] w [] [(bg,24, #[.pointer og]),(bm,51,setC nx),(bl,51,setC la)] [] y6) := hide hQ
 clear hQ
 refine wpO_done ?_
 try go_frame
 clear hnx
 have ql := unhide hlast' _ (unhide hP).extf
 try dsimp only
 repeat ((fail_if_success (with_reducible refine wp_reg (id := 2) ?_)); (first | go_values | go_skip | go_step | go_guarded | go_upon | go_in | go_back | fail))
 with_reducible refine wp_reg (id := 2) ?_
 iterate 6
  refine wpO_want rfl ?_
  go_simp
 clear ql
 refine (unhide hP).build1O 3 #[.int .i64 xl] rfl (run_build1 rfl rfl) ?_
 intro bt y7 hQ
 replace hP : Hid (Sp w [] w [] [(bg,24, #[.pointer og]),(bm,51,setC nx),(bl,51,setC la),(bt,3, #[.int .i64 xl])] [] y7) := hide hQ
 clear hQ
 refine wpO_want rfl ?_
 go_simp
 refine (of_any _ [xl] 1 _ (slat_one ((unhide hP).get 3 rfl)) (by simp)).mono ?_
 rintro _ y8 ⟨rfl,hxc⟩
 refine ⟨_,rfl, ?_⟩
 replace hP : Hid (Sp w [] w [] [(bg,24, #[.pointer og]),(bm,51,setC nx),(bl,51,setC la),(bt,3, #[.int .i64 xl])] [] y8) := hide ((unhide hP).ext hxc)
 clear hxc
 refine wpO_want rfl ?_
 go_simp
 replace hP : Hid (Sp w [] w [] [(bg,24, #[.pointer og]),(bm,51,setC nx),(bl,51,setC la)] [] y8) := hide ((unhide hP).sub (List.sublist_append_left _ ([(bt,3, #[.int .i64 xl])] : List Cl)) (List.Sublist.refl _))
 refine (unhide hP).allocO 51 (setC 0) rfl (run_alloc_set rfl) ?_
 intro ba y9 hQ
 replace hP : Hid (Sp w [] w [] [(bg,24, #[.pointer og]),(bm,51,setC nx),(bl,51,setC la),(ba,51,setC 0)] [] y9) := hide hQ
 clear hQ
 refine (unhide hP).allocO 51 (setC 0) rfl (run_alloc_set rfl) ?_
 intro bs y10 hQ
 replace hP : Hid (Sp w [] w [] [(bg,24, #[.pointer og]),(bm,51,setC nx),(bl,51,setC la),(ba,51,setC 0),(bs,51,setC 0)] [] y10) := hide hQ
 clear hQ
 refine (unhide hP).setO 3 (setC (fromS [xl])) rfl rfl (fun hb => store_SetR (N := fromS [xl]) rfl rfl rfl hb) ?_
 intro y11 hQ
 replace hP : Hid (Sp w [] w [] [(bg,24, #[.pointer og]),(bm,51,setC nx),(bl,51,setC la),(ba,51,setC (fromS [xl])),(bs,51,setC 0)] [] y11) := hide hQ
 clear hQ
 refine (unhide hP).setO 4 (setC 0) rfl rfl (fun hb => store_SetR (N := 0) rfl rfl rfl hb) ?_
 intro y12 hQ
 replace hP : Hid (Sp w [] w [] [(bg,24, #[.pointer og]),(bm,51,setC nx),(bl,51,setC la),(ba,51,setC (fromS [xl])),(bs,51,setC 0)] [] y12) := hide hQ
 clear hQ
 refine wpO_done ?_
 try go_frame
 go_wp2_with fail
 have hP0 := unhide hP
 clear hP
 refine wp_loop_ix (fun f a' wr => ∃ (at_ seen : Nat) (z : Int),a'.tmps.size = 57 ∧ a'.tmps.getD 3 undef = .pointer (some ⟨bg,0,none⟩) ∧ a'.tmps.getD 5 undef = .pointer (some ⟨bm,0,none⟩) ∧ a'.tmps.getD 6 undef = .pointer (some ⟨bl,0,none⟩) ∧ a'.tmps.getD 7 undef = .pointer (some ⟨ba,0,none⟩) ∧ a'.tmps.getD 8 undef = .pointer (some ⟨bs,0,none⟩) ∧ a'.tmps.getD 9 undef = .int .i64 z ∧ Sp w [] w a'.defers [(bg,24, #[.pointer og]),(bm,51,setC nx),(bl,51,setC la),(ba,51,setC at_),(bs,51,setC seen)] [] wr ∧ 1025 ≤ f + (toL seen).length ∧ (∀ x ∈ toL at_,x ∉ toL seen) ∧ 0 < z ∧ z + f ≤ 5000 ∧ shortS V E L = shortF E (nx) (la) f at_ seen z) 1025 ?_ ?_
 ·exact ⟨fromS [xl],0,(n : Int) + 1,rfl,rfl,rfl,rfl,rfl,rfl,rfl,hP0,by omega,fun x _ h => (by have h0 := (mem_toL'.1 h).2.2; rw [Nat.zero_testBit] at h0; cases h0),by omega,by have := unhide hnb; omega,unhide hz0⟩
 ·clear hP0 hz0
  rintro f ⟨tm,ds⟩ wr ⟨at_,seen,z,hsz,e3,e5,e6,e7,e8,e9,hP0,hf,hd,hz,hzf,hs⟩
  obtain ⟨us,rfl⟩ : ∃ us : Nat → Value,tm = #[us 0,us 1,us 2,us 3,us 4,us 5,us 6,us 7,us 8,us 9,us 10,us 11,us 12,us 13,us 14,us 15,us 16,us 17,us 18,us 19,us 20,us 21,us 22,us 23,us 24,us 25,us 26,us 27,us 28,us 29,us 30,us 31,us 32,us 33,us 34,us 35,us 36,us 37,us 38,us 39,us 40,us 41,us 42,us 43,us 44,us 45,us 46,us 47,us 48,us 49,us 50,us 51,us 52,us 53,us 54,us 55,us 56] := ⟨fun i => tm.getD i undef,arr_fn hsz⟩
  have h3 : us 3 = .pointer (some ⟨bg,0,none⟩) := e3
  have h5 : us 5 = .pointer (some ⟨bm,0,none⟩) := e5
  have h6 : us 6 = .pointer (some ⟨bl,0,none⟩) := e6
  have h7 : us 7 = .pointer (some ⟨ba,0,none⟩) := e7
  have h8 : us 8 = .pointer (some ⟨bs,0,none⟩) := e8
  have h9 : us 9 = .int .i64 z := e9
  clear hsz e3 e5 e6 e7 e8 e9
  simp only [h3,h5,h6,h7,h8,h9]
  clear h3 h5 h6 h7 h8 h9
  dsimp only at hP0
  have hP := hide hP0
  have hf' := hide hf
  have hd' := hide hd
  have hz' := hide (And.intro hz hzf)
  have hs' := hide hs
  clear hP0 hf hd hz hzf hs
  obtain ⟨q,hq⟩ : ∃ q,eqS at_ 0 = q := ⟨_,rfl⟩
  have hq' := hide hq
  have hE := fun w => empty_any at_ w
  simp only [hq] at hE
  clear hq
  try dsimp only
  repeat ((fail_if_success (with_reducible refine wp_reg (id := 4) ?_)); (first | go_values | go_skip | go_step | go_guarded | go_upon | go_in | go_back | fail))
  with_reducible refine wp_reg (id := 4) ?_
  refine wpO_val rfl (load_SetR (N := at_) rfl rfl ((unhide hP).get 3 rfl).whole) ?_
  refine wpO_want rfl ?_
  go_simp
  refine (hE _).mono ?_
  rintro _ y13 ⟨rfl,hxc⟩
  refine ⟨_,rfl, ?_⟩
  replace hP : Hid (Sp w [] w ds [(bg,24, #[.pointer og]),(bm,51,setC nx),(bl,51,setC la),(ba,51,setC at_),(bs,51,setC seen)] [] y13) := hide ((unhide hP).ext hxc)
  clear hxc
  refine wpO_want rfl ?_
  go_simp
  refine wpO_done ?_
  try go_frame
  clear hE
  cases q
  ·-- not empty
   obtain ⟨f',hf2,hf3,hst⟩ := shortF_step (E := E) (may := nx) (last := la) (n := z) (unhide hf') (unhide hd') (unhide hq')
   have hf2' := hide hf2
   have hf3' := hide hf3
   have hst' := hide hst
   clear hf2 hf3 hst
   try dsimp only
   repeat ((fail_if_success (with_reducible refine wp_reg (id := 6) ?_)); (first | go_values | go_skip | go_step | go_guarded | go_upon | go_in | go_back | fail))
   with_reducible refine wp_reg (id := 6) ?_
   refine (unhide hP).allocO 51 (setC 0) rfl (run_alloc_set rfl) ?_
   intro bn y14 hQ
   replace hP : Hid (Sp w [] w ds [(bg,24, #[.pointer og]),(bm,51,setC nx),(bl,51,setC la),(ba,51,setC at_),(bs,51,setC seen),(bn,51,setC 0)] [] y14) := hide hQ
   clear hQ
   refine wpO_done ?_
   try go_frame
   try dsimp only
   repeat ((fail_if_success (with_reducible refine wp_reg (id := 7) ?_)); (first | go_values | go_skip | go_step | go_guarded | go_upon | go_in | go_back | fail))
   with_reducible refine wp_reg (id := 7) ?_
   refine wpO_val rfl (load_SetR (N := at_) rfl rfl ((unhide hP).get 3 rfl).whole) ?_
   refine wpO_want rfl ?_
   go_simp
   refine (all_ext at_ _).mono ?_
   rintro _ y15 ⟨bi,rfl,hBa0,hxc⟩
   refine ⟨_,rfl, ?_⟩
   replace hP : Hid (Sp w [] w ds [(bg,24, #[.pointer og]),(bm,51,setC nx),(bl,51,setC la),(ba,51,setC at_),(bs,51,setC seen),(bn,51,setC 0)] [] y15) := hide ((unhide hP).ext hxc)
   have hBa := hide hBa0
   clear hxc hBa0
   refine wpO_done ?_
   try go_frame
   go_wp2_with fail
   refine wp_rngS (gf := 78) (lb := #[.pointer (some ⟨bi,0,none⟩)]) (unhide hP) rfl (enters_of Tryz.func78 (by kernel_rfl) rfl) (ex := [0]) ((unhide hP).tab (unhide hT')) (all_iter at_ bi y15 (unhide hBa) ((unhide hT').ext (unhide hP).extf)) (fun _ => rfl)
    (fun pre L' Rs' => L' = [(bg,24, #[.pointer og]),(bm,51,setC nx),(bl,51,setC la),(ba,51,setC at_),(bs,51,setC seen),(bn,51,setC (pre.foldl (fun a v => a ||| nearS v E) 0))] ∧ Rs' = [])
    (fun _ _ _ => False)
    (fun tm _ v a1 _ => a1 = ⟨(tm.setIfInBounds 37 (.int .i64 v)).setIfInBounds 11 (.int .i64 v),[]⟩)
    (fun _ _ _ _ _ h _ => h) ⟨rfl,rfl⟩ ?_ ?_ ?_ ?_
   ·intro T' v W' K hlt' hsz hK
    have hK' := hide hK
    have hlt2 := hide hlt'
    have hsz2 := hide hsz
    clear hK hlt' hsz
    rw [zip1]
    simp only [List.setIfInBounds_toArray,List.set_cons_succ,List.set_cons_zero]
    try dsimp only
    repeat ((fail_if_success (with_reducible refine wpI_reg (id := 8) (by kernel_rfl) ?_)); (first | go_values | gi_step | gi_guarded | gi_upon | gi_in | gi_back | fail))
    with_reducible refine wpI_reg (id := 8) (by kernel_rfl) ?_
    refine wpO_want rfl ?_
    go_simp
    refine wpO_done ?_
    try go_frame
    exact unhide hK' _ _ rfl (Ext.refl _)
   ·rintro l pre v a1 L' Rs' W' ⟨rfl,rfl⟩ hB0 rfl hpx hl hkW htW
    simp only [List.setIfInBounds_toArray,List.set_cons_succ,List.set_cons_zero]
    obtain ⟨R,hR⟩ : ∃ R,R = pre.foldl (fun a v => a ||| nearS v E) 0 := ⟨_,rfl⟩
    rw [← hR] at hB0 ⊢
    have hR' := hide hR
    have hB := hide hB0
    clear hB0 hR hpx hl hkW htW
    gi_wp2_with fail
    refine wpI_regionK (P := Tryz.prog) [] [0,1,2,3,4] [5] 1 #[true,true,true,true,true,false] (by kernel_rfl) (by kernel_rfl) (by kernel_rfl) rfl (by rfl) ?_
    refine ql_want (v := .agg (setC R)) rfl (by rfl) (fun W hW => qUpon_ofX (load_SetR rfl rfl ((unhide hB).wholeK 5 rfl hW (by simp)))) ?_
    go_frame
    refine ql_want (v := .pointer og) rfl (by rfl) (fun W hW => qUpon_ofX (load_V rfl rfl (by simp [go_sem]) ((unhide hB).cellK 0 0 rfl rfl (by simp) W hW))) ?_
    go_frame
    iterate 1
     refine ql_want (v := ?_) rfl (by rfl) (fun W hW => ?_) ?_
     rotate_left
     ·go_simp
      first | done | rfl
     go_frame
    refine ql_want (v := .agg (setC (nearS v E))) rfl (by rfl) (fun W hW => ?_) ?_
    ·go_simp
     refine (nearG og V E v W ((unhide hg').ext ((unhide hB).extf.trans ((Ext.refl _).of_new hW (by simp))))).mono ?_
     rintro _ _ ⟨h1,h2⟩
     exact ⟨_,h1,rfl,h2⟩
    go_frame
    refine ql_want (v := .agg (setC (R ||| nearS v E))) rfl (by rfl) (fun W hW => ?_) ?_
    ·go_simp
     refine (union_any _ _ W).mono ?_
     rintro _ _ ⟨h1,h2⟩
     exact ⟨_,h1,rfl,h2⟩
    go_frame
    refine wpQL_nil (fun y16 hxq => ?_)
    replace hB : Hid (Sp w (stT [(bg,24, #[.pointer og]),(bm,51,setC nx),(bl,51,setC la),(ba,51,setC at_),(bs,51,setC seen),(bn,51,setC R)] []) W' [] [(bg,24, #[.pointer og]),(bm,51,setC nx),(bl,51,setC la),(ba,51,setC at_),(bs,51,setC seen),(bn,51,setC R)] [] y16) := hide ((unhide hB).ext hxq)
    clear hxq
    refine (unhide hB).setX 5 (setC (R ||| nearS v E)) rfl (j := 5) (by kernel_rfl) rfl (by rfl) #[true,true,true,true,true,true] (by rfl) rfl (fun hb => store_SetR (N := R ||| nearS v E) rfl (by rfl) (by rfl) hb) ?_
    intro y17 hQ
    replace hB : Hid (Sp w (stT [(bg,24, #[.pointer og]),(bm,51,setC nx),(bl,51,setC la),(ba,51,setC at_),(bs,51,setC seen),(bn,51,setC R)] []) W' [] [(bg,24, #[.pointer og]),(bm,51,setC nx),(bl,51,setC la),(ba,51,setC at_),(bs,51,setC seen),(bn,51,setC (R ||| nearS v E))] [] y17) := hide hQ
    clear hQ
    try go_frame
    refine wpX_done (by kernel_rfl) ?_
    try go_frame
    gi_wp2_with fail
    exact ⟨_,_,⟨by rw [List.foldl_append, ← unhide hR']; rfl,rfl⟩,unhide hB⟩
   ·rintro D L' Rs' W' ⟨rfl,rfl⟩ hkW hP0
    generalize ({ target := .collected D,args := #[] } :: ds : List Deferred) = ds2 at hP0 ⊢
    clear hkW hP hBa
    have hP : Hid (Sp w [] w ds2 [(bg,24, #[.pointer og]),(bm,51,setC nx),(bl,51,setC la),(ba,51,setC at_),(bs,51,setC seen),(bn,51,setC (nearU E at_))] [] W') := hide hP0
    clear hP0
    obtain ⟨q2,hq2⟩ : ∃ q2,eqS (nearU E at_ &&& la) 0 = q2 := ⟨_,rfl⟩
    have hq2' := hide hq2
    have hE := fun w => empty_any (nearU E at_ &&& la) w
    simp only [hq2] at hE
    clear hq2
    try dsimp only
    repeat ((fail_if_success (with_reducible refine wp_reg (id := 10) ?_)); (first | go_values | go_skip | go_step | go_guarded | go_upon | go_in | go_back | fail))
    with_reducible refine wp_reg (id := 10) ?_
    refine wpO_val rfl (load_SetR (N := (nearU E at_)) rfl rfl ((unhide hP).get 5 rfl).whole) ?_
    refine wpO_val rfl (load_SetR (N := la) rfl rfl ((unhide hP).get 2 rfl).whole) ?_
    refine wpO_want rfl ?_
    go_simp
    refine (inter_any _ _ _).mono ?_
    rintro _ y18 ⟨rfl,hxc⟩
    refine ⟨_,rfl, ?_⟩
    replace hP : Hid (Sp w [] w ds2 [(bg,24, #[.pointer og]),(bm,51,setC nx),(bl,51,setC la),(ba,51,setC at_),(bs,51,setC seen),(bn,51,setC (nearU E at_))] [] y18) := hide ((unhide hP).ext hxc)
    clear hxc
    refine wpO_want rfl ?_
    go_simp
    refine (hE _).mono ?_
    rintro _ y19 ⟨rfl,hxc⟩
    refine ⟨_,rfl, ?_⟩
    replace hP : Hid (Sp w [] w ds2 [(bg,24, #[.pointer og]),(bm,51,setC nx),(bl,51,setC la),(ba,51,setC at_),(bs,51,setC seen),(bn,51,setC (nearU E at_))] [] y19) := hide ((unhide hP).ext hxc)
    clear hxc
    refine wpO_want rfl ?_
    go_simp
    refine wpO_done ?_
    try go_frame
    clear hE
    cases q2
    ·-- a way closes
     go_wp2_with fail
     refine (unhide hP).leaves ?_
     intro w' hx hst
     refine ⟨_,results_tmp rfl _ _ _, ?_,hx⟩
     have h1 := unhide hq2'
     rw [eqS_any,Bool.not_eq_false'] at h1
     rw [unhide hs',unhide hst',if_pos h1]
     rfl
    ·-- on
     try dsimp only
     repeat ((fail_if_success (with_reducible refine wp_reg (id := 12) ?_)); (first | go_values | go_skip | go_step | go_guarded | go_upon | go_in | go_back | fail))
     with_reducible refine wp_reg (id := 12) ?_
     refine wpO_val rfl (load_SetR (N := seen) rfl rfl ((unhide hP).get 4 rfl).whole) ?_
     refine wpO_val rfl (load_SetR (N := at_) rfl rfl ((unhide hP).get 3 rfl).whole) ?_
     refine wpO_want rfl ?_
     go_simp
     refine (union_any _ _ _).mono ?_
     rintro _ y20 ⟨rfl,hxc⟩
     refine ⟨_,rfl, ?_⟩
     replace hP : Hid (Sp w [] w ds2 [(bg,24, #[.pointer og]),(bm,51,setC nx),(bl,51,setC la),(ba,51,setC at_),(bs,51,setC seen),(bn,51,setC (nearU E at_))] [] y20) := hide ((unhide hP).ext hxc)
     clear hxc
     refine (unhide hP).setO 4 (setC (seen ||| at_)) rfl rfl (fun hb => store_SetR (N := seen ||| at_) rfl rfl rfl hb) ?_
     intro y21 hQ
     replace hP : Hid (Sp w [] w ds2 [(bg,24, #[.pointer og]),(bm,51,setC nx),(bl,51,setC la),(ba,51,setC at_),(bs,51,setC (seen ||| at_)),(bn,51,setC (nearU E at_))] [] y21) := hide hQ
     clear hQ
     refine wpO_done ?_
     try go_frame
     have hwz : IntKind.i64.wrap (z + 1) = z + 1 := IntWalk.i64_in _ (by have := unhide hz'; omega)
     go_wp2_with fail
     refine wp_regionK (P := Tryz.prog) [] [0,1,2,3,4] [5] 1 #[true,true,true,true,true,false] (by kernel_rfl) (by kernel_rfl) rfl (by rfl) ?_
     refine ql_want (v := .agg (setC (nearU E at_))) rfl (by rfl) (fun W hW => qUpon_ofX (load_SetR rfl rfl ((unhide hP).wholeK 5 rfl hW (by simp)))) ?_
     go_frame
     refine ql_want (v := .agg (setC nx)) rfl (by rfl) (fun W hW => qUpon_ofX (load_SetR rfl rfl ((unhide hP).wholeK 1 rfl hW (by simp)))) ?_
     go_frame
     refine ql_want (v := .agg (setC (nearU E at_ &&& nx))) rfl (by rfl) (fun W hW => ?_) ?_
     ·go_simp
      refine (inter_any _ _ W).mono ?_
      rintro _ _ ⟨h1,h2⟩
      exact ⟨_,h1,rfl,h2⟩
     go_frame
     refine ql_want (v := .agg (setC (seen ||| at_))) rfl (by rfl) (fun W hW => qUpon_ofX (load_SetR rfl rfl ((unhide hP).wholeK 4 rfl hW (by simp)))) ?_
     go_frame
     refine ql_want (v := .agg (setC (minusS (nearU E at_ &&& nx) (seen ||| at_)))) rfl (by rfl) (fun W hW => ?_) ?_
     ·go_simp
      refine (minus_any _ _ W).mono ?_
      rintro _ _ ⟨h1,h2⟩
      exact ⟨_,h1,rfl,h2⟩
     go_frame
     refine wpQL_nil (fun y22 hxq => ?_)
     replace hP : Hid (Sp w [] w ds2 [(bg,24, #[.pointer og]),(bm,51,setC nx),(bl,51,setC la),(ba,51,setC at_),(bs,51,setC (seen ||| at_)),(bn,51,setC (nearU E at_))] [] y22) := hide ((unhide hP).ext hxq)
     clear hxq
     refine (unhide hP).setX 3 (setC (minusS (nearU E at_ &&& nx) (seen ||| at_))) rfl (j := 5) (by kernel_rfl) rfl (by rfl) #[true,true,true,true,true,true] (by rfl) rfl (fun hb => store_SetR (N := minusS (nearU E at_ &&& nx) (seen ||| at_)) rfl (by rfl) (by rfl) hb) ?_
     intro y23 hQ
     replace hP : Hid (Sp w [] w ds2 [(bg,24, #[.pointer og]),(bm,51,setC nx),(bl,51,setC la),(ba,51,setC (minusS (nearU E at_ &&& nx) (seen ||| at_))),(bs,51,setC (seen ||| at_)),(bn,51,setC (nearU E at_))] [] y23) := hide hQ
     clear hQ
     try go_frame
     refine wpX_done (by kernel_rfl) ?_
     try go_frame
     go_wp2_with fail
     have h1 := unhide hq2'
     rw [eqS_any,Bool.not_eq_true'] at h1
     have h2 := unhide hz'
     have h3 := unhide hf2'
     refine ⟨f',⟨minusS (nearU E at_ &&& nx) (seen ||| at_),seen ||| at_,z + 1,rfl,rfl,rfl,rfl,rfl,rfl,rfl,(unhide hP).sub (List.sublist_append_left _ ([(bn,_,_)] : List Cl)) (List.Sublist.refl _),unhide hf3',fun x hx => (mem_minus.1 hx).2,by omega,by omega, ?_⟩,by omega⟩
     rw [unhide hs',unhide hst',if_neg (by rw [h1]; simp)]
   ·intro D c L' Rs' W' h
    exact h.elim
  ·-- nothing left
   go_wp2_with fail
   refine (unhide hP).leaves ?_
   intro w' hx hst
   refine ⟨_,results_tmp rfl _ _ _, ?_,hx⟩
   rw [unhide hs',shortF_nil (unhide hq')]
   rfl
end Go.Proofs.YtmfkkkhddigkfaaGreatDoor
