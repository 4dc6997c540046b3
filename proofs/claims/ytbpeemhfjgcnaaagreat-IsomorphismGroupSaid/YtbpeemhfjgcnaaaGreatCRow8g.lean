/- Every input makes the law IsomorphismGroup answer true, and each argument reads behind the call as it read before: the given statement. No condition. -/
import Derived.Test.YtbpeemhfjgcnaaaGreatC38
import Derived.Test.YtbpeemhfjgcnaaaGreatC42
import Derived.Test.YtbpeemhfjgcnaaaGreatC24
import Derived.WalkKit
import Derived.ProofKit
import Derived.OpenShut
import Derived.ShutString
import Derived.ChangeOld
import Derived.Below
import Derived.Test.YtbpeemhfjgcnaaaGreatC43
namespace Go.Proofs.YtbpeemhfjgcnaaaGreat
open Go Go.RowKit Go.Shelf
attribute [local go_sem] qUpon lUpon
attribute [local irreducible] wpO wpX wpQL
theorem fact_small : ∀ n,n ≤ 7 → fact n ≤ 5040 := by
 intro n h
 rcases n with _ | _ | _ | _ | _ | _ | _ | _ | n
 all_goals first | decide | omega
theorem dec_of {a b : Int} (h : a = b) : (a != b) = false := by simp [h]
theorem map_tr_step {a b ids : List Int} {n : Nat} (h : n < a.length) : (a.take (n + 1)).map (tr ids b) = (a.take n).map (tr ids b) ++ [tr ids b a[n]] := by rw [List.take_succ_eq_append_getElem h,List.map_append]; rfl
set_option maxRecDepth 100000 in
set_option maxHeartbeats 16000000 in
theorem isomorphismGroup_walk (A : Option Addr) (L : List Ed) (cL : Nat) (ki kk : Int) (w : World) (hL : SlAt encD 5 w A L) (hok : ∀ d ∈ L,okB d) (_hl9 : L.length ≤ 9223372036854775807) (_hc9 : L.length ≤ cL) (hki : 0 ≤ ki ∧ ki ≤ 65535) (hkk : 0 ≤ kk ∧ kk ≤ 65535) :
  Calls Tryz.prog 4 #[.slice A L.length cL, .int .u16 ki, .int .u16 kk] w fun e w' => e = .returned (.bool true) ∧ Ext w w' := by
 have hL' := hide hL
 have hlb := hide (mdS_lab hok)
 have hki' := hide hki
 have hkk' := hide hkk
 clear hki hkk
 clear hL hok
 have hP := hide (Sp.new w)
 refine callsIn_wide.1 (callsIn_of_wp_marks (n := 0) Tryz.func4 rfl trivial (wpIn_wide.2 ?_))
 simp only [Tryz.ntmps4,List.size_toArray,List.length_cons,List.length_nil,Nat.reduceAdd,Nat.reduceSub,Array.replicate_succ,Array.replicate_zero,List.push_toArray,List.append_toArray,List.nil_append,List.cons_append]
 try dsimp only
 repeat ((fail_if_success (with_reducible refine wp_reg (id := 1) ?_)); (first | go_values | go_skip | go_step | go_guarded | go_upon | go_in | go_back | fail))
 with_reducible refine wp_reg (id := 1) ?_
 refine wpO_want rfl ?_
 go_simp
 have hca := known08_any w
 refine hca.mono ?_
 clear hca
 rintro _ y1 ⟨rfl,hxc⟩
 refine ⟨_,rfl, ?_⟩
 replace hP : Hid (Sp w [] w [] [] [] y1) := hide ((unhide hP).ext hxc)
 clear hxc
 refine wpO_want rfl ?_
 go_simp
 refine wpO_done ?_
 try go_frame
 try dsimp only
 repeat ((fail_if_success (with_reducible refine wp_reg (id := 3) ?_)); (first | go_values | go_skip | go_step | go_guarded | go_upon | go_in | go_back | fail))
 with_reducible refine wp_reg (id := 3) ?_
 refine wpO_want rfl ?_
 go_simp
 refine wpO_want rfl ?_
 go_simp
 have hca := take_any A L cL 7 y1 ((unhide hL').ext (unhide hP).extf)
 have hi := hide (mdS_inv L)
 refine hca.mono ?_
 clear hca
 generalize mdS L = S at *
 obtain ⟨V,E⟩ := S
 try dsimp only at hi hlb ⊢
 rintro _ y2 ⟨g,bv,be,A1,B1,cA,cB,rfl,hg0,hs0,he0,hxc⟩
 refine ⟨_,rfl, ?_⟩
 replace hP : Hid (Sp w [] w [] [] [] y2) := hide ((unhide hP).ext hxc)
 have hg := hide hg0
 have hsV := hide hs0
 have hsE := hide he0
 obtain ⟨q,hq⟩ : ∃ q,q = decide ((V.length : Int) ≤ 7) := ⟨_,rfl⟩
 rw [← hq]
 have hq' := hide hq
 clear hxc hg0 hs0 he0 hq
 generalize htu0 : Value.tuple _ = tu
 have htu := hide htu0
 clear htu0
 refine wpO_val rfl (run_move rfl rfl) ?_
 go_frame
 refine wpO_val rfl (run_extract (i := 0) (v := .pointer (some ⟨g,0,none⟩)) rfl (unhide htu).symm rfl) ?_
 go_frame
 refine wpO_val rfl (run_extract (i := 1) (v := .agg #[.slice A1 V.length cA, .slice B1 E.length cB]) rfl (unhide htu).symm rfl) ?_
 go_frame
 refine wpO_val rfl (run_extract (i := 2) (v := .bool q) rfl (unhide htu).symm rfl) ?_
 go_frame
 refine (unhide hP).allocT 28 #[.slice none 0 0, .slice none 0 0] rfl (by go_simp) ?_
 intro r8 y3 hQ hxa hga
 replace hP : Hid (Sp w [] w [] [(r8,28, #[.slice none 0 0, .slice none 0 0])] [] y3) := hide hQ
 clear hQ
 try go_frame
 refine wpO_want rfl ?_
 go_simp
 refine (unhide hP).setT 0 #[.slice A1 V.length cA, .slice B1 E.length cB] rfl rfl (fun hb => run_store_row (v := .agg #[.slice A1 V.length cA, .slice B1 E.length cB]) rfl (by rfl) (by rfl) (by simp [go_sem]) hb rfl (fun u hu => by simp [Value.cells] at hu; rcases hu with rfl | rfl <;> rfl)) ?_
 intro y4 hQ hkq
 replace hP : Hid (Sp w [] w [] [(r8,28, #[.slice A1 V.length cA, .slice B1 E.length cB])] [] y4) := hide hQ
 have hxs := hxa.of_new hkq (fun x hx => by rw [List.mem_singleton] at hx; rw [hx]; exact hga)
 clear hQ hkq hxa hga
 try go_frame
 replace hg := hide ((unhide hg).ext (hxs))
 replace hsV := hide ((unhide hsV).ext (hxs))
 replace hsE := hide ((unhide hsE).ext (hxs))
 clear hxs
 refine wpO_want rfl ?_
 go_simp
 refine wpO_done ?_
 try go_frame
 clear htu
 try dsimp only
 repeat ((fail_if_success (with_reducible refine wp_reg (id := 4) ?_)); (first | go_values | go_skip | go_step | go_guarded | go_upon | go_in | go_back | fail))
 with_reducible refine wp_reg (id := 4) ?_
 iterate 2
  refine wpO_want rfl ?_
  go_simp
 refine wpO_done ?_
 try go_frame
 cases q
 ·skip
  go_wp2_with fail
  refine Sp.leaves0 ?_
  exact ⟨_,results_tmp (t := 6) rfl _ _ _,rfl,(unhide hP).extf⟩
 ·skip
  have hmo := hide (show V.length ≤ 7 by have h := of_decide_eq_true (unhide hq').symm; omega)
  clear hq'
  try dsimp only
  repeat ((fail_if_success (with_reducible refine wp_reg (id := 6) ?_)); (first | go_values | go_skip | go_step | go_guarded | go_upon | go_in | go_back | fail))
  with_reducible refine wp_reg (id := 6) ?_
  refine wpO_want rfl ?_
  go_simp
  refine wpO_want rfl ?_
  go_simp
  obtain ⟨MP,hMP0⟩ : ∃ MP,MP = mapsP V E (idsV V) V E (idsV V) := ⟨_,rfl⟩
  have hMP := hide hMP0
  have hca := autos_any g bv be V E y4 (unhide hg) (by have := unhide hmo; omega) (unhide hlb)
  refine hca.mono ?_
  clear hca
  rintro _ y5 ⟨At,nt,ct,Jt,rfl,hos,hxc⟩
  rw [← hMP0] at hos
  have hnt := hide hos.at.2
  have hss := hide hos.at.1
  refine ⟨_,rfl, ?_⟩
  replace hP : Hid (Sp w [] w [] [(r8,28, #[.slice A1 V.length cA, .slice B1 E.length cB])] [] y5) := hide ((unhide hP).ext hxc)
  replace hg := hide ((unhide hg).ext (hxc))
  replace hsV := hide ((unhide hsV).ext (hxc))
  replace hsE := hide ((unhide hsE).ext (hxc))
  clear hxc hos hMP0
  generalize htu0 : Value.tuple _ = tu
  have htu := hide htu0
  clear htu0
  refine wpO_val rfl (run_move rfl rfl) ?_
  go_frame
  refine wpO_val rfl (run_extract (i := 0) (v := .slice At nt ct) rfl (unhide htu).symm rfl) ?_
  go_frame
  refine wpO_val rfl (run_extract (i := 1) (v := .int .i64 0) rfl (unhide htu).symm rfl) ?_
  go_frame
  iterate 2
   refine wpO_want rfl ?_
   go_simp
  refine wpO_done ?_
  try go_frame
  clear htu
  have hin := hide (unhide hi).idsN
  have hmem := hide (show idsV V ∈ MP by rw [unhide hMP]; exact auto_id)
  have hlen := hide (show ∀ m ∈ MP,m.length = V.length ∧ m.Perm (idsV V) from fun m hm => by
   rw [unhide hMP] at hm
   have h := (mem_mapsP.1 hm).2.1
   exact ⟨by rw [h.length_eq,idsV_len],h⟩)
  have hdvd := hide (show nt ∣ fact V.length by
   rw [unhide hnt,unhide hMP]
   have h := auto_dvd (V := V) (E := E) (unhide hin)
   rwa [idsV_len] at h)
  have hn0 : 0 < nt := by
   rw [unhide hnt]
   exact List.length_pos_of_mem (unhide hmem)
  have hn0' := hide hn0
  have hnz : ¬ (nt : Int) = 0 := by omega
  have hnz2 : ¬ nt = 0 := by omega
  have hzq : ((nt : Int) == 0) = false := by simpa using hnz
  have hntb := hide (show nt ≤ 5040 from Nat.le_trans (Nat.le_of_dvd (fact_pos _) (unhide hdvd)) (fact_small _ (unhide hmo)))
  have hvb : (V.length : Int) ≤ 7 := by have := unhide hmo; omega
  clear hn0
  try dsimp only
  repeat ((fail_if_success (with_reducible refine wp_reg (id := 7) ?_)); (first | go_values | go_skip | go_step | go_guarded | go_upon | go_in | go_back | fail))
  with_reducible refine wp_reg (id := 7) ?_
  iterate 7
   refine wpO_want rfl ?_
   go_simp
  refine wpO_done ?_
  try go_frame
  clear hzq
  go_wp2_with fail
  have hb8 := hide ((unhide hP).get 0 rfl)
  have hbase := hide (unhide hP).extf
  clear hP
  generalize y5 = wb at *
  have hP := hide (Sp.new wb)
  obtain ⟨I5_4,hI5_40⟩ : ∃ I : Nat → Act → World → Prop,I = fun fj a' wr => ∃ (j : Nat), ∃ (x : Nat),a'.tmps.size = 123 ∧ a'.tmps.getD 1 undef = .int .u16 ki ∧ a'.tmps.getD 2 undef = .int .u16 kk ∧ a'.tmps.getD 7 undef = .pointer (some ⟨g,0,none⟩) ∧ a'.tmps.getD 8 undef = .pointer (some ⟨r8,0,none⟩) ∧ a'.tmps.getD 10 undef = .slice At nt ct ∧ a'.tmps.getD 12 undef = .int .i64 (x : Nat) ∧ a'.tmps.getD 13 undef = .int .i64 (j : Nat) ∧ a'.defers = [] ∧ 2 ≤ j ∧ j ≤ V.length + 2 ∧ x = fact (j - 1) ∧ j ≤ max (V.length + 1) 2 ∧ Sp wb [] wb [] [] [] wr ∧ fj = V.length + 2 - j := ⟨_,rfl⟩
  have hI5_4 := hide hI5_40
  clear hI5_40
  refine wp_loop_ix I5_4 (V.length + 2 - 2) ?_ ?_
  ·rw [unhide hI5_4]; exact ⟨2,1,rfl,rfl,rfl,rfl,rfl,rfl,rfl,rfl,rfl,Nat.le_refl _,by omega,rfl,by omega,unhide hP,rfl⟩
  ·rintro fj ⟨tm,dfs⟩ wr hrel
   rw [unhide hI5_4] at hrel
   obtain ⟨j,x,hsz,e1,e2,e7,e8,e10,e12,e13,hdf,hj2,hjv,hxf,hjm,hPr,hfm⟩ := hrel
   obtain ⟨us,rfl⟩ : ∃ us : Nat → Value,tm = #[us 0,us 1,us 2,us 3,us 4,us 5,us 6,us 7,us 8,us 9,us 10,us 11,us 12,us 13,us 14,us 15,us 16,us 17,us 18,us 19,us 20,us 21,us 22,us 23,us 24,us 25,us 26,us 27,us 28,us 29,us 30,us 31,us 32,us 33,us 34,us 35,us 36,us 37,us 38,us 39,us 40,us 41,us 42,us 43,us 44,us 45,us 46,us 47,us 48,us 49,us 50,us 51,us 52,us 53,us 54,us 55,us 56,us 57,us 58,us 59,us 60,us 61,us 62,us 63,us 64,us 65,us 66,us 67,us 68,us 69,us 70,us 71,us 72,us 73,us 74,us 75,us 76,us 77,us 78,us 79,us 80,us 81,us 82,us 83,us 84,us 85,us 86,us 87,us 88,us 89,us 90,us 91,us 92,us 93,us 94,us 95,us 96,us 97,us 98,us 99,us 100,us 101,us 102,us 103,us 104,us 105,us 106,us 107,us 108,us 109,us 110,us 111,us 112,us 113,us 114,us 115,us 116,us 117,us 118,us 119,us 120,us 121,us 122] := ⟨fun i => tm.getD i undef,arr_fn hsz⟩
   have h1 : us 1 = .int .u16 ki := e1
   have h2 : us 2 = .int .u16 kk := e2
   have h7 : us 7 = .pointer (some ⟨g,0,none⟩) := e7
   have h8 : us 8 = .pointer (some ⟨r8,0,none⟩) := e8
   have h10 : us 10 = .slice At nt ct := e10
   have h12 : us 12 = .int .i64 (x : Nat) := e12
   have h13 : us 13 = .int .i64 (j : Nat) := e13
   have hdf2 : dfs = [] := hdf
   subst hdf2
   clear hdf hsz e1 e2 e7 e8 e10 e12 e13
   simp only [h1,h2,h7,h8,h10,h12,h13]
   clear h1 h2 h7 h8 h10 h12 h13
   clear hP
   have hP := hide hPr
   have hfm' := hide hfm
   have hxf' := hide hxf
   have hj2' := hide hj2
   have hjm' := hide hjm
   have hjv' := hide hjv
   clear hPr hfm hxf hj2 hjm hjv
   have hxr := hide (unhide hP).extf
   have q0 := ((unhide hb8).ext (unhide hP).extf).cells 0 (v := .slice A1 V.length cA) rfl
   have hself := Ext.refl wr
   by_cases hlt : j ≤ V.length
   ·skip
    have hil : (j : Int) ≤ (V.length : Int) := by omega
    have hlt' := hide hlt
    obtain ⟨y,hy0⟩ : ∃ y,y = fact j := ⟨_,rfl⟩
    have hyx : y = x * j := by
     have h2 := unhide hj2'
     obtain ⟨m,rfl⟩ : ∃ m,j = m + 2 := ⟨j - 2,by omega⟩
     rw [hy0,unhide hxf',show m + 2 - 1 = m + 1 by omega,Nat.mul_comm]
     rfl
    have hyb : y ≤ 5040 := by rw [hy0]; exact fact_small _ (by have := unhide hmo; omega)
    have hmw : IntKind.i64.wrap ((x : Int) * (j : Int)) = (y : Int) := by
     rw [IntKind.wrap_i64,show (x : Int) * (j : Int) = (y : Int) by rw [hyx]; simp]
     omega
    have hyf := hide hy0
    have hjb : (j : Int) ≤ 7 := by have := unhide hmo; omega
    clear hy0 hyx hyb hlt
    try dsimp only
    repeat ((fail_if_success (with_reducible refine wp_reg (id := 11) ?_)); (first | go_values | go_skip | go_step | go_guarded | go_upon | go_in | go_back | fail))
    with_reducible refine wp_reg (id := 11) ?_
    iterate 5
     refine wpO_want rfl ?_
     go_simp
    refine wpO_done ?_
    try go_frame
    clear q0 hself
    try dsimp only
    repeat ((fail_if_success (with_reducible refine wp_reg (id := 13) ?_)); (first | go_values | go_skip | go_step | go_guarded | go_upon | go_in | go_back | fail))
    with_reducible refine wp_reg (id := 13) ?_
    iterate 4
     refine wpO_want rfl ?_
     go_simp
    refine wpO_done ?_
    try go_frame
    clear hmw
    go_wp2_with fail
    refine ⟨V.length + 2 - (j + 1), ?_,by have := unhide hfm'; have := unhide hlt'; omega⟩
    rw [unhide hI5_4]
    exact ⟨j + 1,y,(by first | rfl | trivial),(by first | rfl | trivial),(by first | rfl | trivial),(by first | rfl | trivial),(by first | rfl | trivial),(by first | rfl | trivial),(by first | rfl | trivial),(by first | rfl | (show _ = Value.int _ _; go_num) | go_num),(by first | rfl | trivial),by have := unhide hj2'; omega,by have := unhide hlt'; omega,(by rw [unhide hyf]; rfl),by have := unhide hlt'; omega,unhide hP,rfl⟩
   ·skip
    have hil : ¬ (j : Int) ≤ (V.length : Int) := by omega
    have hxv := hide (show x = fact V.length by
     rw [unhide hxf']
     have h1 := unhide hj2'
     have h2 := unhide hjm'
     by_cases hv : V.length = 0
     ·rw [hv,show j - 1 = 1 by omega]; rfl
     ·rw [show j - 1 = V.length by omega])
    clear hlt
    try dsimp only
    repeat ((fail_if_success (with_reducible refine wp_reg (id := 11) ?_)); (first | go_values | go_skip | go_step | go_guarded | go_upon | go_in | go_back | fail))
    with_reducible refine wp_reg (id := 11) ?_
    iterate 5
     refine wpO_want rfl ?_
     go_simp
    refine wpO_done ?_
    try go_frame
    clear q0 hself hil
    go_wp2_with fail
    obtain ⟨bt,ot,rfl,hget⟩ := (unhide hss).get (by rw [← unhide hnt]; exact unhide hn0')
    obtain ⟨u,hu⟩ : ∃ u : Nat,(u : Int) = ki := ⟨ki.toNat,by have := (unhide hki').1; omega⟩
    obtain ⟨v,hv⟩ : ∃ v : Nat,(v : Int) = kk := ⟨kk.toNat,by have := (unhide hkk').1; omega⟩
    have hub : (u : Int) ≤ 65535 := by have := (unhide hki').2; omega
    have hvb2 : (v : Int) ≤ 65535 := by have := (unhide hkk').2; omega
    subst hu
    subst hv
    obtain ⟨p,hp⟩ : ∃ p,p = u % nt := ⟨_,rfl⟩
    obtain ⟨r,hr⟩ : ∃ r,r = v % nt := ⟨_,rfl⟩
    have hpl : p < nt := by rw [hp]; exact Nat.mod_lt _ (unhide hn0')
    have hrl : r < nt := by rw [hr]; exact Nat.mod_lt _ (unhide hn0')
    have hrem1 : (u : Int).tmod (nt : Int) = (p : Int) := by rw [Int.tmod_eq_emod_of_nonneg (by omega),hp]; rfl
    have hrem2 : (v : Int).tmod (nt : Int) = (r : Int) := by rw [Int.tmod_eq_emod_of_nonneg (by omega),hr]; rfl
    have hwu : IntKind.i64.wrap (u : Int) = (u : Int) := by rw [IntKind.wrap_i64]; omega
    have hwv : IntKind.i64.wrap (v : Int) = (v : Int) := by rw [IntKind.wrap_i64]; omega
    have hpL : p < MP.length := by rw [← unhide hnt]; exact hpl
    have hrL : r < MP.length := by rw [← unhide hnt]; exact hrl
    obtain ⟨ap,cpp,hc1,hsa0⟩ := hget p hpL
    obtain ⟨ar,crr,hc2,hsb0⟩ := hget r hrL
    obtain ⟨a,ha0⟩ : ∃ a,a = MP[p] := ⟨_,rfl⟩
    obtain ⟨b,hb0⟩ : ∃ b,b = MP[r] := ⟨_,rfl⟩
    have haM := hide (show a ∈ MP by rw [ha0]; exact List.getElem_mem _)
    have hbM := hide (show b ∈ MP by rw [hb0]; exact List.getElem_mem _)
    rw [← ha0] at hc1 hsa0
    rw [← hb0] at hc2 hsb0
    rw [(unhide hlen a (unhide haM)).1] at hc1
    rw [(unhide hlen b (unhide hbM)).1] at hc2
    have hsa := hide hsa0
    have hsb := hide hsb0
    have h1 : ∀ W,Ext wr W → W.cell? ⟨bt,ot + p,none⟩ = some (.slice ap V.length cpp) := fun W hW => hc1 [] W (((unhide hxr).trans hW).keep []) (by simp)
    have h2 : ∀ W,Ext wr W → W.cell? ⟨bt,ot + r,none⟩ = some (.slice ar V.length crr) := fun W hW => hc2 [] W (((unhide hxr).trans hW).keep []) (by simp)
    have hp0 : (p : Int) < (nt : Int) := by omega
    have hr0 : (r : Int) < (nt : Int) := by omega
    have hself := Ext.refl wr
    clear hp hr hpl hrl hpL hrL hc1 hc2 hsa0 hsb0 ha0 hb0 hget
    refine wp_region_ext (P := Tryz.prog) [0,1,2,3,4,5,6,7,8,9,10,11,12,13,14,15,16,17] [] 0 #[true,true,true,true,true,true,true,true,true,true,true,true,true,true,true,true,true,true] (by kernel_rfl) (by kernel_rfl) rfl (by rfl) ?_
    iterate 18
     first
     | (refine ql_skip rfl (by rfl) ?_)
     | (refine ql_want (v := ?_) rfl (by rfl) (fun W hW => ?_) ?_; rotate_left; (go_simp; (first | done | rfl)))
     try go_frame
    refine wpQL_nil (fun y6 hxq => ?_)
    replace hP : Hid (Sp wb [] wb [] [] [] y6) := hide ((unhide hP).ext hxq)
    clear h1 h2 hp0 hr0 hself hrem1 hrem2 hub hvb2 hwu hwv hxq
    refine wpX_done (by kernel_rfl) ?_
    try go_frame
    have hrem : (x : Int).tmod (nt : Int) = 0 := by
     rw [Int.tmod_eq_emod_of_nonneg (by omega),unhide hxv]
     exact Int.emod_eq_zero_of_dvd (Int.natCast_dvd_natCast.2 (unhide hdvd))
    have hxb : (x : Int) ≤ 5040 := by rw [unhide hxv]; have := fact_small _ (unhide hmo); omega
    have hvv : ((V.length : Int) != (V.length : Int)) = false := dec_of rfl
    have q0 := ((unhide hb8).ext (unhide hP).extf).cells 0 (v := .slice A1 V.length cA) rfl
    have hself := Ext.refl y6
    try dsimp only
    repeat ((fail_if_success (with_reducible refine wp_reg (id := 15) ?_)); (first | go_values | go_skip | go_step | go_guarded | go_upon | go_in | go_back | fail))
    with_reducible refine wp_reg (id := 15) ?_
    iterate 21
     refine wpO_want rfl ?_
     go_simp
    refine wpO_done ?_
    try go_frame
    clear q0 hself hrem hxb hvv hnz hnz2
    replace hP : Hid (Sp wb [] wb [] [] [(3,1, .slice none 0 0,0,([] : List Int).flatMap encI)] y6) := hide ((unhide hP).nil 3 1)
    go_wp2_with fail
    have hal := hide (show a.length = V.length from (unhide hlen a (unhide haM)).1)
    have hbl := hide (show b.length = V.length from (unhide hlen b (unhide hbM)).1)
    obtain ⟨I6_8,hI6_80⟩ : ∃ I : Nat → Act → World → Prop,I = fun fm a' wr => ∃ (m : Nat), ∃ (Ab : Option Addr), ∃ (cb : Nat),a'.tmps.size = 123 ∧ a'.tmps.getD 8 undef = .pointer (some ⟨r8,0,none⟩) ∧ a'.tmps.getD 10 undef = .slice (some ⟨bt,ot,none⟩) nt ct ∧ a'.tmps.getD 14 undef = .slice ap V.length cpp ∧ a'.tmps.getD 15 undef = .slice ar V.length crr ∧ a'.tmps.getD 16 undef = .slice Ab m cb ∧ a'.tmps.getD 17 undef = .int .i64 (m : Nat) ∧ a'.defers = [] ∧ m ≤ V.length ∧ Sp wb [] wb [] [] [(3,1, .slice Ab m cb,m,((a.take m).map (tr (idsV V) b)).flatMap encI)] wr ∧ fm = V.length - m := ⟨_,rfl⟩
    have hI6_8 := hide hI6_80
    clear hI6_80
    refine wp_loop_ix I6_8 (V.length - 0) ?_ ?_
    ·rw [unhide hI6_8]; exact ⟨0,none,0,rfl,rfl,rfl,rfl,rfl,rfl,rfl,rfl,Nat.zero_le _,unhide hP,rfl⟩
    ·rintro fm ⟨tm,dfs⟩ wr hrel
     rw [unhide hI6_8] at hrel
     obtain ⟨m,Ab,cb,hsz,e8,e10,e14,e15,e16,e17,hdf,hmv,hPr,hfm⟩ := hrel
     obtain ⟨us,rfl⟩ : ∃ us : Nat → Value,tm = #[us 0,us 1,us 2,us 3,us 4,us 5,us 6,us 7,us 8,us 9,us 10,us 11,us 12,us 13,us 14,us 15,us 16,us 17,us 18,us 19,us 20,us 21,us 22,us 23,us 24,us 25,us 26,us 27,us 28,us 29,us 30,us 31,us 32,us 33,us 34,us 35,us 36,us 37,us 38,us 39,us 40,us 41,us 42,us 43,us 44,us 45,us 46,us 47,us 48,us 49,us 50,us 51,us 52,us 53,us 54,us 55,us 56,us 57,us 58,us 59,us 60,us 61,us 62,us 63,us 64,us 65,us 66,us 67,us 68,us 69,us 70,us 71,us 72,us 73,us 74,us 75,us 76,us 77,us 78,us 79,us 80,us 81,us 82,us 83,us 84,us 85,us 86,us 87,us 88,us 89,us 90,us 91,us 92,us 93,us 94,us 95,us 96,us 97,us 98,us 99,us 100,us 101,us 102,us 103,us 104,us 105,us 106,us 107,us 108,us 109,us 110,us 111,us 112,us 113,us 114,us 115,us 116,us 117,us 118,us 119,us 120,us 121,us 122] := ⟨fun i => tm.getD i undef,arr_fn hsz⟩
     have h8 : us 8 = .pointer (some ⟨r8,0,none⟩) := e8
     have h10 : us 10 = .slice (some ⟨bt,ot,none⟩) nt ct := e10
     have h14 : us 14 = .slice ap V.length cpp := e14
     have h15 : us 15 = .slice ar V.length crr := e15
     have h16 : us 16 = .slice Ab m cb := e16
     have h17 : us 17 = .int .i64 (m : Nat) := e17
     have hdf2 : dfs = [] := hdf
     subst hdf2
     clear hdf hsz e8 e10 e14 e15 e16 e17
     simp only [h8,h10,h14,h15,h16,h17]
     clear h8 h10 h14 h15 h16 h17
     clear hxr
     clear hP
     have hP := hide hPr
     have hfm' := hide hfm
     have hmv' := hide hmv
     clear hPr hfm hmv
     have hxr := hide (unhide hP).extf
     by_cases hlt : m < V.length
     ·skip
      have hil : (m : Int) < (V.length : Int) := by omega
      have hlt' := hide hlt
      have hmb : (m : Int) ≤ 7 := by omega
      have hma : m < a.length := by rw [unhide hal]; exact hlt
      have hst := hide (map_tr_step (b := b) (ids := idsV V) hma)
      have hxm := hide (show a[m] ∈ idsV V from (unhide hlen a (unhide haM)).2.mem_iff.1 (List.getElem_mem hma))
      obtain ⟨ba,oa,rfl,ca⟩ := atI ((unhide hsa).ext (unhide hxr)) hma
      obtain ⟨z,hz0⟩ : ∃ z,z = a[m] := ⟨_,rfl⟩
      rw [← hz0] at hst hxm ca
      obtain ⟨jj,hjj,hpos,_,htr⟩ := pos_ids (unhide hxm)
      have hjb : jj < b.length := by rw [unhide hbl]; exact hjj
      obtain ⟨bb,ob,rfl,cb2⟩ := atI ((unhide hsb).ext (unhide hxr)) hjb
      obtain ⟨t9,ht9⟩ : ∃ t,t = b[jj] := ⟨_,rfl⟩
      have htz : tr (idsV V) b z = t9 := by rw [htr,ht9]; exact getD_at hjb
      rw [htz] at hst
      rw [← ht9] at cb2
      have hpos' := hide hpos
      have hjl : (jj : Int) < (V.length : Int) := by omega
      have hj0 : ¬ ((jj : Int) < 0) := by omega
      clear hlt hz0 hpos htr ht9 htz hjj
      have q0 := ((unhide hb8).ext (unhide hP).extf).cells 0 (v := .slice A1 V.length cA) rfl
      have q1 := ((unhide hb8).ext (unhide hP).extf).cells 1 (v := .slice B1 E.length cB) rfl
      have hself := Ext.refl wr
      try dsimp only
      repeat ((fail_if_success (with_reducible refine wp_reg (id := 19) ?_)); (first | go_values | go_skip | go_step | go_guarded | go_upon | go_in | go_back | fail))
      with_reducible refine wp_reg (id := 19) ?_
      iterate 4
       refine wpO_want rfl ?_
       go_simp
      refine wpO_done ?_
      try go_frame
      go_wp2_with fail
      have hcf := hide (show ∀ W,Ext wr W → Calls Tryz.prog 19 #[.agg #[.slice A1 V.length cA, .slice B1 E.length cB], .int .i64 z] W fun e w' => e = .returned (.int .i64 (jj : Nat)) ∧ Ext W w' from fun W hW => by
       have h := find_any A1 B1 V cA E.length cB z W ((unhide hsV).ext ((unhide hxr).trans hW)) (by have := unhide hmo; omega)
       rw [unhide hpos'] at h
       exact h)
      refine wp_region_ext (P := Tryz.prog) [0,1,2,3,4,5,6] [] 0 #[true,true,true,true,true,true,true] (by kernel_rfl) (by kernel_rfl) rfl (by rfl) ?_
      iterate 5
       first
       | (refine ql_skip rfl (by rfl) ?_)
       | (refine ql_want (v := ?_) rfl (by rfl) (fun W hW => ?_) ?_; rotate_left; (go_simp; (first | done | rfl)))
       try go_frame
      refine ql_want (v := .int .i64 (jj : Nat)) rfl (by rfl) (fun W hW => ?_) ?_
      ·go_simp
       refine (unhide hcf W hW).mono ?_
       rintro _ _ ⟨h1,h2⟩
       exact ⟨_,h1,rfl,h2⟩
      go_frame
      iterate 1
       first
       | (refine ql_skip rfl (by rfl) ?_)
       | (refine ql_want (v := ?_) rfl (by rfl) (fun W hW => ?_) ?_; rotate_left; (go_simp; (first | done | rfl)))
       try go_frame
      refine wpQL_nil (fun y7 hxq => ?_)
      replace hP : Hid (Sp wb [] wb [] [] [(3,1, .slice Ab m cb,m,((a.take m).map (tr (idsV V) b)).flatMap encI)] y7) := hide ((unhide hP).ext hxq)
      replace cb2 := fun (W : World) (hW : Ext y7 W) => cb2 W (hxq.trans hW)
      clear q0 q1 ca hself hcf hxq
      have hself := Ext.refl y7
      refine wpX_done (by kernel_rfl) ?_
      try go_frame
      try dsimp only
      repeat ((fail_if_success (with_reducible refine wp_reg (id := 22) ?_)); (first | go_values | go_skip | go_step | go_guarded | go_upon | go_in | go_back | fail))
      with_reducible refine wp_reg (id := 22) ?_
      iterate 2
       refine wpO_want rfl ?_
       go_simp
      refine wpO_done ?_
      try go_frame
      clear hj0
      try dsimp only
      repeat ((fail_if_success (with_reducible refine wp_reg (id := 24) ?_)); (first | go_values | go_skip | go_step | go_guarded | go_upon | go_in | go_back | fail))
      with_reducible refine wp_reg (id := 24) ?_
      iterate 5
       refine wpO_want rfl ?_
       go_simp
      clear cb2 hself
      refine (unhide hP).buildO 1 3 #[.int .i64 t9] rfl (by go_simp) ?_
      intro bs y8 hQ
      replace hP : Hid (Sp wb [] wb [] [(bs,3, #[.int .i64 t9])] [(3,1, .slice Ab m cb,m,((a.take m).map (tr (idsV V) b)).flatMap encI)] y8) := hide hQ
      clear hQ
      try go_frame
      refine (unhide hP).ap1O (enc := encI) (T := 3) (ST := 31) 0 (v := .slice Ab m cb) (m := m) (xs := (a.take m).map (tr (idsV V) b)) rfl rfl infoI Tryz.underlying31 one_encI (fun _ => rfl) (by decide) (by decide) rfl t9 rfl rfl ((unhide hP).get 0 rfl) (by omega) ?_
      intro Az cAz y9 hQ
      replace hP : Hid (Sp wb [] wb [] [(bs,3, #[.int .i64 t9])] [(3,1, .slice Az (m + 1) cAz,m + 1,((a.take m).map (tr (idsV V) b) ++ [t9]).flatMap encI)] y9) := hide hQ
      clear hQ
      try go_frame
      refine wpO_want rfl ?_
      go_simp
      refine wpO_done ?_
      try go_frame
      replace hP : Hid (Sp wb [] wb [] [] [(3,1, .slice Az (m + 1) cAz,m + 1,((a.take m).map (tr (idsV V) b) ++ [t9]).flatMap encI)] y9) := hide ((unhide hP).sub (List.sublist_append_left _ ([(bs,3, #[.int .i64 t9])] : List Cl)) (List.Sublist.refl _))
      go_wp2_with fail
      have hp9 := unhide hP
      rw [← unhide hst] at hp9
      refine ⟨V.length - (m + 1), ?_,by have := unhide hfm'; have := unhide hlt'; omega⟩
      rw [unhide hI6_8]
      exact ⟨m + 1,Az,cAz,(by first | rfl | trivial),(by first | rfl | trivial),(by first | rfl | trivial),(by first | rfl | trivial),(by first | rfl | trivial),(by first | rfl | trivial),(by first | rfl | (show _ = Value.int _ _; go_num) | go_num),(by first | rfl | trivial),by have := unhide hlt'; omega,hp9,rfl⟩
     ·skip
      have hil : ¬ (m : Int) < (V.length : Int) := by omega
      have hme := hide (show m = V.length by have := unhide hmv'; omega)
      obtain ⟨bo,hbo0⟩ : ∃ bo,bo = (a.take m).map (tr (idsV V) b) := ⟨_,rfl⟩
      have hbM2 := hide (show bo ∈ MP by
       rw [hbo0,List.take_of_length_le (by rw [unhide hal,unhide hme]; exact Nat.le_refl _)]
       have h1 := unhide haM
       have h2 := unhide hbM
       rw [unhide hMP] at h1 h2 ⊢
       exact auto_comp (unhide hin) h1 h2)
      rw [← hbo0] at hP
      have hbol := hide (show m = bo.length by rw [(unhide hlen bo (unhide hbM2)).1,unhide hme])
      clear hlt hbo0
      try dsimp only
      repeat ((fail_if_success (with_reducible refine wp_reg (id := 19) ?_)); (first | go_values | go_skip | go_step | go_guarded | go_upon | go_in | go_back | fail))
      with_reducible refine wp_reg (id := 19) ?_
      iterate 4
       refine wpO_want rfl ?_
       go_simp
      refine wpO_done ?_
      try go_frame
      clear hil
      go_wp2_with fail
      obtain ⟨wo,hwo⟩ : ∃ wo,wo = wr := ⟨_,rfl⟩
      subst hwo
      obtain ⟨I6_12,hI6_120⟩ : ∃ I : Nat → Act → World → Prop,I = fun fi a' wr => ∃ (i : Nat),a'.tmps.size = 123 ∧ a'.tmps.getD 10 undef = .slice (some ⟨bt,ot,none⟩) nt ct ∧ a'.tmps.getD 16 undef = .slice Ab m cb ∧ a'.tmps.getD 19 undef = .int .i64 (i : Nat) ∧ a'.defers = [] ∧ i ≤ nt ∧ (∀ j (hj : j < MP.length),j < i → MP[j] ≠ bo) ∧ Sp wb [] wb [] [] [(3,1, .slice Ab m cb,m,bo.flatMap encI)] wr ∧ fi = nt - i := ⟨_,rfl⟩
      have hI6_12 := hide hI6_120
      clear hI6_120
      refine wp_loop_ix I6_12 (nt - 0) ?_ ?_
      ·rw [unhide hI6_12]; exact ⟨0,rfl,rfl,rfl,rfl,rfl,Nat.zero_le _,(fun j _ h => by omega),unhide hP,rfl⟩
      ·rintro fi ⟨tm,dfs⟩ wr hrel
       rw [unhide hI6_12] at hrel
       obtain ⟨i,hsz,e10,e16,e19,hdf,hin0,hno0,hPs,hgm⟩ := hrel
       obtain ⟨us,rfl⟩ : ∃ us : Nat → Value,tm = #[us 0,us 1,us 2,us 3,us 4,us 5,us 6,us 7,us 8,us 9,us 10,us 11,us 12,us 13,us 14,us 15,us 16,us 17,us 18,us 19,us 20,us 21,us 22,us 23,us 24,us 25,us 26,us 27,us 28,us 29,us 30,us 31,us 32,us 33,us 34,us 35,us 36,us 37,us 38,us 39,us 40,us 41,us 42,us 43,us 44,us 45,us 46,us 47,us 48,us 49,us 50,us 51,us 52,us 53,us 54,us 55,us 56,us 57,us 58,us 59,us 60,us 61,us 62,us 63,us 64,us 65,us 66,us 67,us 68,us 69,us 70,us 71,us 72,us 73,us 74,us 75,us 76,us 77,us 78,us 79,us 80,us 81,us 82,us 83,us 84,us 85,us 86,us 87,us 88,us 89,us 90,us 91,us 92,us 93,us 94,us 95,us 96,us 97,us 98,us 99,us 100,us 101,us 102,us 103,us 104,us 105,us 106,us 107,us 108,us 109,us 110,us 111,us 112,us 113,us 114,us 115,us 116,us 117,us 118,us 119,us 120,us 121,us 122] := ⟨fun i => tm.getD i undef,arr_fn hsz⟩
       have h10 : us 10 = .slice (some ⟨bt,ot,none⟩) nt ct := e10
       have h16 : us 16 = .slice Ab m cb := e16
       have h19 : us 19 = .int .i64 (i : Nat) := e19
       have hdf2 : dfs = [] := hdf
       subst hdf2
       clear hdf hsz e10 e16 e19
       simp only [h10,h16,h19]
       clear h10 h16 h19
       clear hP
       have hP := hide hPs
       have hgm' := hide hgm
       have hno := hide hno0
       have hxr2 := hide (unhide hP).extf
       clear hPs hgm hno0
       by_cases hlt : i < nt
       ·skip
        have hil : (i : Int) < (nt : Int) := by omega
        have hlt' := hide hlt
        have hib : (i : Int) ≤ 5040 := by have := unhide hntb; omega
        have hiM : i < MP.length := by rw [← unhide hnt]; exact hlt
        obtain ⟨bq,oq,hbq,hget⟩ := ((unhide hss).ext (unhide hxr2)).get (by omega)
        cases hbq
        obtain ⟨ax,cx,hc1,hsx0⟩ := hget i hiM
        obtain ⟨mi,hmi0⟩ : ∃ mi,mi = MP[i] := ⟨_,rfl⟩
        rw [← hmi0] at hc1 hsx0
        have hml := hide (show mi.length = V.length by rw [hmi0]; exact (unhide hlen _ (List.getElem_mem hiM)).1)
        rw [unhide hml] at hc1
        have hmi := hide hmi0
        have hsx := hide hsx0
        have c1 := hc1 [] wr (Keep.refl _ _) (by simp)
        clear hlt hget hc1 hsx0 hmi0 hin0
        try dsimp only
        repeat ((fail_if_success (with_reducible refine wp_reg (id := 26) ?_)); (first | go_values | go_skip | go_step | go_guarded | go_upon | go_in | go_back | fail))
        with_reducible refine wp_reg (id := 26) ?_
        iterate 4
         refine wpO_want rfl ?_
         go_simp
        refine wpO_done ?_
        try go_frame
        try dsimp only
        repeat ((fail_if_success (with_reducible refine wp_reg (id := 28) ?_)); (first | go_values | go_skip | go_step | go_guarded | go_upon | go_in | go_back | fail))
        with_reducible refine wp_reg (id := 28) ?_
        iterate 5
         refine wpO_want rfl ?_
         go_simp
        clear c1
        refine wpO_want rfl ?_
        go_simp
        obtain ⟨zc,hzc⟩ : ∃ z,z = lcmp mi bo := ⟨_,rfl⟩
        have hca := cmp08_any ax Ab mi bo V.length m cx cb wr (unhide hsx) (own_at (by have h := (unhide hP).row 0 rfl; rw [unhide hbol] at h; exact h) (fun _ => rfl)) (unhide hml).symm (unhide hbol) (by have := unhide hmo; omega) (by have := unhide hmo; have := unhide hme; omega)
        rw [← hzc] at hca
        have hzc' := hide hzc
        clear hzc
        refine hca.mono ?_
        clear hca
        rintro _ y7 ⟨rfl,hxc⟩
        refine ⟨_,rfl, ?_⟩
        replace hP : Hid (Sp wb [] wb [] [] [(3,1, .slice Ab m cb,m,bo.flatMap encI)] y7) := hide ((unhide hP).ext hxc)
        clear hxc hsx
        by_cases hz0 : zc = 0
        ·skip
         have hzq : ((zc : Int) == 0) = true := by simp [hz0]
         clear hz0
         refine wpO_want rfl ?_
         go_simp
         refine wpO_done ?_
         try go_frame
         clear hzq
         try dsimp only
         repeat ((fail_if_success (with_reducible refine wp_reg (id := 29) ?_)); (first | go_values | go_skip | go_step | go_guarded | go_upon | go_in | go_back | fail))
         with_reducible refine wp_reg (id := 29) ?_
         refine wpO_want rfl ?_
         go_simp
         refine wpO_done ?_
         try go_frame
         go_wp2_with fail
         refine Sp.leaves0 ?_
         exact ⟨_,results_tmp (t := 6) rfl _ _ _,rfl,(unhide hbase).trans (unhide hP).extf⟩
        ·skip
         have hzq : ((zc : Int) == 0) = false := by simp [hz0]
         have hz1 := hide hz0
         clear hz0
         refine wpO_want rfl ?_
         go_simp
         refine wpO_done ?_
         try go_frame
         clear hzq
         go_wp2_with fail
         refine ⟨nt - (i + 1), ?_,by have := unhide hgm'; have := unhide hlt'; omega⟩
         rw [unhide hI6_12]
         exact ⟨i + 1,(by first | rfl | trivial),(by first | rfl | trivial),(by first | rfl | trivial),(by first | rfl | (show _ = Value.int _ _; go_num) | go_num),(by first | rfl | trivial),by have := unhide hlt'; omega,(fun j hj h => by
          by_cases h2 : j < i
          ·exact unhide hno j hj h2
          ·obtain rfl : j = i := by omega
           intro h3
           refine unhide hz1 ?_
           rw [unhide hzc',unhide hmi,h3,lcmp_self]),unhide hP,rfl⟩
       ·skip
        exfalso
        obtain ⟨j,hj,e⟩ := List.mem_iff_getElem.1 (unhide hbM2)
        exact unhide hno j hj (by have := unhide hnt; omega) e
end Go.Proofs.YtbpeemhfjgcnaaaGreat
namespace Go.Proofs.YtbpeemhfjgcnaaaGreat.isomorphismGroupRow
open Go.ChangeShapes Go.WideShapes Go.ChangeAt Go.RowKit
set_option linter.unusedVariables false
theorem own : ownKnob Tryz.prog.godebug = none := by kernel_rfl
theorem laidOut : laidOutB Tryz.prog = true := by kernel_rfl
set_option maxRecDepth 100000 in
theorem lifted (os : Os) (started : os.Started) (H : Type) (enc : TypeId × Value → H) :
  ReturnsInHanded {} Tryz.checked os 4 .any (Rows.isomorphismGroupSpec.pre6 enc Tryz.prog Tryz.f4 Rows.isomorphismGroupRow.domain false) (Rows.isomorphismGroupSpec.post enc Tryz.prog Tryz.f4 false true false false) := by
 refine returnsInHanded_of_change (C := Tryz.checked) own started (by kernel_rfl) Tryz.func4
  (ChangeSpec.witness6 (enc := enc) (C := Tryz.checked) false ⟨#[], #[.slice none 0 0, .int .u16 0, .int .u16 0],[]⟩ 8 (by kernel_rfl) (by kernel_rfl) (by kernel_rfl) (by kernel_rfl)) ?_
 intro W base args ds gs before hval0 hW hcnd _
 have hval : ∀ (j : Nat) t v,Tryz.f4.params[j]? = some t → args[j]? = some v → Value.okWide Tryz.prog W .any base t v := hval0
 have hW' := hW
 obtain ⟨p,q,hA0,hV,rfl,hfz,hnd⟩ := hW
 have hA : DataW.TrodAll enc Tryz.prog W 0 (fun _ => true) true Tryz.f4.params.toList args.toList ds p := hA0
 rw [Tryz.params4] at hA hval
 obtain ⟨v0,vs0,d0,ds0,p0,q0,hargs,rfl,rfl,h0,r0⟩ := trodAll_cons hA
 obtain ⟨v1,vs1,d1,ds1,p1,q1,rfl,rfl,rfl,h1,r1⟩ := trodAll_cons r0
 obtain ⟨v2,vs2,d2,ds2,p2,q2,rfl,rfl,rfl,h2,r2⟩ := trodAll_cons r1
 obtain ⟨rfl,rfl,rfl⟩ := trodAll_nil r2
 obtain rfl : args = #[v0,v1,v2] := by cases args; simp_all
 obtain ⟨rfl,rfl⟩ := trodVars_none hV
 obtain ⟨a0,len0,cap0,rfl⟩ := okWide_slice Tryz.underlying22 (hval 0 22 v0 rfl rfl)
 have k0 := h0
 have lt0 : ∀ x ∈ p0,x.block < W.heap.size := by obtain ⟨m,hm⟩ := k0; exact DataW.trod_lt m _ _ _ hm
 obtain ⟨fu0,hf0⟩ := h0
 obtain ⟨L0,hn0,hs0,ho0,hm0,hz0⟩ := open_editsB (by simpa [Value.cells] using hf0)
 subst hn0
 obtain ⟨a1,rfl,rfl,rfl,w1⟩ := open_int Tryz.underlying41 (hval 1 41 v1 rfl rfl) h1
 obtain ⟨a2,rfl,rfl,rfl,w2⟩ := open_int Tryz.underlying41 (hval 2 41 v2 rfl rfl) h2
 clear hA0 hval0
 refine (isomorphismGroup_walk a0 L0 cap0 a1 a2 W hs0 ho0 hm0 hz0 (Go.bounds_u16 w1) (Go.bounds_u16 w2)).mono fun e W' ⟨he,bel⟩ => ?_
 subst he
 exact ⟨_,rfl,_,_,_,[],_,[],hW',trodAll_mk1 (shut_bool Tryz.underlying4 _),(trodAll_cons_mk (Below.trod laidOut (by kernel_rfl) (of_decide_eq_true (by kernel_rfl)) k0 bel lt0) (trodAll_cons_mk (shut_int Tryz.underlying41 w1) (trodAll_cons_mk (shut_int Tryz.underlying41 w2) trodAll_mk0))),rfl,bel.frame _,fun h => by cases h⟩
theorem over : Rows.isomorphismGroupRow.holds Tryz.pinned (OpenSpec.ofChange Rows.isomorphismGroupSpec) :=
 OpenClaim.holds_of_wide 4 Tryz.f4 rfl rfl rfl rfl rfl rfl rfl ⟨rfl,rfl,rfl,rfl,rfl⟩ rfl rfl rfl rfl rfl (by kernel_rfl) Tryz.func4 (by kernel_rfl)
  (of_decide_eq_true (by kernel_rfl)) (by unfold Func.isWrapper; first | (rw [if_pos (by decide +kernel)]; kernel_rfl) | (rw [if_neg (by decide +kernel)]; exact ⟨rfl,rfl⟩))
  (fun os started H enc _ => lifted os started H enc)
end Go.Proofs.YtbpeemhfjgcnaaaGreat.isomorphismGroupRow
namespace Go.Proofs.YtbpeemhfjgcnaaaGreat
theorem isomorphismGroup_holds : Rows.IsomorphismGroupSaid := isomorphismGroupRow.over
#print axioms isomorphismGroup_holds
end Go.Proofs.YtbpeemhfjgcnaaaGreat
