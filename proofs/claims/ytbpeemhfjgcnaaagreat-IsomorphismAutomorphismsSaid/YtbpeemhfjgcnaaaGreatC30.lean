/- Parts of a proof, laid together. Each part says its own conditions. -/
import Derived.Test.YtbpeemhfjgcnaaaGreatC28
import Derived.Test.YtbpeemhfjgcnaaaGreatC29
import Derived.Test.YtbpeemhfjgcnaaaGreatC24
import Derived.WalkMore
namespace Go.Proofs.YtbpeemhfjgcnaaaGreat
open Go Go.RowKit Go.Shelf
attribute [local go_sem] qUpon lUpon
attribute [local irreducible] wpO wpX wpQL
theorem okM_at {V V' : List (Int × Thing)} {E0 E0' E E' : List ((Int × Int) × Thing)} (hi : GInv V E0) (hi' : GInv V' E0') {xs : List Int} {n : Nat} (hxn : n = xs.length) (hn : n < V.length) {i : Nat} (hiw : i < V'.length) : okM V E (idsV V) V' E' xs V'[i].1 = (decide (V'[i].1 ∉ xs) && decide (V'[i].2 = V[n].2) && (List.range n).all fun j => decide (betE E ((idsV V).getD j 0) V[n].1 = betE E' (xs.getD j 0) V'[i].1)) := by
 subst hxn
 unfold okM
 have h1 : (idsV V).getD xs.length 0 = V[xs.length].1 := by
  unfold idsV
  rw [List.getD_eq_getElem?_getD,List.getElem?_map,List.getElem?_eq_getElem hn]
  rfl
 rw [h1,th_at hi' hiw,th_at hi hn]
theorem ids_at {V : List (Int × Thing)} {j : Nat} (h : j < V.length) : (idsV V).getD j 0 = V[j].1 := by
 unfold idsV
 rw [List.getD_eq_getElem?_getD,List.getElem?_map,List.getElem?_eq_getElem h]
 rfl
structure TellN (N fd : Nat) (caps : Array Value) (q : Bool) (m : Nat) (J : List (List Int) → List Nat → World → Prop) : Prop where
 enters : ∀ args w,(callFunc fd args).run Tryz.prog w = .ok (.enter fd args) w
 keep : ∀ k T W W' S,J k T W → Keep S W W' → (∀ x ∈ S,x ∉ T) → J k T W'
 lt : ∀ k T W,J k T W → ∀ x ∈ T,x < W.heap.size
 step : ∀ told (l : List Int) T W A n c,J told T W → n = l.length → n = m → n ≤ c → SlAt encI 1 W A l → (∀ b off,A = some ⟨b,off,none⟩ → b ∉ T) → told.length < N →
  Calls Tryz.prog fd (#[.slice A n c] ++ caps) W fun e W' => e = .returned (.bool q) ∧ ∃ T',J (told ++ [l]) T' W' ∧ Keep T W W' ∧ ∀ x ∈ T',x ∈ T ∨ W.heap.size ≤ x
theorem outT_go {q : Bool} {L : List (List Int)} (h : ansT q L = true) : outT q L = L := by
 cases q with
 | true => rfl
 | false =>
  cases L with
  | nil => rfl
  | cons a r => simp [ansT] at h
theorem outT_nil {q : Bool} {L : List (List Int)} (h : ansT q L = true) (hq : q = false) : L = [] := by
 subst hq
 cases L with
 | nil => rfl
 | cons a r => simp [ansT] at h
theorem outT_stop {q : Bool} {L Lc R : List (List Int)} (h : ansT q Lc = false) (hL : L = Lc ++ R) : q = false ∧ outT q L = outT q Lc ∧ ansT q L = false := by
 cases q with
 | true => simp [ansT] at h
 | false =>
  cases Lc with
  | nil => simp [ansT] at h
  | cons a r =>
   subst hL
   exact ⟨rfl,rfl,rfl⟩
def ExPost (J : List (List Int) → List Nat → World → Prop) (T : List Nat) (v : Value) (n : Nat) (xs : List Int) (w : World) (told : List (List Int)) (q : Bool) (e : Ending) (w' : World) : Prop := e = .returned (.bool q) ∧ PlI J T v n xs w told w'
set_option maxRecDepth 100000 in
set_option maxHeartbeats 16000000 in
theorem extend_end {b1 b2 b3 b4 b5 b6 nv cv nu cu ga bva bea gb bvb beb fd N : Nat} {Av Au : Option Addr} {V V' : List (Int × Thing)} {E E' : List ((Int × Int) × Thing)} {caps : Array Value} {q : Bool} {J : List (List Int) → List Nat → World → Prop} (hC : TellN N fd caps q nv J) (told : List (List Int)) (T : List Nat) (w : World) (A : Option Addr) (n c : Nat) (xs : List Int) (h : PlH J (FxM b1 b2 b3 b4 b5 b6 Av nv cv Au nu cu ga bva bea gb bvb beb V E V' E' fd caps) (tfM b1 b2 b3 b4 b5 b6 Av Au ga bva bea gb bvb beb) told T (.slice A n c) n xs w) (hn : n = xs.length) (hf : n = nv) (hN : told.length < N) :
  Calls Tryz.prog 82 #[.slice A n c, .pointer (some ⟨b1,0,none⟩), .pointer (some ⟨b2,0,none⟩), .pointer (some ⟨b3,0,none⟩), .pointer (some ⟨b4,0,none⟩), .pointer (some ⟨b5,0,none⟩), .pointer (some ⟨b6,0,none⟩)] w (ExPost J T (.slice A n c) n xs w (told ++ [xs]) q) := by
 have h' := hide h
 have hn' := hide hn
 have hC' := hide hC
 have hen := hC.enters
 have e1 := h.f.c1.cells 0 (v := .slice Av nv cv) rfl
 have e2 := h.f.c2.cells 0 (v := .func (.func fd) #[] caps) rfl
 have hself := Ext.refl w
 have hq : ((n : Int) == (nv : Int)) = true := by rw [hf]; simp
 have hf' := hide hf
 clear h hn hC hf
 have hP := hide (Sp.new w)
 refine callsIn_wide.1 (callsIn_of_wp_marks (n := 0) Tryz.func82 rfl trivial (wpIn_wide.2 ?_))
 simp only [Tryz.ntmps82,List.size_toArray,List.length_cons,List.length_nil,Nat.reduceAdd,Nat.reduceSub,Array.replicate_succ,Array.replicate_zero,List.push_toArray,List.append_toArray,List.nil_append,List.cons_append]
 try dsimp only
 repeat ((fail_if_success (with_reducible refine wp_reg (id := 0) ?_)); (first | go_values | go_skip | go_step | go_guarded | go_upon | go_in | go_back | fail))
 with_reducible refine wp_reg (id := 0) ?_
 refine wpO_want rfl ?_
 go_simp
 refine wpO_done ?_
 try go_frame
 try dsimp only
 repeat ((fail_if_success (with_reducible refine wp_reg (id := 1) ?_)); (first | (with_reducible apply wp_scope_straight) | (with_reducible apply wp_label) | go_values | go_skip | go_step | go_guarded | go_upon | go_in | go_back | fail))
 with_reducible refine wp_reg (id := 1) ?_
 iterate 3
  refine wpO_want rfl ?_
  go_simp
 refine wpO_done ?_
 try go_frame
 try dsimp only
 repeat ((fail_if_success (with_reducible refine wp_reg (id := 2) ?_)); (first | go_values | go_skip | go_step | go_guarded | go_upon | go_in | go_back | fail))
 with_reducible refine wp_reg (id := 2) ?_
 iterate 4
  refine wpO_want rfl ?_
  go_simp
 refine wpO_done ?_
 try go_frame
 try dsimp only
 repeat ((fail_if_success (with_reducible refine wp_reg (id := 3) ?_)); (first | go_values | go_skip | go_step | go_guarded | go_upon | go_in | go_back | fail))
 with_reducible refine wp_reg (id := 3) ?_
 iterate 3
  refine wpO_want rfl ?_
  go_simp
 have hst := (unhide hC').step told xs T w A n c (unhide h').j (unhide hn') (unhide hf') (own_cap (unhide h').own) (own_at (by have h := (unhide h').own; rw [unhide hn'] at h; exact h) (fun _ => rfl)) (fun b off e => ((unhide h').vf b (by rw [e]; rfl)).2) hN
 refine hst.mono ?_
 rintro _ W' ⟨rfl,T',h1,h2,h3⟩
 refine ⟨_,rfl, ?_⟩
 have hfin := hide (PlH.tell (unhide h') h1 h2 h3)
 clear h1 h2 h3 hst e1 e2 hself
 refine wpO_want rfl ?_
 go_simp
 refine wpO_done ?_
 try go_frame
 go_wp2_with fail
 refine Sp.leaves0 ?_
 exact ⟨_,results_tmp rfl _ _ _,rfl,unhide hfin⟩
set_option maxRecDepth 100000 in
set_option maxHeartbeats 16000000 in
theorem extend_level {b1 b2 b3 b4 b5 b6 nv cv nu cu ga bva bea gb bvb beb fd N : Nat} {Av Au : Option Addr} {V V' : List (Int × Thing)} {E E' : List ((Int × Int) × Thing)} {caps : Array Value} {q : Bool} {J : List (List Int) → List Nat → World → Prop} (hC : TellN N fd caps q nv J) (hnv : nv = V.length) (hnu : nu = V'.length) (hl : nv ≤ 8) (hlu : nu ≤ 8) (hlb : LabB V E) (hlb2 : LabB V' E') (n f : Nat) (hnf : n + (f + 1) = nv)
  (ih : ∀ (told : List (List Int)) (T : List Nat) (w : World) (A : Option Addr) (c : Nat) (xs : List Int),PlH J (FxM b1 b2 b3 b4 b5 b6 Av nv cv Au nu cu ga bva bea gb bvb beb V E V' E' fd caps) (tfM b1 b2 b3 b4 b5 b6 Av Au ga bva bea gb bvb beb) told T (.slice A (n + 1) c) (n + 1) xs w → n + 1 = xs.length → told.length + (extL V E (idsV V) V' E' (idsV V') f xs).length ≤ N → Calls Tryz.prog 82 #[.slice A (n + 1) c, .pointer (some ⟨b1,0,none⟩), .pointer (some ⟨b2,0,none⟩), .pointer (some ⟨b3,0,none⟩), .pointer (some ⟨b4,0,none⟩), .pointer (some ⟨b5,0,none⟩), .pointer (some ⟨b6,0,none⟩)] w (ExPost J T (.slice A (n + 1) c) (n + 1) xs w (told ++ outT q (extL V E (idsV V) V' E' (idsV V') f xs)) (ansT q (extL V E (idsV V) V' E' (idsV V') f xs))))
  (told : List (List Int)) (T : List Nat) (w : World) (A : Option Addr) (c : Nat) (xs : List Int) (h : PlH J (FxM b1 b2 b3 b4 b5 b6 Av nv cv Au nu cu ga bva bea gb bvb beb V E V' E' fd caps) (tfM b1 b2 b3 b4 b5 b6 Av Au ga bva bea gb bvb beb) told T (.slice A n c) n xs w) (hn : n = xs.length) (hN : told.length + (extL V E (idsV V) V' E' (idsV V') (f + 1) xs).length ≤ N) :
  Calls Tryz.prog 82 #[.slice A n c, .pointer (some ⟨b1,0,none⟩), .pointer (some ⟨b2,0,none⟩), .pointer (some ⟨b3,0,none⟩), .pointer (some ⟨b4,0,none⟩), .pointer (some ⟨b5,0,none⟩), .pointer (some ⟨b6,0,none⟩)] w (ExPost J T (.slice A n c) n xs w (told ++ outT q (extL V E (idsV V) V' E' (idsV V') (f + 1) xs)) (ansT q (extL V E (idsV V) V' E' (idsV V') (f + 1) xs))) := by
 have h' := hide h
 have hn' := hide hn
 have hC' := hide hC
 have ih' := hide ih
 have hN' := hide hN
 have hnv' := hide hnv
 have hnu' := hide hnu
 have hl' := hide hl
 have hlu' := hide hlu
 have hlb' := hide hlb
 have hlb2' := hide hlb2
 have hnf' := hide hnf
 have e1 := h.f.c1.cells 0 (v := .slice Av nv cv) rfl
 have e3 := h.f.c3.cells 0 (v := .slice Au nu cu) rfl
 have hself := Ext.refl w
 have hq : ((n : Int) == (nv : Int)) = false := by simp; omega
 obtain ⟨ui,hus⟩ : ∃ ui,ui = idsV V' := ⟨_,rfl⟩
 have hul := hide (show nu = ui.length by rw [hus,idsV_len,hnu])
 have hus' := hide hus
 rw [← hus] at ih' hN' ⊢
 clear h hn hC ih hN hnv hnu hl hlu hlb hlb2 hnf hus
 have hP := hide (Sp.new w)
 refine callsIn_wide.1 (callsIn_of_wp_marks (n := 0) Tryz.func82 rfl trivial (wpIn_wide.2 ?_))
 simp only [Tryz.ntmps82,List.size_toArray,List.length_cons,List.length_nil,Nat.reduceAdd,Nat.reduceSub,Array.replicate_succ,Array.replicate_zero,List.push_toArray,List.append_toArray,List.nil_append,List.cons_append]
 try dsimp only
 repeat ((fail_if_success (with_reducible refine wp_reg (id := 0) ?_)); (first | go_values | go_skip | go_step | go_guarded | go_upon | go_in | go_back | fail))
 with_reducible refine wp_reg (id := 0) ?_
 refine wpO_want rfl ?_
 go_simp
 refine wpO_done ?_
 try go_frame
 try dsimp only
 repeat ((fail_if_success (with_reducible refine wp_reg (id := 1) ?_)); (first | (with_reducible apply wp_scope_straight) | (with_reducible apply wp_label) | go_values | go_skip | go_step | go_guarded | go_upon | go_in | go_back | fail))
 with_reducible refine wp_reg (id := 1) ?_
 iterate 3
  refine wpO_want rfl ?_
  go_simp
 refine wpO_done ?_
 try go_frame
 try dsimp only
 repeat ((fail_if_success (with_reducible refine wp_reg (id := 2) ?_)); (first | go_values | go_skip | go_step | go_guarded | go_upon | go_in | go_back | fail))
 with_reducible refine wp_reg (id := 2) ?_
 iterate 4
  refine wpO_want rfl ?_
  go_simp
 refine wpO_done ?_
 try go_frame
 try dsimp only
 repeat ((fail_if_success (with_reducible refine wp_reg (id := 4) ?_)); (first | (with_reducible apply wp_scope_straight) | (with_reducible apply wp_label) | go_values | go_skip | go_step | go_guarded | go_upon | go_in | go_back | fail))
 with_reducible refine wp_reg (id := 4) ?_
 iterate 3
  refine wpO_want rfl ?_
  go_simp
 refine wpO_done ?_
 try go_frame
 clear e1 e3 hself hq
 go_wp2_with fail
 obtain ⟨I0_2,hI0_20⟩ : ∃ I : Nat → Act → World → Prop,I = fun fi a' wr => ∃ (i : Nat),a'.tmps.size = 88 ∧ a'.tmps.getD 0 undef = .slice A n c ∧ a'.tmps.getD 1 undef = .pointer (some ⟨b1,0,none⟩) ∧ a'.tmps.getD 2 undef = .pointer (some ⟨b2,0,none⟩) ∧ a'.tmps.getD 3 undef = .pointer (some ⟨b3,0,none⟩) ∧ a'.tmps.getD 4 undef = .pointer (some ⟨b4,0,none⟩) ∧ a'.tmps.getD 5 undef = .pointer (some ⟨b5,0,none⟩) ∧ a'.tmps.getD 6 undef = .pointer (some ⟨b6,0,none⟩) ∧ a'.tmps.getD 8 undef = .bool false ∧ a'.tmps.getD 9 undef = .int .i64 (n : Nat) ∧ a'.tmps.getD 23 undef = .slice Au nu cu ∧ a'.tmps.getD 24 undef = .int .i64 (nu : Nat) ∧ a'.tmps.getD 25 undef = .int .i64 (i : Nat) ∧ a'.defers = [] ∧ i ≤ nu ∧ PlI J T (.slice A n c) n xs w (told ++ mapT V E (idsV V) V' E' ui f xs i) wr ∧ (q = false → mapT V E (idsV V) V' E' ui f xs i = []) ∧ fi = nu - i := ⟨_,rfl⟩
 have hI0_2 := hide hI0_20
 clear hI0_20
 refine wp_loop_ix I0_2 (nu - 0) ?_ ?_
 ·rw [unhide hI0_2]; exact ⟨0,rfl,rfl,rfl,rfl,rfl,rfl,rfl,rfl,rfl,rfl,rfl,rfl,rfl,rfl,Nat.zero_le _,by rw [mapT_zero,List.append_nil]; exact (unhide h').start,fun _ => mapT_zero,rfl⟩
 ·rintro fi ⟨tm,dfs⟩ wr hrel
  rw [unhide hI0_2] at hrel
  obtain ⟨i,hsz,e0,e1,e2,e3,e4,e5,e6,e8,e9,e23,e24,e25,hdf,hin,hpl,hz0,hfm⟩ := hrel
  obtain ⟨us,rfl⟩ : ∃ us : Nat → Value,tm = #[us 0,us 1,us 2,us 3,us 4,us 5,us 6,us 7,us 8,us 9,us 10,us 11,us 12,us 13,us 14,us 15,us 16,us 17,us 18,us 19,us 20,us 21,us 22,us 23,us 24,us 25,us 26,us 27,us 28,us 29,us 30,us 31,us 32,us 33,us 34,us 35,us 36,us 37,us 38,us 39,us 40,us 41,us 42,us 43,us 44,us 45,us 46,us 47,us 48,us 49,us 50,us 51,us 52,us 53,us 54,us 55,us 56,us 57,us 58,us 59,us 60,us 61,us 62,us 63,us 64,us 65,us 66,us 67,us 68,us 69,us 70,us 71,us 72,us 73,us 74,us 75,us 76,us 77,us 78,us 79,us 80,us 81,us 82,us 83,us 84,us 85,us 86,us 87] := ⟨fun i => tm.getD i undef,arr_fn hsz⟩
  have h0 : us 0 = .slice A n c := e0
  have h1 : us 1 = .pointer (some ⟨b1,0,none⟩) := e1
  have h2 : us 2 = .pointer (some ⟨b2,0,none⟩) := e2
  have h3 : us 3 = .pointer (some ⟨b3,0,none⟩) := e3
  have h4 : us 4 = .pointer (some ⟨b4,0,none⟩) := e4
  have h5 : us 5 = .pointer (some ⟨b5,0,none⟩) := e5
  have h6 : us 6 = .pointer (some ⟨b6,0,none⟩) := e6
  have h8 : us 8 = .bool false := e8
  have h9 : us 9 = .int .i64 (n : Nat) := e9
  have h23 : us 23 = .slice Au nu cu := e23
  have h24 : us 24 = .int .i64 (nu : Nat) := e24
  have h25 : us 25 = .int .i64 (i : Nat) := e25
  have hdf2 : dfs = [] := hdf
  subst hdf2
  clear hdf hsz e0 e1 e2 e3 e4 e5 e6 e8 e9 e23 e24 e25
  simp only [h0,h1,h2,h3,h4,h5,h6,h8,h9,h23,h24,h25]
  clear h0 h1 h2 h3 h4 h5 h6 h8 h9 h23 h24 h25
  clear hP
  have hP := hide (Sp.new wr)
  have hfm' := hide hfm
  have hpl' := hide hpl
  have hz := hide hz0
  clear hpl hfm hz0
  by_cases hlt : i < nu
  ·skip
   have hil : (i : Int) < (nu : Int) := by omega
   have hib : (i : Int) ≤ 8 := by have := unhide hlu'; omega
   have hiw : i < V'.length := by rw [← unhide hnu']; exact hlt
   have hnw : n < V.length := by have := unhide hnv'; have := unhide hnf'; omega
   have hiu : i < ui.length := by rw [← unhide hul]; exact hlt
   have hlt' := hide hlt
   have hF := hide ((unhide h').fix FxM.keep (unhide hpl'))
   have hie := hide (show ui[i] = V'[i].1 by simp [unhide hus',idsV])
   have hok := hide (okM_at (unhide hF).ha.inv (unhide hF).hb.inv (E := E) (E' := E') (xs := xs) (unhide hn') hnw hiw)
   obtain ⟨ba,oa,rfl,g0,g1,g2⟩ := atV (unhide hF).vu hiw
   obtain ⟨bv2,ov2,rfl,k0,k1,k2⟩ := atV (unhide hF).va hnw
   obtain ⟨⟨x,lab,wt⟩,hx0⟩ : ∃ p,p = V'[i] := ⟨_,rfl⟩
   obtain ⟨⟨x2,lab2,wt2⟩,hx20⟩ : ∃ p,p = V[n] := ⟨_,rfl⟩
   rw [← hx0, ← hx20] at hok
   rw [← hx0] at hie g0 g1 g2
   rw [← hx20] at k0 k1 k2
   dsimp only at hok hie g0 g1 g2 k0 k1 k2
   have e1 := (unhide hF).c1.cells 0 (v := .slice (some ⟨bv2,ov2,none⟩) nv cv) rfl
   have hself := Ext.refl wr
   have hx2' := hide hx20
   clear hlt hin hx0 hx20
   try dsimp only
   repeat ((fail_if_success (with_reducible refine wp_reg (id := 5) ?_)); (first | go_values | go_skip | go_step | go_guarded | go_upon | go_in | go_back | fail))
   with_reducible refine wp_reg (id := 5) ?_
   refine wpO_want rfl ?_
   go_simp
   refine wpO_done ?_
   try go_frame
   try dsimp only
   repeat ((fail_if_success (with_reducible refine wp_reg (id := 6) ?_)); (first | go_values | go_skip | go_step | go_guarded | go_upon | go_in | go_back | fail))
   with_reducible refine wp_reg (id := 6) ?_
   iterate 2
    refine wpO_want rfl ?_
    go_simp
   refine (unhide hP).allocO 81 #[.int .i64 0, .int .u8 0, .int .i64 0] rfl (by go_simp) ?_
   intro r11 y1 hQ
   replace hP : Hid (Sp wr [] wr [] [(r11,81, #[.int .i64 0, .int .u8 0, .int .i64 0])] [] y1) := hide hQ
   clear hQ
   refine (unhide hP).setO 0 #[.int .i64 x, .int .u8 lab, .int .i64 wt] rfl rfl (fun hb => run_store_row (v := .agg #[.int .i64 x, .int .u8 lab, .int .i64 wt]) rfl (by rfl) (by rfl) (by simp [go_sem]) hb rfl (fun u hu => by simp [Value.cells] at hu; rcases hu with rfl | rfl | rfl <;> rfl)) ?_
   intro y2 hQ
   replace hP : Hid (Sp wr [] wr [] [(r11,81, #[.int .i64 x, .int .u8 lab, .int .i64 wt])] [] y2) := hide hQ
   clear hQ
   refine wpO_done ?_
   try go_frame
   have d0 := (unhide hP).cell 0 0 (v := .int .i64 x) rfl rfl
   have d1 := (unhide hP).cell 0 1 (v := .int .u8 lab) rfl rfl
   have d2 := (unhide hP).cell 0 2 (v := .int .i64 wt) rfl rfl
   go_wp2_with fail
   have hx9 := (unhide hP).extf
   replace k0 := fun (W : World) (hW : Ext y2 W) => k0 W (hx9.trans hW)
   replace k1 := fun (W : World) (hW : Ext y2 W) => k1 W (hx9.trans hW)
   replace k2 := fun (W : World) (hW : Ext y2 W) => k2 W (hx9.trans hW)
   replace e1 := fun (W : World) (hW : Ext y2 W) => e1 W (hx9.trans hW)
   clear hself g0 g1 g2
   have hself := Ext.refl y2
   have hx9' := hide hx9
   clear hx9
   have hnL : (n : Int) < (nv : Int) := by have := unhide hnf'; omega
   have hnb : (n : Int) ≤ 8 := by have := unhide hl'; omega
   obtain ⟨cq,hcq⟩ : ∃ cq,cq = decide (x ∈ xs) := ⟨_,rfl⟩
   have hcn := hide (show ∀ W,Ext y2 W → Calls Tryz.prog 83 #[.slice A n c, .int .i64 x] W fun e w' => e = .returned (.bool cq) ∧ Ext W w' from fun W hW => by rw [hcq]; exact contains_any A xs n c x W (own_at (by have h := own_keep (unhide hpl').own (((unhide hx9').trans hW).keep []) (by simp); rw [unhide hn'] at h; exact h) (fun _ => rfl)) (unhide hn') (by have := unhide hl'; have := unhide hnf'; omega))
   have hcq' := hide hcq
   clear hcq
   cases cq
   ·skip
    by_cases hlab : lab = lab2
    ·skip
     have hlq : ((lab : Int) != lab2) = false := by simp [hlab]
     have hlab' := hide hlab
     clear hlab
     by_cases hwt : wt = wt2
     ·skip
      have hwq : ((wt : Int) != wt2) = false := by simp [hwt]
      have hwt' := hide hwt
      clear hwt
      refine wp_region_ext (P := Tryz.prog) [0,1,2,3,4,5,6,7,8,9,10,11,12,13,14,15,16,17,18,19,20,21,22,23] [] 0 #[true,true,true,true,true,true,true,true,true,true,true,true,true,true,true,true,true,true,true,true,true,true,true,true] (by kernel_rfl) (by kernel_rfl) rfl (by rfl) ?_
      iterate 3
       first
       | (refine ql_skip rfl (by rfl) ?_)
       | (refine ql_want (v := ?_) rfl (by rfl) (fun W hW => ?_) ?_; rotate_left; (go_simp; (first | done | rfl)))
       try go_frame
      refine ql_want (v := .bool false) rfl (by rfl) (fun W hW => ?_) ?_
      ·go_simp
       refine (unhide hcn W hW).mono ?_
       rintro _ _ ⟨h1,h2⟩
       exact ⟨_,h1,rfl,h2⟩
      go_frame
      iterate 20
       first
       | (refine ql_skip rfl (by rfl) ?_)
       | (refine ql_want (v := ?_) rfl (by rfl) (fun W hW => ?_) ?_; rotate_left; (go_simp; (first | done | rfl)))
       try go_frame
      refine wpQL_nil (fun y3 hxq => ?_)
      replace hP : Hid (Sp wr [] wr [] [(r11,81, #[.int .i64 x, .int .u8 lab, .int .i64 wt])] [] y3) := hide ((unhide hP).ext hxq)
      replace hx9' := hide ((unhide hx9').trans hxq)
      clear k0 k1 k2 e1 d1 d2 hself hcn
      replace d0 := fun (W : World) (hW : Ext y3 W) => d0 W (hxq.trans hW)
      clear hxq
      refine wpX_done (by kernel_rfl) ?_
      try go_frame
      obtain ⟨wo,hwo⟩ : ∃ wo,wo = wr := ⟨_,rfl⟩
      subst hwo
      try dsimp only
      repeat ((fail_if_success (with_reducible refine wp_reg (id := 8) ?_)); (first | go_values | go_skip | go_step | go_guarded | go_upon | go_in | go_back | fail))
      with_reducible refine wp_reg (id := 8) ?_
      iterate 3
       refine wpO_want rfl ?_
       go_simp
      refine wpO_done ?_
      try go_frame
      clear d0
      go_wp2_with fail
      obtain ⟨I3_12,hI3_120⟩ : ∃ I : Nat → Act → World → Prop,I = fun fj a' wr => ∃ (j : Nat),a'.tmps.size = 88 ∧ a'.tmps.getD 0 undef = .slice A n c ∧ a'.tmps.getD 1 undef = .pointer (some ⟨b1,0,none⟩) ∧ a'.tmps.getD 2 undef = .pointer (some ⟨b2,0,none⟩) ∧ a'.tmps.getD 3 undef = .pointer (some ⟨b3,0,none⟩) ∧ a'.tmps.getD 4 undef = .pointer (some ⟨b4,0,none⟩) ∧ a'.tmps.getD 5 undef = .pointer (some ⟨b5,0,none⟩) ∧ a'.tmps.getD 6 undef = .pointer (some ⟨b6,0,none⟩) ∧ a'.tmps.getD 8 undef = .bool false ∧ a'.tmps.getD 9 undef = .int .i64 (n : Nat) ∧ a'.tmps.getD 11 undef = .pointer (some ⟨r11,0,none⟩) ∧ a'.tmps.getD 23 undef = .slice (some ⟨ba,oa,none⟩) nu cu ∧ a'.tmps.getD 24 undef = .int .i64 (nu : Nat) ∧ a'.tmps.getD 25 undef = .int .i64 (i : Nat) ∧ a'.tmps.getD 53 undef = .slice A n c ∧ a'.tmps.getD 54 undef = .int .i64 (n : Nat) ∧ a'.tmps.getD 55 undef = .int .i64 (j : Nat) ∧ a'.defers = [] ∧ j ≤ n ∧ (∀ j',j' < j → betE E ((idsV V).getD j' 0) x2 = betE E' (xs.getD j' 0) x) ∧ Sp wo [] wo [] [(r11,81, #[.int .i64 x, .int .u8 lab, .int .i64 wt])] [] wr ∧ fj = n - j := ⟨_,rfl⟩
      have hI3_12 := hide hI3_120
      clear hI3_120
      refine wp_loop_ix I3_12 (n - 0) ?_ ?_
      ·rw [unhide hI3_12]; exact ⟨0,rfl,rfl,rfl,rfl,rfl,rfl,rfl,rfl,rfl,rfl,rfl,rfl,rfl,rfl,rfl,rfl,rfl,rfl,Nat.zero_le _,(fun j' h => by omega),unhide hP,rfl⟩
      ·rintro fj ⟨tm,dfs⟩ wr hrel
       rw [unhide hI3_12] at hrel
       obtain ⟨j,hsz,e0,e1,e2,e3,e4,e5,e6,e8,e9,e11,e23,e24,e25,e53,e54,e55,hdf,hjn,hall0,hPs,hgm⟩ := hrel
       obtain ⟨us,rfl⟩ : ∃ us : Nat → Value,tm = #[us 0,us 1,us 2,us 3,us 4,us 5,us 6,us 7,us 8,us 9,us 10,us 11,us 12,us 13,us 14,us 15,us 16,us 17,us 18,us 19,us 20,us 21,us 22,us 23,us 24,us 25,us 26,us 27,us 28,us 29,us 30,us 31,us 32,us 33,us 34,us 35,us 36,us 37,us 38,us 39,us 40,us 41,us 42,us 43,us 44,us 45,us 46,us 47,us 48,us 49,us 50,us 51,us 52,us 53,us 54,us 55,us 56,us 57,us 58,us 59,us 60,us 61,us 62,us 63,us 64,us 65,us 66,us 67,us 68,us 69,us 70,us 71,us 72,us 73,us 74,us 75,us 76,us 77,us 78,us 79,us 80,us 81,us 82,us 83,us 84,us 85,us 86,us 87] := ⟨fun i => tm.getD i undef,arr_fn hsz⟩
       have h0 : us 0 = .slice A n c := e0
       have h1 : us 1 = .pointer (some ⟨b1,0,none⟩) := e1
       have h2 : us 2 = .pointer (some ⟨b2,0,none⟩) := e2
       have h3 : us 3 = .pointer (some ⟨b3,0,none⟩) := e3
       have h4 : us 4 = .pointer (some ⟨b4,0,none⟩) := e4
       have h5 : us 5 = .pointer (some ⟨b5,0,none⟩) := e5
       have h6 : us 6 = .pointer (some ⟨b6,0,none⟩) := e6
       have h8 : us 8 = .bool false := e8
       have h9 : us 9 = .int .i64 (n : Nat) := e9
       have h11 : us 11 = .pointer (some ⟨r11,0,none⟩) := e11
       have h23 : us 23 = .slice (some ⟨ba,oa,none⟩) nu cu := e23
       have h24 : us 24 = .int .i64 (nu : Nat) := e24
       have h25 : us 25 = .int .i64 (i : Nat) := e25
       have h53 : us 53 = .slice A n c := e53
       have h54 : us 54 = .int .i64 (n : Nat) := e54
       have h55 : us 55 = .int .i64 (j : Nat) := e55
       have hdf2 : dfs = [] := hdf
       subst hdf2
       clear hdf hsz e0 e1 e2 e3 e4 e5 e6 e8 e9 e11 e23 e24 e25 e53 e54 e55
       simp only [h0,h1,h2,h3,h4,h5,h6,h8,h9,h11,h23,h24,h25,h53,h54,h55]
       clear h0 h1 h2 h3 h4 h5 h6 h8 h9 h11 h23 h24 h25 h53 h54 h55
       clear hP hx9'
       have hP := hide hPs
       have hgm' := hide hgm
       have hall := hide hall0
       clear hPs hgm hall0
       have hxr := hide (unhide hP).extf
       have hpr := hide (PlI.ext (unhide hC').keep (unhide hpl') (unhide hxr))
       have hFr := hide ((unhide h').fix FxM.keep (unhide hpr))
       by_cases hjt : j < n
       ·skip
        have hil2 : (j : Int) < (n : Int) := by omega
        have hjb : (j : Int) ≤ 8 := by have := unhide hl'; have := unhide hnf'; omega
        have hjx : j < xs.length := by rw [← unhide hn']; exact hjt
        have hjV : j < V.length := by omega
        have hnb : (n : Int) ≤ 8 := by have := unhide hl'; have := unhide hnf'; omega
        have hnL : (n : Int) < (nv : Int) := by have := unhide hnf'; omega
        have hjL : (j : Int) < (nv : Int) := by have := unhide hnf'; omega
        have hjt' := hide hjt
        obtain ⟨bA,oA,rfl,c0⟩ := atI (own_at (by have h := (unhide hpr).own; rw [unhide hn'] at h; exact h) (fun _ => rfl)) hjx
        obtain ⟨bw,ow,hbw,m0,m1,m2⟩ := atV (unhide hFr).va hjV
        cases hbw
        obtain ⟨bw,ow,hbw,k0,k1,k2⟩ := atV (unhide hFr).va hnw
        cases hbw
        rw [← unhide hx2'] at k0
        dsimp only at k0
        clear m1 m2 k1 k2
        have e1 := (unhide hFr).c1.cells 0 (v := .slice (some ⟨bv2,ov2,none⟩) nv cv) rfl
        have e4 := (unhide hFr).c4.cells 0 (v := .pointer (some ⟨ga,0,none⟩)) rfl
        have e5 := (unhide hFr).c5.cells 0 (v := .pointer (some ⟨gb,0,none⟩)) rfl
        have d0 := (unhide hP).cell 0 0 (v := .int .i64 x) rfl rfl
        have hself := Ext.refl wr
        obtain ⟨o1,ho1⟩ : ∃ o1,o1 = betE E ((idsV V).getD j 0) x2 := ⟨_,rfl⟩
        obtain ⟨o2,ho2⟩ : ∃ o2,o2 = betE E' (xs.getD j 0) x := ⟨_,rfl⟩
        obtain ⟨xj,hxj⟩ : ∃ xj,xj = xs[j] := ⟨_,rfl⟩
        obtain ⟨vj,hvj⟩ : ∃ vj,vj = V[j].1 := ⟨_,rfl⟩
        rw [← hxj] at c0
        rw [← hvj] at m0
        have hs1 := hide (show ∀ W,Ext wr W → Calls Tryz.prog 78 #[.pointer (some ⟨ga,0,none⟩), .int .i64 vj, .int .i64 x2] W (fun e w' => e = .returned (sideV o1) ∧ Ext W w') from fun W hW => by
         rw [ho1,ids_at hjV,hvj]
         exact side_any ga bva bea V E _ _ W ((unhide hFr).ha.ext hW) (unhide hlb'))
        have hs2 := hide (show ∀ W,Ext wr W → Calls Tryz.prog 78 #[.pointer (some ⟨gb,0,none⟩), .int .i64 xj, .int .i64 x] W (fun e w' => e = .returned (sideV o2) ∧ Ext W w') from fun W hW => by
         rw [ho2,getD_idx hjx,hxj]
         exact side_any gb bvb beb V' E' _ _ W ((unhide hFr).hb.ext hW) (unhide hlb2'))
        have ho1' := hide ho1
        have ho2' := hide ho2
        clear ho1 ho2 hxj hvj hjt hjn
        try dsimp only
        repeat ((fail_if_success (with_reducible refine wp_reg (id := 9) ?_)); (first | go_values | go_skip | go_step | go_guarded | go_upon | go_in | go_back | fail))
        with_reducible refine wp_reg (id := 9) ?_
        refine wpO_want rfl ?_
        go_simp
        refine wpO_done ?_
        try go_frame
        try dsimp only
        repeat ((fail_if_success (with_reducible refine wp_reg (id := 10) ?_)); (first | go_values | go_skip | go_step | go_guarded | go_upon | go_in | go_back | fail))
        with_reducible refine wp_reg (id := 10) ?_
        iterate 5
         refine wpO_want rfl ?_
         go_simp
        refine wpO_done ?_
        try go_frame
        go_wp2_with fail
        refine wp_region_ext (P := Tryz.prog) [0,1,2,3,4,5,6,7,8,9,10,11,12,13,14,15,16,17] [] 0 #[true,true,true,true,true,true,true,true,true,true,true,true,true,true,true,true,true,true] (by kernel_rfl) (by kernel_rfl) rfl (by rfl) ?_
        iterate 11
         first
         | (refine ql_skip rfl (by rfl) ?_)
         | (refine ql_want (v := ?_) rfl (by rfl) (fun W hW => ?_) ?_; rotate_left; (go_simp; (first | done | rfl)))
         try go_frame
        refine ql_want (v := sideV o1) rfl (by rfl) (fun W hW => ?_) ?_
        ·go_simp
         refine (unhide hs1 W hW).mono ?_
         rintro _ _ ⟨h1,h2⟩
         exact ⟨_,h1,rfl,h2⟩
        go_frame
        iterate 4
         first
         | (refine ql_skip rfl (by rfl) ?_)
         | (refine ql_want (v := ?_) rfl (by rfl) (fun W hW => ?_) ?_; rotate_left; (go_simp; (first | done | rfl)))
         try go_frame
        refine ql_want (v := sideV o2) rfl (by rfl) (fun W hW => ?_) ?_
        ·go_simp
         refine (unhide hs2 W hW).mono ?_
         rintro _ _ ⟨h1,h2⟩
         exact ⟨_,h1,rfl,h2⟩
        go_frame
        obtain ⟨ne,hne⟩ : ∃ ne,ne = !decide (o1 = o2) := ⟨_,rfl⟩
        refine ql_want (v := .bool ne) rfl (by rfl) (fun W hW => qUpon_ofX (by rw [hne]; exact run_neqSide rfl rfl rfl)) ?_
        go_frame
        have hne' := hide hne
        clear hne
        refine wpQL_nil (fun y4 hxq => ?_)
        replace hP : Hid (Sp wo [] wo [] [(r11,81, #[.int .i64 x, .int .u8 lab, .int .i64 wt])] [] y4) := hide ((unhide hP).ext hxq)
        replace hpr := hide (PlI.ext (unhide hC').keep (unhide hpr) hxq)
        clear c0 m0 k0 e1 e4 e5 d0 hself hs1 hs2 hxq
        refine wpX_done (by kernel_rfl) ?_
        try go_frame
        cases ne
        ·skip
         have ho12 := hide (show o1 = o2 from by have h := unhide hne'; simpa using h)
         clear hil2
         go_wp2_with fail
         refine ⟨n - (j + 1), ?_,by have := unhide hgm'; have := unhide hjt'; omega⟩
         rw [unhide hI3_12]
         exact ⟨j + 1,(by first | rfl | trivial),(by first | rfl | trivial),(by first | rfl | trivial),(by first | rfl | trivial),(by first | rfl | trivial),(by first | rfl | trivial),(by first | rfl | trivial),(by first | rfl | trivial),(by first | rfl | trivial),(by first | rfl | trivial),(by first | rfl | trivial),(by first | rfl | trivial),(by first | rfl | trivial),(by first | rfl | trivial),(by first | rfl | trivial),(by first | rfl | trivial),(by first | rfl | (show _ = Value.int _ _; go_num) | go_num),(by first | rfl | trivial),by have := unhide hjt'; omega,(fun j' h => by
          by_cases h2 : j' < j
          ·exact unhide hall j' h2
          ·obtain rfl : j' = j := by omega
           rw [← unhide ho1', ← unhide ho2']; exact unhide ho12),unhide hP,rfl⟩
        ·skip
         have ho12 := hide (show ¬ o1 = o2 from by have h := unhide hne'; simpa using h)
         clear hil2
         go_wp2_with fail
         have hokf : okM V E (idsV V) V' E' xs x = false := by
          rw [unhide hok]
          have h2 : ((List.range n).all fun j => decide (betE E ((idsV V).getD j 0) x2 = betE E' (xs.getD j 0) x)) = false := by
           rw [List.all_eq_false]
           exact ⟨j,List.mem_range.2 (unhide hjt'),by rw [← unhide ho1', ← unhide ho2',decide_eq_true_eq]; exact unhide ho12⟩
          rw [h2,Bool.and_false]
         have hnm := mapT_no (V := V) (E := E) (ids := idsV V) (V' := V') (E' := E') (f := f) (xs := xs) hiu (by rw [unhide hie,hokf])
         refine ⟨nu - (i + 1), ?_,by have := unhide hfm'; have := unhide hlt'; omega⟩
         rw [unhide hI0_2]
         exact ⟨i + 1,(by first | rfl | trivial),(by first | rfl | trivial),(by first | rfl | trivial),(by first | rfl | trivial),(by first | rfl | trivial),(by first | rfl | trivial),(by first | rfl | trivial),(by first | rfl | trivial),(by first | rfl | trivial),(by first | rfl | trivial),(by first | rfl | trivial),(by first | rfl | trivial),(by first | rfl | (show _ = Value.int _ _; go_num) | go_num),(by first | rfl | trivial),by have := unhide hlt'; omega,by rw [hnm]; exact unhide hpr,by rw [hnm]; exact unhide hz,rfl⟩
       ·skip
        have hil2 : ¬ (j : Int) < (n : Int) := by omega
        obtain rfl : n = j := by omega
        clear hjt hjn
        try dsimp only
        repeat ((fail_if_success (with_reducible refine wp_reg (id := 9) ?_)); (first | go_values | go_skip | go_step | go_guarded | go_upon | go_in | go_back | fail))
        with_reducible refine wp_reg (id := 9) ?_
        refine wpO_want rfl ?_
        go_simp
        refine wpO_done ?_
        try go_frame
        clear hil2
        go_wp2_with fail
        obtain ⟨S,hS0⟩ : ∃ S,S = (Value.slice A n c).ownBlock.toList := ⟨_,rfl⟩
        have hS := hide hS0
        clear hS0
        have hb6 := hide (show b6 ∉ S from fun hm => ((unhide h').vf b6 (by rw [unhide hS] at hm; simpa using hm)).1 (by simp [tfM]))
        have hr9 := hide (show r11 ∉ S from fun hm => by
         rw [unhide hS] at hm
         have h1 := (own_base (unhide h').own (by simpa using hm)).2.1
         have h2 := (unhide hP).st.ge r11 (by simp [stT,rwT])
         have h3 := (unhide hpl').keep.size
         omega)
        have hokt : okM V E (idsV V) V' E' xs x = true := by
         rw [unhide hok]
         have h2 : x ∉ xs := of_decide_eq_false (unhide hcq').symm
         have h3 : ((List.range n).all fun j => decide (betE E ((idsV V).getD j 0) x2 = betE E' (xs.getD j 0) x)) = true := List.all_eq_true.2 fun j hj => decide_eq_true (unhide hall j (List.mem_range.1 hj))
         rw [h3,unhide hlab',unhide hwt']
         simp [h2]
        have hnm := hide (mapT_yes (V := V) (E := E) (ids := idsV V) (V' := V') (E' := E') (f := f) (xs := xs) hiu (by rw [unhide hie,hokt]))
        rw [unhide hie] at hnm
        obtain ⟨Lc,hLc⟩ : ∃ Lc,Lc = extL V E (idsV V) V' E' ui f (xs ++ [x]) := ⟨_,rfl⟩
        obtain ⟨an,han⟩ : ∃ an,an = ansT q Lc := ⟨_,rfl⟩
        rw [← hLc] at hnm
        have hLc' := hide hLc
        have han' := hide han
        clear hokt hLc han
        refine wp_regionK (P := Tryz.prog) S [0,1,2,3] [6,7] 4 #[true,true,true,true,false,false,false,false] (by kernel_rfl) (by kernel_rfl) rfl (by rfl) ?_
        refine ql_want (v := .func (.func 82) #[] #[.pointer (some ⟨b1,0,none⟩), .pointer (some ⟨b2,0,none⟩), .pointer (some ⟨b3,0,none⟩), .pointer (some ⟨b4,0,none⟩), .pointer (some ⟨b5,0,none⟩), .pointer (some ⟨b6,0,none⟩)]) rfl (by rfl) (fun W hW => qUpon_ofX (load_V rfl rfl (by simp [go_sem]) (((unhide hFr).c6.keep hW (unhide hb6)).cells 0 rfl W (Ext.refl W)))) ?_
        go_frame
        iterate 2
         refine ql_want (v := ?_) rfl (by rfl) (fun W hW => ?_) ?_
         rotate_left
         ·go_simp
          first | done | rfl
         go_frame
        refine ql_want (v := .int .i64 x) rfl (by rfl) (fun W hW => qUpon_ofX (load_V rfl rfl (by simp [go_sem]) (((unhide hP).get 0 rfl |>.keep hW (unhide hr9)).cells 0 rfl W (Ext.refl W)))) ?_
        go_frame
        refine wpQL_nil (fun y4 hxq => ?_)
        have hK := hide (hxq.keep S)
        replace hP : Hid (Sp wo [] wo [] [(r11,81, #[.int .i64 x, .int .u8 lab, .int .i64 wt])] [] y4) := hide ((unhide hP).ext hxq)
        clear hxq
        refine lx_one (i := 4) (by kernel_rfl) rfl (by rfl) #[true,true,true,true,true,false,false,false] (by rfl) ?_
        refine (unhide hP).allocL (unhide hK) (v := fun b => .slice (some ⟨b,0,none⟩) 1 1) 3 #[.int .i64 x] ?_ ?_
        ·exact run_build1 rfl rfl
        intro r45 y5 hQ hK2 hg2
        replace hP : Hid (Sp wo [] wo [] [(r11,81, #[.int .i64 x, .int .u8 lab, .int .i64 wt]),(r45,3, #[.int .i64 x])] [] y5) := hide hQ
        replace hK := hide hK2
        have hge_r45 := hide hg2
        clear hQ hK2 hg2
        try go_frame
        have hx5 := hide (unhide hP).extf
        have hp5 := hide (PlI.ext (unhide hC').keep (unhide hpl') (unhide hx5))
        refine lx_one (i := 5) (by kernel_rfl) rfl (by rfl) #[true,true,true,true,true,true,false,false] (by rfl) ?_
        refine lx_apR (base := 0) (v := .slice A n c) (n := n) (xs := xs) rfl x rfl rfl ((unhide hP).get 1 rfl) (unhide hp5).own (unhide hn') (by have := unhide hl'; have := unhide hnf'; omega) (Nat.zero_le _) ?_
        intro A6 c6 w6 ho6 hov hg6 hG
        refine ⟨fun _ => (unhide hK).trans (by rw [unhide hS]; exact Keep.of_grown hg6),fun y7 hxd => ?_⟩
        obtain ⟨Tc,hH0,hback0⟩ := (unhide h').step FxM.keep (unhide hC').keep (unhide hC').lt (unhide hn') (unhide hpl') (unhide hx5) (own_keep ho6 (hxd.keep []) (by simp)) (own_keep hov (hxd.keep []) (by simp)) (grown_ext hg6 hxd) hG
        have hca := (unhide ih') _ Tc y7 A6 c6 (xs ++ [x]) hH0 (by rw [List.length_append, ← unhide hn']; rfl) (by
         have h2 := unhide hN'
         obtain ⟨R,hR⟩ := mapT_pre (V := V) (E := E) (ids := idsV V) (V' := V') (E' := E') (us := ui) (f := f) (xs := xs) (i + 1)
         rw [hR,unhide hnm,unhide hLc'] at h2
         simp only [List.length_append] at h2 ⊢
         omega)
        rw [← unhide hLc', ← unhide han'] at hca
        have hca' := hide hca
        have hback := hide hback0
        clear hH0 hback0 ho6 hov hg6 hG hxd hK hP hFr hpr hca
        try go_frame
        refine lx_one (i := 6) (by kernel_rfl) rfl (by rfl) #[true,true,true,true,true,true,true,false] (by rfl) ?_
        go_simp
        refine (unhide hca').mono ?_
        rintro _ W7 ⟨rfl,hp7⟩
        refine ⟨_,rfl,fun y8 hxd => ?_⟩
        have hp8 := hide (PlI.ext (unhide hC').keep ((unhide hback) _ _ hp7) hxd)
        clear hp7 hxd hback hp5 hx5 hca'
        try go_frame
        refine lx_one (i := 7) (by kernel_rfl) rfl (by rfl) #[true,true,true,true,true,true,true,true] (by rfl) ?_
        go_simp
        intro y9 hxd
        replace hp8 := hide (PlI.ext (unhide hC').keep (unhide hp8) hxd)
        clear hxd
        try go_frame
        refine wpX_done (by kernel_rfl) ?_
        try go_frame
        cases an
        ·skip
         have hst := outT_stop (q := q) (L := extL V E (idsV V) V' E' ui (f + 1) xs) (unhide han').symm (show extL V E (idsV V) V' E' ui (f + 1) xs = Lc ++ (mapT_pre (V := V) (E := E) (ids := idsV V) (V' := V') (E' := E') (us := ui) (f := f) (xs := xs) (i + 1)).choose from by
          have h1 := (mapT_pre (V := V) (E := E) (ids := idsV V) (V' := V') (E' := E') (us := ui) (f := f) (xs := xs) (i + 1)).choose_spec
          generalize (mapT_pre (V := V) (E := E) (ids := idsV V) (V' := V') (E' := E') (us := ui) (f := f) (xs := xs) (i + 1)).choose = R at *
          have hqf : q = false := by
           cases q with
           | true => exact absurd (unhide han') (by simp [ansT])
           | false => rfl
          rw [h1,unhide hnm,unhide hz hqf,List.nil_append])
         have hfin : ExPost J T (.slice A n c) n xs w (told ++ outT q (extL V E (idsV V) V' E' ui (f + 1) xs)) (ansT q (extL V E (idsV V) V' E' ui (f + 1) xs)) (.returned (.bool false)) y9 := by
          have hp9 := unhide hp8
          rw [unhide hz hst.1,List.append_nil] at hp9
          rw [hst.2.1,hst.2.2]
          exact ⟨rfl,hp9⟩
         have hfin' := hide hfin
         clear hst hfin
         try dsimp only
         repeat ((fail_if_success (with_reducible refine wp_reg (id := 14) ?_)); (first | go_values | go_skip | go_step | go_guarded | go_upon | go_in | go_back | fail))
         with_reducible refine wp_reg (id := 14) ?_
         refine wpO_want rfl ?_
         go_simp
         refine wpO_done ?_
         try go_frame
         go_wp2_with fail
         have hfin2 := unhide hfin'
         refine Sp.leaves0 ?_
         exact ⟨_,results_tmp (t := 8) rfl _ _ _,hfin2⟩
        ·skip
         go_wp2_with fail
         have hp9 := unhide hp8
         rw [outT_go (unhide han').symm,List.append_assoc, ← unhide hnm] at hp9
         refine ⟨nu - (i + 1), ?_,by have := unhide hfm'; have := unhide hlt'; omega⟩
         rw [unhide hI0_2]
         exact ⟨i + 1,(by first | rfl | trivial),(by first | rfl | trivial),(by first | rfl | trivial),(by first | rfl | trivial),(by first | rfl | trivial),(by first | rfl | trivial),(by first | rfl | trivial),(by first | rfl | trivial),(by first | rfl | trivial),(by first | rfl | trivial),(by first | rfl | trivial),(by first | rfl | trivial),(by first | rfl | (show _ = Value.int _ _; go_num) | go_num),(by first | rfl | trivial),by have := unhide hlt'; omega,hp9,(fun hq0 => by rw [unhide hnm,unhide hz hq0,outT_nil (unhide han').symm hq0]; rfl),rfl⟩
     ·skip
      have hwq : ((wt : Int) != wt2) = true := by simp [hwt]
      have hwt' := hide hwt
      clear hwt
      refine wp_region_ext (P := Tryz.prog) [0,1,2,3,4,5,6,7,8,9,10,11,12,13,14,15,16,17,18,19,20,21,22,23] [] 0 #[true,true,true,true,true,true,true,true,true,true,true,true,true,true,true,true,true,true,true,true,true,true,true,true] (by kernel_rfl) (by kernel_rfl) rfl (by rfl) ?_
      iterate 3
       first
       | (refine ql_skip rfl (by rfl) ?_)
       | (refine ql_want (v := ?_) rfl (by rfl) (fun W hW => ?_) ?_; rotate_left; (go_simp; (first | done | rfl)))
       try go_frame
      refine ql_want (v := .bool false) rfl (by rfl) (fun W hW => ?_) ?_
      ·go_simp
       refine (unhide hcn W hW).mono ?_
       rintro _ _ ⟨h1,h2⟩
       exact ⟨_,h1,rfl,h2⟩
      go_frame
      iterate 20
       first
       | (refine ql_skip rfl (by rfl) ?_)
       | (refine ql_want (v := ?_) rfl (by rfl) (fun W hW => ?_) ?_; rotate_left; (go_simp; (first | done | rfl)))
       try go_frame
      refine wpQL_nil (fun y3 hxq => ?_)
      replace hP : Hid (Sp wr [] wr [] [(r11,81, #[.int .i64 x, .int .u8 lab, .int .i64 wt])] [] y3) := hide ((unhide hP).ext hxq)
      replace hx9' := hide ((unhide hx9').trans hxq)
      clear k0 k1 k2 e1 d1 d2 hself hcn
      replace d0 := fun (W : World) (hW : Ext y3 W) => d0 W (hxq.trans hW)
      clear hxq
      refine wpX_done (by kernel_rfl) ?_
      try go_frame
      have hpl2 := hide (PlI.ext (unhide hC').keep (unhide hpl') (unhide hx9'))
      clear d0
      go_wp2_with fail
      have hokf : okM V E (idsV V) V' E' xs x = false := by
       rw [unhide hok]
       have h2 : ¬ (lab,wt) = (lab2,wt2) := fun h => unhide hwt' (Prod.ext_iff.1 h).2
       rw [decide_eq_false h2,Bool.and_false,Bool.false_and]
      have hnm := mapT_no (V := V) (E := E) (ids := idsV V) (V' := V') (E' := E') (f := f) (xs := xs) hiu (by rw [unhide hie,hokf])
      refine ⟨nu - (i + 1), ?_,by have := unhide hfm'; have := unhide hlt'; omega⟩
      rw [unhide hI0_2]
      exact ⟨i + 1,(by first | rfl | trivial),(by first | rfl | trivial),(by first | rfl | trivial),(by first | rfl | trivial),(by first | rfl | trivial),(by first | rfl | trivial),(by first | rfl | trivial),(by first | rfl | trivial),(by first | rfl | trivial),(by first | rfl | trivial),(by first | rfl | trivial),(by first | rfl | trivial),(by first | rfl | (show _ = Value.int _ _; go_num) | go_num),(by first | rfl | trivial),by have := unhide hlt'; omega,by rw [hnm]; exact unhide hpl2,by rw [hnm]; exact unhide hz,rfl⟩
    ·skip
     have hlq : ((lab : Int) != lab2) = true := by simp [hlab]
     have hlab' := hide hlab
     clear hlab
     refine wp_region_ext (P := Tryz.prog) [0,1,2,3,4,5,6,7,8,9,10,11,12,13,14,15,16,17,18,19,20,21,22,23] [] 0 #[true,true,true,true,true,true,true,true,true,true,true,true,true,true,true,true,true,true,true,true,true,true,true,true] (by kernel_rfl) (by kernel_rfl) rfl (by rfl) ?_
     iterate 3
      first
      | (refine ql_skip rfl (by rfl) ?_)
      | (refine ql_want (v := ?_) rfl (by rfl) (fun W hW => ?_) ?_; rotate_left; (go_simp; (first | done | rfl)))
      try go_frame
     refine ql_want (v := .bool false) rfl (by rfl) (fun W hW => ?_) ?_
     ·go_simp
      refine (unhide hcn W hW).mono ?_
      rintro _ _ ⟨h1,h2⟩
      exact ⟨_,h1,rfl,h2⟩
     go_frame
     iterate 20
      first
      | (refine ql_skip rfl (by rfl) ?_)
      | (refine ql_want (v := ?_) rfl (by rfl) (fun W hW => ?_) ?_; rotate_left; (go_simp; (first | done | rfl)))
      try go_frame
     refine wpQL_nil (fun y3 hxq => ?_)
     replace hP : Hid (Sp wr [] wr [] [(r11,81, #[.int .i64 x, .int .u8 lab, .int .i64 wt])] [] y3) := hide ((unhide hP).ext hxq)
     replace hx9' := hide ((unhide hx9').trans hxq)
     clear k0 k1 k2 e1 d1 d2 hself hcn
     replace d0 := fun (W : World) (hW : Ext y3 W) => d0 W (hxq.trans hW)
     clear hxq
     refine wpX_done (by kernel_rfl) ?_
     try go_frame
     have hpl2 := hide (PlI.ext (unhide hC').keep (unhide hpl') (unhide hx9'))
     clear d0
     go_wp2_with fail
     have hokf : okM V E (idsV V) V' E' xs x = false := by
      rw [unhide hok]
      have h2 : ¬ (lab,wt) = (lab2,wt2) := fun h => unhide hlab' (Prod.ext_iff.1 h).1
      rw [decide_eq_false h2,Bool.and_false,Bool.false_and]
     have hnm := mapT_no (V := V) (E := E) (ids := idsV V) (V' := V') (E' := E') (f := f) (xs := xs) hiu (by rw [unhide hie,hokf])
     refine ⟨nu - (i + 1), ?_,by have := unhide hfm'; have := unhide hlt'; omega⟩
     rw [unhide hI0_2]
     exact ⟨i + 1,(by first | rfl | trivial),(by first | rfl | trivial),(by first | rfl | trivial),(by first | rfl | trivial),(by first | rfl | trivial),(by first | rfl | trivial),(by first | rfl | trivial),(by first | rfl | trivial),(by first | rfl | trivial),(by first | rfl | trivial),(by first | rfl | trivial),(by first | rfl | trivial),(by first | rfl | (show _ = Value.int _ _; go_num) | go_num),(by first | rfl | trivial),by have := unhide hlt'; omega,by rw [hnm]; exact unhide hpl2,by rw [hnm]; exact unhide hz,rfl⟩
   ·skip
    refine wp_region_ext (P := Tryz.prog) [0,1,2,3,4,5,6,7,8,9,10,11,12,13,14,15,16,17,18,19,20,21,22,23] [] 0 #[true,true,true,true,true,true,true,true,true,true,true,true,true,true,true,true,true,true,true,true,true,true,true,true] (by kernel_rfl) (by kernel_rfl) rfl (by rfl) ?_
    iterate 3
     first
     | (refine ql_skip rfl (by rfl) ?_)
     | (refine ql_want (v := ?_) rfl (by rfl) (fun W hW => ?_) ?_; rotate_left; (go_simp; (first | done | rfl)))
     try go_frame
    refine ql_want (v := .bool true) rfl (by rfl) (fun W hW => ?_) ?_
    ·go_simp
     refine (unhide hcn W hW).mono ?_
     rintro _ _ ⟨h1,h2⟩
     exact ⟨_,h1,rfl,h2⟩
    go_frame
    iterate 20
     first
     | (refine ql_skip rfl (by rfl) ?_)
     | (refine ql_want (v := ?_) rfl (by rfl) (fun W hW => ?_) ?_; rotate_left; (go_simp; (first | done | rfl)))
     try go_frame
    refine wpQL_nil (fun y3 hxq => ?_)
    replace hP : Hid (Sp wr [] wr [] [(r11,81, #[.int .i64 x, .int .u8 lab, .int .i64 wt])] [] y3) := hide ((unhide hP).ext hxq)
    replace hx9' := hide ((unhide hx9').trans hxq)
    clear k0 k1 k2 e1 d1 d2 hself hcn
    replace d0 := fun (W : World) (hW : Ext y3 W) => d0 W (hxq.trans hW)
    clear hxq
    refine wpX_done (by kernel_rfl) ?_
    try go_frame
    have hpl2 := hide (PlI.ext (unhide hC').keep (unhide hpl') (unhide hx9'))
    clear d0
    go_wp2_with fail
    have hokf : okM V E (idsV V) V' E' xs x = false := by
     rw [unhide hok]
     have h2 : x ∈ xs := of_decide_eq_true (unhide hcq').symm
     simp [h2]
    have hnm := mapT_no (V := V) (E := E) (ids := idsV V) (V' := V') (E' := E') (f := f) (xs := xs) hiu (by rw [unhide hie,hokf])
    refine ⟨nu - (i + 1), ?_,by have := unhide hfm'; have := unhide hlt'; omega⟩
    rw [unhide hI0_2]
    exact ⟨i + 1,(by first | rfl | trivial),(by first | rfl | trivial),(by first | rfl | trivial),(by first | rfl | trivial),(by first | rfl | trivial),(by first | rfl | trivial),(by first | rfl | trivial),(by first | rfl | trivial),(by first | rfl | trivial),(by first | rfl | trivial),(by first | rfl | trivial),(by first | rfl | trivial),(by first | rfl | (show _ = Value.int _ _; go_num) | go_num),(by first | rfl | trivial),by have := unhide hlt'; omega,by rw [hnm]; exact unhide hpl2,by rw [hnm]; exact unhide hz,rfl⟩
  ·skip
   have hil : ¬ (i : Int) < (nu : Int) := by omega
   obtain rfl : nu = i := by omega
   have hful := hide (mapT_full (V := V) (E := E) (ids := idsV V) (V' := V') (E' := E') (us := ui) (f := f) (xs := xs) (Nat.le_of_eq (unhide hul).symm))
   clear hlt hin
   try dsimp only
   repeat ((fail_if_success (with_reducible refine wp_reg (id := 5) ?_)); (first | go_values | go_skip | go_step | go_guarded | go_upon | go_in | go_back | fail))
   with_reducible refine wp_reg (id := 5) ?_
   refine wpO_want rfl ?_
   go_simp
   refine wpO_done ?_
   try go_frame
   clear hil
   try dsimp only
   repeat ((fail_if_success (with_reducible refine wp_reg (id := 16) ?_)); (first | go_values | go_skip | go_step | go_guarded | go_upon | go_in | go_back | fail))
   with_reducible refine wp_reg (id := 16) ?_
   refine wpO_want rfl ?_
   go_simp
   refine wpO_done ?_
   try go_frame
   go_wp2_with fail
   refine Sp.leaves0 ?_
   refine ⟨_,results_tmp rfl _ _ _, ?_⟩
   have hfin := unhide hpl'
   have hz2 := unhide hz
   rw [unhide hful] at hfin hz2
   cases q with
   | true => exact ⟨rfl,hfin⟩
   | false =>
    rw [hz2 rfl] at hfin ⊢
    exact ⟨rfl,hfin⟩
theorem extend_any {b1 b2 b3 b4 b5 b6 nv cv nu cu ga bva bea gb bvb beb fd N : Nat} {Av Au : Option Addr} {V V' : List (Int × Thing)} {E E' : List ((Int × Int) × Thing)} {caps : Array Value} {q : Bool} {J : List (List Int) → List Nat → World → Prop} (hC : TellN N fd caps q nv J) (hnv : nv = V.length) (hnu : nu = V'.length) (hl : nv ≤ 8) (hlu : nu ≤ 8) (hlb : LabB V E) (hlb2 : LabB V' E') : ∀ (f n : Nat),n + f = nv →
  ∀ (told : List (List Int)) (T : List Nat) (w : World) (A : Option Addr) (c : Nat) (xs : List Int),PlH J (FxM b1 b2 b3 b4 b5 b6 Av nv cv Au nu cu ga bva bea gb bvb beb V E V' E' fd caps) (tfM b1 b2 b3 b4 b5 b6 Av Au ga bva bea gb bvb beb) told T (.slice A n c) n xs w → n = xs.length → told.length + (extL V E (idsV V) V' E' (idsV V') f xs).length ≤ N → Calls Tryz.prog 82 #[.slice A n c, .pointer (some ⟨b1,0,none⟩), .pointer (some ⟨b2,0,none⟩), .pointer (some ⟨b3,0,none⟩), .pointer (some ⟨b4,0,none⟩), .pointer (some ⟨b5,0,none⟩), .pointer (some ⟨b6,0,none⟩)] w (ExPost J T (.slice A n c) n xs w (told ++ outT q (extL V E (idsV V) V' E' (idsV V') f xs)) (ansT q (extL V E (idsV V) V' E' (idsV V') f xs))) := by
 intro f
 induction f with
 | zero =>
  intro n hnf told T w A c xs h hn hN
  have h1 := extend_end hC told T w A n c xs h hn (by omega) (by have : told.length + 1 ≤ N := hN; omega)
  have e1 : outT q (extL V E (idsV V) V' E' (idsV V') 0 xs) = [xs] := by cases q <;> rfl
  have e2 : ansT q (extL V E (idsV V) V' E' (idsV V') 0 xs) = q := by cases q <;> rfl
  rw [e1,e2]
  exact h1
 | succ f ih =>
  intro n hnf told T w A c xs h hn hN
  exact extend_level hC hnv hnu hl hlu hlb hlb2 n f hnf (ih (n + 1) (by omega)) told T w A c xs h hn hN
end Go.Proofs.YtbpeemhfjgcnaaaGreat
