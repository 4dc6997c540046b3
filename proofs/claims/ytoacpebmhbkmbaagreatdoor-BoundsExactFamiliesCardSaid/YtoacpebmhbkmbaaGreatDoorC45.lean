/- Parts of a proof, laid together. Each part says its own conditions. -/
import Derived.Test.YtoacpebmhbkmbaaGreatDoorC36
import Derived.Test.YtoacpebmhbkmbaaGreatDoorC43
import Derived.Test.YtoacpebmhbkmbaaGreatDoorC29
namespace Go.Proofs.YtoacpebmhbkmbaaGreatDoor
open Go Go.RowKit Go.Shelf
attribute [local go_sem] qUpon lUpon
attribute [local irreducible] wpO wpX wpQL
def idxP (p : Int → Bool) (L : List Int) : Int := match L.findIdx? p with
 | some i => (i : Int)
 | none => -1
theorem idx_at {p : Int → Bool} {L : List Int} {i : Nat} (hi : i < L.length) (hp : p L[i] = true) (hno : ∀ x ∈ L.take i,p x = false) : idxP p L = (i : Int) := by
 unfold idxP
 have h : L.findIdx? p = some i := List.findIdx?_eq_some_iff_getElem.2 ⟨hi,hp,fun j hj => by
  rw [hno L[j] (List.mem_take_iff_getElem.2 ⟨j,by omega,rfl⟩)]; simp⟩
 rw [h]
theorem idx_no {p : Int → Bool} {L : List Int} (hno : ∀ x ∈ L,p x = false) : idxP p L = -1 := by
 unfold idxP
 have h : L.findIdx? p = none := List.findIdx?_eq_none_iff.2 fun x hx => hno x hx
 rw [h]
theorem idx_none {p : Int → Bool} {L : List Int} (h : L.find? p = none) : idxP p L = -1 := idx_no fun x hx => by
 have := List.find?_eq_none.1 h x hx
 simpa using this
theorem idx_some {p : Int → Bool} {L : List Int} {x : Int} (h : L.find? p = some x) : ∃ i, ∃ hi : i < L.length,idxP p L = (i : Int) ∧ L[i] = x := by
 obtain ⟨hp,i,hi,e,hno⟩ := List.find?_eq_some_iff_getElem.1 h
 refine ⟨i,hi,idx_at hi (by rw [e]; exact hp) fun y hy => ?_,e⟩
 obtain ⟨j,hj,rfl⟩ := List.mem_take_iff_getElem.1 hy
 have := hno j (by omega)
 simpa using this
theorem corS_step (near : Int → Int → Bool) (k : Int) (n : Nat) (L : List Int) {x : Int} (h : L.find? (fun x => decide ((degP near L x : Int) < k)) = some x) : corS near k (n + 1) L = corS near k n (L.erase x) := by
 conv => lhs; rw [corS]
 rw [h]
theorem corS_stop (near : Int → Int → Bool) (k : Int) (n : Nat) (L : List Int) (h : L.find? (fun x => decide ((degP near L x : Int) < k)) = none) : corS near k n L = L := by
 cases n with
 | zero => rfl
 | succ n =>
  conv => lhs; rw [corS]
  rw [h]
set_option maxRecDepth 100000 in
set_option maxHeartbeats 16000000 in
theorem idxf_any (p : Int → Bool) (A : Option Addr) (L : List Int) (n c fd : Nat) (fb cb : Array Value) (w : World) (hL : SlAt encI 1 w A L) (hn : n = L.length) (hl : n ≤ 100000) (hen : ∀ args w,(callFunc fd args).run Tryz.prog w = .ok (.enter fd args) w) (hc : ∀ W,Ext w W → ∀ x ∈ L, ∀ args,args = fb ++ (#[.int .i64 x] ++ cb) → Calls Tryz.prog fd args W fun e W' => e = .returned (.bool (p x)) ∧ Ext W W') :
  Calls Tryz.prog 78 #[.slice A n c, .func (.func fd) fb cb] w fun e w' => e = .returned (.int .i64 (idxP p L)) ∧ Ext w w' := by
 have hL' := hide hL
 have hn' := hide hn
 have hl' := hide hl
 have hc' := hide hc
 clear hL hn hl hc
 have hP := hide (Sp.new w)
 refine callsIn_wide.1 (callsIn_of_wp_marks (n := 0) Tryz.func78 rfl trivial (wpIn_wide.2 ?_))
 simp only [Tryz.ntmps78,List.size_toArray,List.length_cons,List.length_nil,Nat.reduceAdd,Nat.reduceSub,Array.replicate_succ,Array.replicate_zero,List.push_toArray,List.append_toArray,List.nil_append,List.cons_append]
 try dsimp only
 repeat ((fail_if_success (with_reducible refine wp_reg (id := 1) ?_)); (first | go_values | go_skip | go_step | go_guarded | go_upon | go_in | go_back | fail))
 with_reducible refine wp_reg (id := 1) ?_
 iterate 3
  refine wpO_want rfl ?_
  go_simp
 refine wpO_done ?_
 try go_frame
 go_wp2_with fail
 obtain ⟨I0_2,hI0_20⟩ : ∃ I : Nat → Act → World → Prop,I = fun fi a' wr => ∃ (i : Nat),a'.tmps.size = 19 ∧ a'.tmps.getD 0 undef = .slice A n c ∧ a'.tmps.getD 1 undef = .func (.func fd) fb cb ∧ a'.tmps.getD 7 undef = .int .i64 (n : Nat) ∧ a'.tmps.getD 8 undef = .int .i64 (i : Nat) ∧ a'.defers = [] ∧ i ≤ n ∧ (∀ x ∈ L.take i,p x = false) ∧ Sp w [] w [] [] [] wr ∧ fi = n - i := ⟨_,rfl⟩
 have hI0_2 := hide hI0_20
 clear hI0_20
 refine wp_loop_ix I0_2 (n - 0) ?_ ?_
 ·rw [unhide hI0_2]; exact ⟨0,rfl,rfl,rfl,rfl,rfl,rfl,Nat.zero_le _,by simp,unhide hP,rfl⟩
 ·rintro fi ⟨tm,dfs⟩ wr hrel
  rw [unhide hI0_2] at hrel
  obtain ⟨i,hsz,e0,e1,e7,e8,hdf,hin,hno,hPr,hfm⟩ := hrel
  obtain ⟨us,rfl⟩ : ∃ us : Nat → Value,tm = #[us 0,us 1,us 2,us 3,us 4,us 5,us 6,us 7,us 8,us 9,us 10,us 11,us 12,us 13,us 14,us 15,us 16,us 17,us 18] := ⟨fun i => tm.getD i undef,arr_fn hsz⟩
  have h0 : us 0 = .slice A n c := e0
  have h1 : us 1 = .func (.func fd) fb cb := e1
  have h7 : us 7 = .int .i64 (n : Nat) := e7
  have h8 : us 8 = .int .i64 (i : Nat) := e8
  have hdf2 : dfs = [] := hdf
  subst hdf2
  clear hdf hsz e0 e1 e7 e8
  simp only [h0,h1,h7,h8]
  clear h0 h1 h7 h8
  clear hP
  have hP := hide hPr
  have hno' := hide hno
  have hfm' := hide hfm
  clear hPr hno hfm
  by_cases hlt : i < n
  ·have hil : (i : Int) < (n : Int) := by omega
   have hk2 := hide hlt
   have hiL : i < L.length := by have := unhide hn'; omega
   have hkb : (i : Int) ≤ 100000 := by have := unhide hl'; omega
   obtain ⟨b0,o0,rfl,_⟩ := sl1_some (unhide hL') (by omega)
   have c0 := slE ((unhide hL').ext (unhide hP).extf) hiL
   have hxL := hide (show L[i] ∈ L from List.getElem_mem _)
   have hnx := hide (show ∀ v,p L[i] = v → v = true → idxP p L = (i : Int) from fun v h1 h2 => idx_at hiL (h1.trans h2) (unhide hno'))
   have hny := hide (show p L[i] = false → ∀ x ∈ L.take (i + 1),p x = false from fun h x hx => by
    rw [List.take_succ_eq_append_getElem hiL,List.mem_append,List.mem_singleton] at hx
    rcases hx with hx | rfl
    ·exact unhide hno' x hx
    ·exact h)
   obtain ⟨x,hx⟩ : ∃ x,x = L[i] := ⟨_,rfl⟩
   rw [← hx] at c0 hxL hnx hny
   clear hlt hx hin hiL hno'
   have hself := Ext.refl wr
   try dsimp only
   repeat ((fail_if_success (with_reducible refine wp_reg (id := 2) ?_)); (first | go_values | go_skip | go_step | go_guarded | go_upon | go_in | go_back | fail))
   with_reducible refine wp_reg (id := 2) ?_
   refine wpO_want rfl ?_
   go_simp
   refine wpO_done ?_
   try go_frame
   try dsimp only
   repeat ((fail_if_success (with_reducible refine wp_reg (id := 3) ?_)); (first | go_values | go_skip | go_step | go_guarded | go_upon | go_in | go_back | fail))
   with_reducible refine wp_reg (id := 3) ?_
   iterate 2
    refine wpO_want rfl ?_
    go_simp
   refine wpO_done ?_
   try go_frame
   try dsimp only
   repeat ((fail_if_success (with_reducible refine wp_reg (id := 4) ?_)); (first | go_values | go_skip | go_step | go_guarded | go_upon | go_in | go_back | fail))
   with_reducible refine wp_reg (id := 4) ?_
   iterate 5
    refine wpO_want rfl ?_
    go_simp
   clear c0 hself
   refine wpO_want rfl ?_
   go_simp
   have hca := unhide hc' _ (unhide hP).extf x (unhide hxL) (fb.push (.int .i64 x) ++ cb) (by apply Array.ext'; simp)
   obtain ⟨pv,hpv⟩ : ∃ pv,p x = pv := ⟨_,rfl⟩
   rw [hpv] at hca
   have hpv' := hide hpv
   clear hpv
   refine (hca).mono ?_
   rintro _ y1 ⟨rfl,hxc⟩
   clear hca
   refine ⟨_,rfl, ?_⟩
   replace hP : Hid (Sp w [] w [] [] [] y1) := hide ((unhide hP).ext hxc)
   clear hxc
   refine wpO_done ?_
   try go_frame
   cases pv with
   | true =>
    try dsimp only
    repeat ((fail_if_success (with_reducible refine wp_reg (id := 5) ?_)); (first | go_values | go_skip | go_step | go_guarded | go_upon | go_in | go_back | fail))
    with_reducible refine wp_reg (id := 5) ?_
    iterate 2
     refine wpO_want rfl ?_
     go_simp
    refine wpO_done ?_
    try go_frame
    go_wp2_with fail
    refine Sp.leaves0 ?_
    exact ⟨_,results_tmp (t := 4) rfl _ _ _,by rw [unhide hnx true (unhide hpv') rfl]; rfl,(unhide hP).extf⟩
   | false =>
    have hw1 : IntKind.i64.wrap ((i : Int) + 1) = (i : Int) + 1 := IntWalk.i64_in _ (by omega)
    go_wp2_with fail
    have h1 := unhide hk2
    refine ⟨n - (i + 1), ?_,by have := unhide hfm'; omega⟩
    rw [unhide hI0_2]
    exact ⟨i + 1,(by first | rfl | trivial),(by first | rfl | trivial),(by first | rfl | trivial),(by first | rfl | trivial),(by first | rfl | (show _ = Value.int _ _; go_num) | go_num),(by first | rfl | trivial),by omega,unhide hny (unhide hpv'),unhide hP,rfl⟩
  ·have hil : ¬ (i : Int) < (n : Int) := by omega
   have hno2 := hide (show ∀ x ∈ L,p x = false by have h := unhide hno'; rwa [List.take_of_length_le (by have := unhide hn'; omega)] at h)
   clear hlt hin
   try dsimp only
   repeat ((fail_if_success (with_reducible refine wp_reg (id := 2) ?_)); (first | go_values | go_skip | go_step | go_guarded | go_upon | go_in | go_back | fail))
   with_reducible refine wp_reg (id := 2) ?_
   refine wpO_want rfl ?_
   go_simp
   refine wpO_done ?_
   try go_frame
   go_wp2_with fail
   refine Sp.leaves0 ?_
   exact ⟨_,results_tmp (t := 4) rfl _ _ _,by rw [idx_no (unhide hno2)]; rfl,(unhide hP).extf⟩
set_option maxRecDepth 100000 in
set_option maxHeartbeats 16000000 in
theorem kcore1_any (k : Int) (b5 b3 mb : Nat) (m : List (Int × Nat)) (L : List Int) (near : Int → Int → Bool) (x : Int) (w : World) (h5 : Blk w b5 98 #[.map (some mb)]) (h3 : Blk w b3 3 #[.int .i64 k]) (hM : MapIs ekV evS i64ok w mb m) (hR : Rep m L near) (hx : x ∈ L) :
  Calls Tryz.prog 79 #[.int .i64 x, .pointer (some ⟨b5,0,none⟩), .pointer (some ⟨b3,0,none⟩)] w fun e w' => e = .returned (.bool (decide ((degP near L x : Int) < k))) ∧ Ext w w' := by
 have hM' := hide hM
 have hxo := hide (hR.okx hx)
 obtain ⟨dg,hdg⟩ : ∃ dg,dg = degP near L x := ⟨_,rfl⟩
 have hyd := hide (show cntF (nrM m x) 1024 = dg by rw [hdg]; exact hR.deg hx)
 rw [← hdg]
 obtain ⟨pb,hpb⟩ : ∃ pb,pb = decide ((dg : Int) < k) := ⟨_,rfl⟩
 rw [← hpb]
 have q5 := Blk.cellsK h5 (S := []) (by simp) 0 (v := .map (some mb)) rfl
 have q3 := Blk.cellsK h3 (S := []) (by simp) 0 (v := .int .i64 k) rfl
 have hself := Keep.refl [] w
 have hpb2 := hpb.symm
 clear h5 h3 hM hR hx hdg hpb
 have hP := hide (Sp.new w)
 refine callsIn_wide.1 (callsIn_of_wp_marks (n := 0) Tryz.func79 rfl trivial (wpIn_wide.2 ?_))
 simp only [Tryz.ntmps79,List.size_toArray,List.length_cons,List.length_nil,Nat.reduceAdd,Nat.reduceSub,Array.replicate_succ,Array.replicate_zero,List.push_toArray,List.append_toArray,List.nil_append,List.cons_append]
 go_wp2_with fail
 refine wp_regionK (P := Tryz.prog) [] [0,1,2,3,4,5] [] 0 #[true,true,true,true,true,true] (by kernel_rfl) (by kernel_rfl) rfl (by rfl) ?_
 iterate 2
  refine ql_want (v := ?_) rfl (by rfl) (fun W hW => ?_) ?_
  rotate_left
  ·go_simp
   first | done | rfl
  go_frame
 refine ql_want (v := .int .i64 (dg : Nat)) rfl (by rfl) (fun W hW => ?_) ?_
 ·go_simp
  refine (degree_any mb m x W ((unhide hM').ext hW.ext) (unhide hxo)).mono ?_
  rw [← unhide hyd]
  rintro _ _ ⟨h1,h2⟩
  exact ⟨_,h1,rfl,h2⟩
 go_frame
 iterate 1
  refine ql_want (v := ?_) rfl (by rfl) (fun W hW => ?_) ?_
  rotate_left
  ·go_simp
   first | done | rfl
  go_frame
 refine ql_want (v := .bool pb) rfl (by rfl) (fun W hW => ?_) ?_
 ·go_simp
  first | done | rfl | (rw [hpb2]) | simp [hpb2]
 go_frame
 iterate 1
  refine ql_want (v := ?_) rfl (by rfl) (fun W hW => ?_) ?_
  rotate_left
  ·go_simp
   first | done | rfl
  go_frame
 refine wpQL_nil (fun y1 hxq => ?_)
 replace hP : Hid (Sp w [] w [] [] [] y1) := hide ((unhide hP).ext hxq)
 clear hxq
 refine wpX_done (by kernel_rfl) ?_
 try go_frame
 clear q5 q3 hself
 go_wp2_with fail
 refine Sp.leaves0 ?_
 exact ⟨_,results_tmp (t := 4) rfl _ _ _,rfl,(unhide hP).extf⟩
set_option maxRecDepth 100000 in
set_option maxHeartbeats 16000000 in
theorem kcore_any (og : Option Addr) (V : List (Int × Thing)) (E : List ((Int × Int) × Thing)) (k : Int) (w : World) (hg : GL w og V E) (hi : GInv V E) (hT : Tab w) :
  Calls Tryz.prog 33 #[.pointer og, .int .i64 k] w (OwL w (corS (nr0 E) k (toL (vS V)).length (toL (vS V)))) := by
 have hg' := hide hg
 have hT' := hide hT
 have hR0 := rep_of hi
 obtain ⟨L0,hL0⟩ : ∃ L0,L0 = toL (vS V) := ⟨_,rfl⟩
 obtain ⟨near,hnear⟩ : ∃ near,near = nr0 E := ⟨_,rfl⟩
 obtain ⟨M0,hM0⟩ : ∃ M0,M0 = m0 E L0 := ⟨_,rfl⟩
 rw [← hL0, ← hnear, ← hM0] at hR0
 rw [← hL0, ← hnear]
 have hMe := hide (show m0 E (toL (vS V)) = M0 by rw [hM0,hL0])
 have hR0' := hide hR0
 clear hg hT hi hL0 hnear hM0 hR0
 obtain ⟨D,hD⟩ : ∃ D,D = corS near k L0.length L0 := ⟨_,rfl⟩
 rw [← hD]
 have hD' := hide hD
 clear hD
 have hP := hide (Sp.new w)
 refine callsIn_wide.1 (callsIn_of_wp_marks (n := 0) Tryz.func33 rfl trivial (wpIn_wide.2 ?_))
 simp only [Tryz.ntmps33,List.size_toArray,List.length_cons,List.length_nil,Nat.reduceAdd,Nat.reduceSub,Array.replicate_succ,Array.replicate_zero,List.push_toArray,List.append_toArray,List.nil_append,List.cons_append]
 try dsimp only
 repeat ((fail_if_success (with_reducible refine wp_reg (id := 0) ?_)); (first | go_values | go_skip | go_step | go_guarded | go_upon | go_in | go_back | fail))
 with_reducible refine wp_reg (id := 0) ?_
 refine (unhide hP).allocO 3 #[.int .i64 k] rfl (run_box (v := .int .i64 k) rfl rfl) ?_
 intro b3 y1 hQ
 replace hP : Hid (Sp w [] w [] [(b3,3, #[.int .i64 k])] [] y1) := hide hQ
 clear hQ
 refine wpO_want rfl ?_
 go_simp
 refine wpO_done ?_
 try go_frame
 try dsimp only
 repeat ((fail_if_success (with_reducible refine wp_reg (id := 1) ?_)); (first | go_values | go_skip | go_step | go_guarded | go_upon | go_in | go_back | fail))
 with_reducible refine wp_reg (id := 1) ?_
 refine wpO_want rfl ?_
 go_simp
 refine wpO_want rfl ?_
 go_simp
 have hca := of_adj og V E y1 ((unhide hg').ext (unhide hP).extf) ((unhide hT').ext (unhide hP).extf)
 rw [unhide hMe] at hca
 have htl := ((unhide hT').ext (unhide hP).extf).lt
 refine hca.mono ?_
 clear hca
 rintro _ y2 ⟨mb,rfl,hge,hm,hxc⟩
 have htb := hide (show 0 < mb from Nat.lt_of_lt_of_le htl hge)
 refine ⟨_,rfl, ?_⟩
 replace hP : Hid (Sp w [] w [] [(b3,3, #[.int .i64 k])] [(98,0, .map (some mb),0,mapXs ekV evS M0)] y2) := hide ((unhide hP).addMap hxc hge hm.raw 98 0)
 clear htl hge hm hxc
 refine (unhide hP).allocO 98 #[.map none] rfl (by go_simp) ?_
 intro b5 y3 hQ
 replace hP : Hid (Sp w [] w [] [(b3,3, #[.int .i64 k]),(b5,98, #[.map none])] [(98,0, .map (some mb),0,mapXs ekV evS M0)] y3) := hide hQ
 clear hQ
 refine (unhide hP).setO 1 #[.map (some mb)] rfl rfl (fun hb => run_store_row (v := .map (some mb)) rfl rfl rfl (by simp [go_sem]) hb rfl (by simp [Value.cells,Value.oneCell'])) ?_
 intro y4 hQ
 replace hP : Hid (Sp w [] w [] [(b3,3, #[.int .i64 k]),(b5,98, #[.map (some mb)])] [(98,0, .map (some mb),0,mapXs ekV evS M0)] y4) := hide hQ
 clear hQ
 refine wpO_done ?_
 try go_frame
 go_wp2_with fail
 obtain ⟨I4_2,hI4_20⟩ : ∃ I : Nat → Act → World → Prop,I = fun fi a' wr => ∃ (m : List (Int × Nat)), ∃ (L : List Int),a'.tmps.size = 24 ∧ a'.tmps.getD 3 undef = .pointer (some ⟨b3,0,none⟩) ∧ a'.tmps.getD 5 undef = .pointer (some ⟨b5,0,none⟩) ∧ a'.defers = [] ∧ Rep m L near ∧ D = corS near k fi L ∧ L.length = fi ∧ Sp w [] w [] [(b3,3, #[.int .i64 k]),(b5,98, #[.map (some mb)])] [(98,0, .map (some mb),0,mapXs ekV evS m)] wr := ⟨_,rfl⟩
 have hI4_2 := hide hI4_20
 clear hI4_20
 refine wp_loop_ix I4_2 (L0.length) ?_ ?_
 ·rw [unhide hI4_2]; exact ⟨M0,L0,rfl,rfl,rfl,rfl,unhide hR0',unhide hD',rfl,unhide hP⟩
 ·rintro fi ⟨tm,dfs⟩ wr hrel
  rw [unhide hI4_2] at hrel
  obtain ⟨m,L,hsz,e3,e5,hdf,hRr,hDp,hLf,hPr⟩ := hrel
  obtain ⟨us,rfl⟩ : ∃ us : Nat → Value,tm = #[us 0,us 1,us 2,us 3,us 4,us 5,us 6,us 7,us 8,us 9,us 10,us 11,us 12,us 13,us 14,us 15,us 16,us 17,us 18,us 19,us 20,us 21,us 22,us 23] := ⟨fun i => tm.getD i undef,arr_fn hsz⟩
  have h3 : us 3 = .pointer (some ⟨b3,0,none⟩) := e3
  have h5 : us 5 = .pointer (some ⟨b5,0,none⟩) := e5
  have hdf2 : dfs = [] := hdf
  subst hdf2
  clear hdf hsz e3 e5
  simp only [h3,h5]
  clear h3 h5
  clear hP hR0' hD'
  have hP := hide hPr
  have hR := hide hRr
  have hDp' := hide hDp
  have hLf' := hide hLf
  obtain ⟨nL,hnL0⟩ : ∃ nL,nL = L.length := ⟨_,rfl⟩
  have hnL := hide hnL0.symm
  have hlb := hide (show nL ≤ 1024 by have := hRr.le; omega)
  obtain ⟨p,hp⟩ : ∃ p : Int → Bool,p = fun x => decide ((degP near L x : Int) < k) := ⟨_,rfl⟩
  have hp' := hide hp
  obtain ⟨at_,hat⟩ : ∃ i,i = idxP p L := ⟨_,rfl⟩
  have hat' := hide hat
  clear hPr hRr hDp hLf hnL0 hp hat
  try dsimp only
  repeat ((fail_if_success (with_reducible refine wp_reg (id := 2) ?_)); (first | go_values | go_skip | go_step | go_guarded | go_upon | go_in | go_back | fail))
  with_reducible refine wp_reg (id := 2) ?_
  refine wpO_val rfl (load_V (v := .map (some mb)) rfl rfl (by simp [go_sem]) (((unhide hP).get 1 rfl).cell 0)) ?_
  go_frame
  refine wpO_want rfl ?_
  go_simp
  have hca := left_any mb m L wr ((unhide hP).map 0 rfl (unhide hR).ok) (unhide hR).keys (unhide hR).sorted (by have := (unhide hR).le; omega)
  refine hca.mono ?_
  clear hca
  rintro _ y5 ⟨AL,cL,rfl,ho,hxc⟩
  rw [unhide hnL] at ho
  rw [unhide hnL]
  refine ⟨_,rfl, ?_⟩
  replace hP : Hid (Sp w [] w [] [(b3,3, #[.int .i64 k]),(b5,98, #[.map (some mb)])] [(98,0, .map (some mb),0,mapXs ekV evS m),(3,1, .slice AL nL cL,nL,L.flatMap encI)] y5) := hide ((unhide hP).addRow hxc ho)
  clear ho hxc
  refine wpO_want rfl ?_
  go_simp
  refine wpO_done ?_
  try go_frame
  try dsimp only
  repeat ((fail_if_success (with_reducible refine wp_reg (id := 3) ?_)); (first | go_values | go_skip | go_step | go_guarded | go_upon | go_in | go_back | fail))
  with_reducible refine wp_reg (id := 3) ?_
  iterate 2
   refine wpO_want rfl ?_
   go_simp
  refine wpO_want rfl ?_
  go_simp
  have hls := hide (show SlAt encI 1 y5 AL L from own_at (enc := encI) (by have h := (unhide hP).row 1 rfl; rw [← unhide hnL] at h; exact h) (fun _ => rfl))
  have hca := idxf_any p AL L nL cL 79 #[] #[.pointer (some ⟨b5,0,none⟩), .pointer (some ⟨b3,0,none⟩)] y5 (unhide hls) (unhide hnL).symm (by have := unhide hlb; omega) (Go.Proofs.enters_of Tryz.func79 (by kernel_rfl) rfl) (fun W hW x hx args ha => by
   rw [ha,unhide hp']
   exact kcore1_any k b5 b3 mb m L near x W (((unhide hP).get 1 rfl).ext hW) (((unhide hP).get 0 rfl).ext hW) (((unhide hP).map 0 rfl (unhide hR).ok).ext hW) (unhide hR) hx)
  rw [← unhide hat'] at hca
  refine (hca).mono ?_
  rintro _ y6 ⟨rfl,hxc⟩
  clear hca hls
  refine ⟨_,rfl, ?_⟩
  replace hP : Hid (Sp w [] w [] [(b3,3, #[.int .i64 k]),(b5,98, #[.map (some mb)])] [(98,0, .map (some mb),0,mapXs ekV evS m),(3,1, .slice AL nL cL,nL,L.flatMap encI)] y6) := hide ((unhide hP).ext hxc)
  clear hxc
  refine wpO_want rfl ?_
  go_simp
  refine wpO_done ?_
  try go_frame
  cases hfd : L.find? p with
  | none =>
   obtain rfl : at_ = -1 := by rw [unhide hat']; exact idx_none hfd
   have hDe := hide (show D = L by rw [unhide hDp']; exact corS_stop near k fi L (by rw [← unhide hp']; exact hfd))
   replace hfd := hide hfd
   have hil : (-1 : Int) < 0 := by decide
   try dsimp only
   repeat ((fail_if_success (with_reducible refine wp_reg (id := 4) ?_)); (first | go_values | go_skip | go_step | go_guarded | go_upon | go_in | go_back | fail))
   with_reducible refine wp_reg (id := 4) ?_
   iterate 2
    refine wpO_want rfl ?_
    go_simp
   refine wpO_done ?_
   try go_frame
   try dsimp only
   repeat ((fail_if_success (with_reducible refine wp_reg (id := 5) ?_)); (first | go_values | go_skip | go_step | go_guarded | go_upon | go_in | go_back | fail))
   with_reducible refine wp_reg (id := 5) ?_
   iterate 2
    refine wpO_want rfl ?_
    go_simp
   refine wpO_done ?_
   try go_frame
   clear hil
   go_wp2_with fail
   refine Sp.leaves0 ?_
   exact ⟨_,results_tmp (t := 4) rfl _ _ _,OwL.mk (by rw [unhide hDe]; exact (unhide hnL).symm) (by rw [unhide hDe]; exact (unhide hP).row 1 rfl) (unhide hP).extf⟩
  | some y =>
   obtain ⟨i,hi,hia,hiy⟩ := idx_some hfd
   have hyL := hide (show y ∈ L from List.mem_of_find?_eq_some hfd)
   obtain ⟨f',hf0⟩ : ∃ f',fi = f' + 1 := ⟨fi - 1,by have := unhide hLf'; omega⟩
   have hDe := hide (show D = corS near k f' (L.erase y) by rw [unhide hDp',hf0]; exact corS_step near k f' L (by rw [← unhide hp']; exact hfd))
   obtain rfl : at_ = (i : Int) := by rw [unhide hat']; exact hia
   have hR2 := hide ((unhide hR).away (unhide hyL))
   have hil : ¬ (i : Int) < 0 := by omega
   have hi2 : (i : Int) < (nL : Int) := by have := unhide hnL; omega
   obtain ⟨bL,oL,rfl,hbL⟩ := sl1_some (own_at (enc := encI) (A := AL) (c := cL) (xs := L) (by have h := (unhide hP).row 1 rfl; rw [← unhide hnL] at h; exact h) (fun _ => rfl)) (by omega)
   have c0 := slE (own_at (enc := encI) (A := some ⟨bL,oL,none⟩) (c := cL) (xs := L) (by have h := (unhide hP).row 1 rfl; rw [← unhide hnL] at h; exact h) (fun _ => rfl)) hi
   rw [hiy] at c0
   replace c0 := hide c0
   have hf' := hide hf0
   have hi2' := hide hi2
   clear hfd hia hiy hf0 hi hbL
   try dsimp only
   repeat ((fail_if_success (with_reducible refine wp_reg (id := 4) ?_)); (first | go_values | go_skip | go_step | go_guarded | go_upon | go_in | go_back | fail))
   with_reducible refine wp_reg (id := 4) ?_
   iterate 2
    refine wpO_want rfl ?_
    go_simp
   refine wpO_done ?_
   try go_frame
   clear hil
   go_wp2_with fail
   have q0 := fun (W' : World) (hW : Keep [] y6 W') => unhide c0 W' hW.ext
   have hself := Keep.refl [] y6
   refine wp_regionK (P := Tryz.prog) [] [0,1,2,3,4] [5] 1 #[true,true,true,true,true,false] (by kernel_rfl) (by kernel_rfl) rfl (by rfl) ?_
   refine ql_want (v := .map (some mb)) rfl (by rfl) (fun W hW => qUpon_ofX (load_V rfl rfl (by simp [go_sem]) ((unhide hP).cellK 1 0 rfl rfl (by simp) W hW))) ?_
   go_frame
   iterate 4
    refine ql_want (v := ?_) rfl (by rfl) (fun W hW => ?_) ?_
    rotate_left
    ·go_simp
     first | done | rfl
    go_frame
   refine wpQL_nil (fun y7 hxq => ?_)
   replace hP : Hid (Sp w [] w [] [(b3,3, #[.int .i64 k]),(b5,98, #[.map (some mb)])] [(98,0, .map (some mb),0,mapXs ekV evS m),(3,1, .slice (some ⟨bL,oL,none⟩) nL cL,nL,L.flatMap encI)] y7) := hide ((unhide hP).ext hxq)
   clear hxq
   clear q0 hself
   refine lx_one (i := 5) (by kernel_rfl) rfl (by rfl) #[true,true,true,true,true,true] (by rfl) ?_
   go_simp
   refine (away_any mb m y y7 ((unhide hP).map 0 rfl (unhide hR).ok) ((unhide hR).okx (unhide hyL)) ((unhide hT').ext (unhide hP).extf) (unhide htb)).mono ?_
   rintro _ zy8 ⟨⟨_,rfl⟩,hm,hk⟩
   refine ⟨_,rfl,fun y8 hxd => ?_⟩
   replace hP : Hid (Sp w [] w [] [(b3,3, #[.int .i64 k]),(b5,98, #[.map (some mb)])] [(98,0, .map (some mb),0,mapXs ekV evS (awayM m y)),(3,1, .slice (some ⟨bL,oL,none⟩) nL cL,nL,L.flatMap encI)] y8) := hide (((unhide hP).mapSet 0 rfl hm.raw hk).ext hxd)
   clear hm hk hxd
   try go_frame
   refine wpX_done (by kernel_rfl) ?_
   try go_frame
   replace hP : Hid (Sp w [] w [] [(b3,3, #[.int .i64 k]),(b5,98, #[.map (some mb)])] [(98,0, .map (some mb),0,mapXs ekV evS (awayM m y))] y8) := hide ((unhide hP).sub (List.Sublist.refl _) (List.sublist_append_left ([(98,0, .map (some mb),0,mapXs ekV evS (awayM m y))] : List Rw) _))
   clear hi2
   go_wp2_with fail
   refine ⟨f', ?_,by have := unhide hf'; omega⟩
   rw [unhide hI4_2]
   exact ⟨awayM m y,L.erase y,(by first | rfl | trivial),(by first | rfl | trivial),(by first | rfl | trivial),(by first | rfl | trivial),unhide hR2,unhide hDe,by rw [List.length_erase_of_mem (unhide hyL)]; have := unhide hLf'; have := unhide hf'; omega,unhide hP⟩
end Go.Proofs.YtoacpebmhbkmbaaGreatDoor
namespace Go.Proofs.YtoacpebmhbkmbaaGreatDoor
open Go Go.RowKit Go.Shelf
attribute [local go_sem] qUpon lUpon
attribute [local irreducible] wpO wpX wpQL
theorem cellI {w : World} {A : Option Addr} {L : List Int} (h : SlAt encI 1 w A L) {k : Nat} (hk : k < L.length) : ∃ b off,A = some ⟨b,off,none⟩ ∧ ∀ W,Ext w W → W.cell? ⟨b,off + k,none⟩ = some (.int .i64 L[k]) := by
 obtain ⟨b,off,rfl,hc⟩ := atI h hk
 exact ⟨b,off,rfl,hc⟩
set_option maxRecDepth 100000 in
set_option maxHeartbeats 4000000 in
theorem same_ints (A B : Option Addr) (L M : List Int) (n m cA cB : Nat) (w : World) (hA : SlAt encI 1 w A L) (hB : SlAt encI 1 w B M) (hn : n = L.length) (hm : m = M.length) (hl : n ≤ 100000) (hl2 : m ≤ 100000) :
  Calls Tryz.prog 21 #[.slice A n cA, .slice B m cB] w fun e w' => e = .returned (.bool (decide (L = M))) ∧ Ext w w' := by
 have hA' := hide hA
 have hB' := hide hB
 clear hA hB
 go_enter Tryz.func21,Tryz.ntmps21
 by_cases hnm : (n : Int) = (m : Int)
 ·have hnm2 : n = m := by omega
  subst hnm2
  have hn' := hide hn
  have hm' := hide hm
  clear hn hm hnm
  go_wp2_with fail
  go_loopw [5] (fun iv wr => ∃ k : Nat,k ≤ n ∧ iv = .int .i64 k ∧ L.take k = M.take k ∧ Ext w wr) (fun iv _ => n - (intOf iv).toNat)
  case atStart => exact ⟨0,Nat.zero_le _,rfl,by simp,Ext.refl _⟩
  case round =>
   obtain ⟨k,hk,rfl,htk,hx⟩ := hrel
   have htk' := hide htk
   have hx' := hide hx
   clear htk hx
   by_cases hlt : k < n
   ·have hkL : k < L.length := by have := unhide hn'; omega
    have hkM : k < M.length := by have := unhide hm'; omega
    obtain ⟨b,off,rfl,c0⟩ := cellI ((unhide hA').ext (unhide hx')) hkL
    obtain ⟨b2,off2,rfl,d0⟩ := cellI ((unhide hB').ext (unhide hx')) hkM
    have t1 := hide (List.take_succ_eq_append_getElem hkL)
    have t2 := hide (List.take_succ_eq_append_getElem hkM)
    have hne := hide (show L[k] ≠ M[k] → L ≠ M from fun h e => h (by subst e; rfl))
    generalize L[k] = x at *
    generalize M[k] = y at *
    have hself := Ext.refl wr
    go_wp2_with fail
    obtain ⟨q,hq⟩ : ∃ q : Bool,q = !decide (x = y) := ⟨_,rfl⟩
    have hq' := hide hq
    clear hq
    refine wp_region_ext (P := Tryz.prog) [0,1,2,3,4,5,6,7,8] [] 0 #[true,true,true,true,true,true,true,true,true] (by kernel_rfl) (by kernel_rfl) rfl (by rfl) ?_
    iterate 8
     refine ql_want (v := ?_) rfl (by rfl) (fun W hW => ?_) ?_
     rotate_left
     ·go_simp
      first | done | rfl
     go_frame
    refine ql_want (v := .bool q) rfl (by rfl) (fun W hW => ?_) ?_
    ·go_simp
     rw [unhide hq']
     by_cases h1 : x = y <;> simp [h1]
    go_frame
    refine wpQL_nil (fun w2 hx2 => ?_)
    refine wpX_done (by kernel_rfl) ?_
    try go_frame
    have hx2' := hide ((unhide hx').trans hx2)
    clear c0 d0 hself hx2
    cases q
    ·have hxy : x = y := by
      have h := unhide hq'
      by_cases h1 : x = y
      ·exact h1
      ·simp [h1] at h
     have hnx := hide (show L.take (k + 1) = M.take (k + 1) by rw [unhide t1,unhide t2,unhide htk',hxy])
     clear hxy hq'
     go_wp2_with fail
     go_roundw
     case rel => exact ⟨k + 1,by omega,by go_num,unhide hnx,unhide hx2'⟩
     case measure => simp [intOf]; omega
    ·have hxy : x ≠ y := by
      have h := unhide hq'
      by_cases h1 : x = y
      ·simp [h1] at h
      ·exact h1
     have hres := hide (decide_eq_false (unhide hne hxy))
     clear hxy hq'
     go_wp2_with fail
     go_ret
     exact ⟨by rw [unhide hres]; rfl,unhide hx2'⟩
   ·have hke : k = n := by omega
    have hres := hide (show decide (L = M) = true from decide_eq_true (by have h := unhide htk'; rw [hke] at h; rw [unhide hn',List.take_length, ← unhide hn',unhide hm',List.take_length] at h; exact h))
    go_wp2_with fail
    go_ret
    exact ⟨by rw [unhide hres]; rfl,unhide hx'⟩
 ·have hres := hide (show decide (L = M) = false from decide_eq_false (fun e => hnm (by rw [hn,hm,e])))
  clear hn hm
  go_wp2_with fail
  go_ret
  exact ⟨by rw [unhide hres]; rfl,Ext.refl _⟩
def rg1 (i : Nat) : Ed := (0,(i : Int),0,0,0)
def rg2 (n i : Nat) : Ed := (2,(i : Int),((i : Int) + 1) % (n : Int),0,0)
def ringE (n : Nat) : List Ed := (List.range n).map rg1 ++ (List.range n).map (rg2 n)
def ringG (n : Nat) : GS := (ringE n).foldl stD ([],[])
def r5V : List (Int × Thing) := [((0 : Int),((0 : Int),(0 : Int))),(1,(0,0)),(2,(0,0)),(3,(0,0)),(4,(0,0))]
def r5E : List ((Int × Int) × Thing) := [(((0 : Int),(1 : Int)),((0 : Int),(0 : Int))),((0,4),(0,0)),((1,2),(0,0)),((2,3),(0,0)),((3,4),(0,0))]
set_option maxRecDepth 100000 in
theorem ring5 : ringG 5 = (r5V,r5E) := by decide +kernel
set_option maxRecDepth 100000 in
theorem r5_dgn : dgnP (nr0 r5E) (toL (vS r5V)).length (toL (vS r5V)) = 2 := by kernel_rfl
set_option maxRecDepth 100000 in
theorem r5_con : (conS (toL (vS r5V)).length (nr0 r5E) (toL (vS r5V))).foldl (fun m p => max m (p.2 : Int)) (-1) = 2 := by kernel_rfl
set_option maxRecDepth 100000 in
theorem r5_grc : (grcL (nr0 r5E) (toL (vS r5V))).length = 2 := by kernel_rfl
set_option maxRecDepth 100000 in
theorem r5_lb : lbS (nr0 r5E) (toL (vS r5V)) = 2 := by kernel_rfl
set_option maxRecDepth 100000 in
theorem r5_ub1 : (ubS r5E (nr0 r5E) (toL (vS r5V))).1 = 2 := by kernel_rfl
set_option maxRecDepth 100000 in
theorem r5_ub2 : (ubS r5E (nr0 r5E) (toL (vS r5V))).2 = [0,1,2,3,4] := by kernel_rfl
end Go.Proofs.YtoacpebmhbkmbaaGreatDoor
