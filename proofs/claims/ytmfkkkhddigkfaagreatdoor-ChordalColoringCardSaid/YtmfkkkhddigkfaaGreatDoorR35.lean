/- Parts of a proof, laid together. Each part says its own conditions. -/
import Derived.Test.YtmfkkkhddigkfaaGreatDoorR30
import Derived.Test.YtmfkkkhddigkfaaGreatDoorR23
import Derived.Test.YtmfkkkhddigkfaaGreatDoorR34
namespace Go.Proofs.YtmfkkkhddigkfaaGreatDoor
open Go Go.RowKit Go.Shelf
attribute [local go_sem] qUpon lUpon
theorem atK {w : World} {b off : Nat} {L : List Int} {S : List Nat} (h : SlAt encI 1 w (some ⟨b,off,none⟩) L) (hb : b ∉ S) {i : Nat} (hi : i < L.length) : ∀ W,Keep S w W → W.cell? ⟨b,off + i,none⟩ = some (.int .i64 L[i]) := by
 intro W hk
 obtain ⟨b',off',e,hc⟩ := atI (h.keepS hk (fun b2 o2 e hm => by injection e with e; injection e with e1 e2; subst e1; exact hb hm)) hi
 injection e with e
 injection e with e1 e2
 subst e1
 subst e2
 exact hc W (Ext.refl W)
theorem ret_cells2 {P : Program} {fn : Func} {t T u U : Nat} {tmps : Array Value} {p q : Addr} {W : World} {v1 v2 : Value} (h : fn.results = #[.cell t T, .cell u U]) (hp : tmps.getD t undef = .pointer (some p)) (hq : tmps.getD u undef = .pointer (some q)) (h1 : (loadVar T p).run P W = .ok v1 W) (h2 : (loadVar U q).run P W = .ok v2 W) :
  (results fn tmps).run P W = .ok (.tuple #[v1,v2]) W := by
 simp only [Array.getD_eq_getD_getElem?] at hp hq
 simp [results,h,hp,hq,asAddr,h1,h2]
theorem atEI {w : World} {b off : Nat} {L : List Int} (h : SlAt encI 1 w (some ⟨b,off,none⟩) L) {i : Nat} (hi : i < L.length) : ∀ W,Ext w W → W.cell? ⟨b,off + i,none⟩ = some (.int .i64 L[i]) := by
 obtain ⟨b',off',e,hc⟩ := atI h hi
 injection e with e
 injection e with e1 e2
 subst e1
 subst e2
 exact hc
def mayK (V : List (Int × Thing)) (E : List ((Int × Int) × Thing)) (w : List Int) (k : Nat) : Nat := ((midW w).take k).foldl (fun N v => minusS N (nearS v E)) (minusS (minusS (vS V) (belS (w[0]?.getD 0 + 1))) (fromS w))
theorem mayK_next (V : List (Int × Thing)) (E : List ((Int × Int) × Thing)) (w : List Int) {k : Nat} (h : k < (midW w).length) : mayK V E w (k + 1) = minusS (mayK V E w k) (nearS (midW w)[k] E) := by
 unfold mayK
 rw [List.take_succ_eq_append_getElem h,List.foldl_append]
 rfl
theorem mayK_all (V : List (Int × Thing)) (E : List ((Int × Int) × Thing)) (w : List Int) : mayK V E w (midW w).length = mayW V E w := by
 unfold mayK mayW
 rw [List.take_length]
theorem mid_at {w : World} {b off : Nat} {L : List Int} (h : SlAt encI 1 w (some ⟨b,off,none⟩) L) (h2 : 2 ≤ L.length) : SlAt encI 1 w (some ⟨b,off + 1,none⟩) (midW L) := by
 have h1 := (h.rest 1 (L.length + 1) (by omega)).upto (L.length - 2)
 unfold restA at h1
 rw [if_neg (by omega)] at h1
 exact h1
theorem of_n (A : Option Addr) (L : List Int) (n cL : Nat) (w : World) (hn : n = L.length) (hL : SlAt encI 1 w A L) (hl : L.length ≤ 4611686018427387904) :
  Calls Tryz.prog 66 #[.slice A n cL] w fun e w' => e = .returned (.agg (setC (fromS L))) ∧ Ext w w' := by
 subst hn
 exact of_any A L cL w hL hl
set_option maxRecDepth 100000 in
set_option maxHeartbeats 16000000 in
theorem next_any (A : Option Addr) (L : List Int) (cL : Nat) (og : Option Addr) (V : List (Int × Thing)) (E : List ((Int × Int) × Thing)) (w : World) (hL : SlAt encI 1 w A L) (h2 : 2 ≤ L.length) (hl : L.length ≤ 4000) (hcL : L.length ≤ cL) (hr : ∀ x ∈ L,0 ≤ x ∧ x < 1024) (hg : GL w og V E) :
  Calls Tryz.prog 81 #[.slice A L.length cL, .pointer og] w fun e w' => e = .returned (.tuple #[.agg (setC (nextW V E L)), .agg (setC (lastW V E L))]) ∧ Ext w w' := by
 obtain ⟨b,off,rfl,hcc⟩ := atI hL (i := 0) (by omega)
 clear hcc
 have hM := hide (mid_at hL h2)
 have hml : (midW L).length + 2 = L.length := by unfold midW; rw [List.length_take,List.length_drop]; omega
 have hr0 := hr L[0] (List.getElem_mem _)
 have hr1 := hr L[1] (List.getElem_mem _)
 have hL' := hide hL
 have hg' := hide hg
 have hb' := hide (show b < w.heap.size from by obtain ⟨b',o',e,h3,_⟩ := hL (by rintro rfl; simp at h2); injection e with e; injection e with e1 e2; subst e1; exact h3)
 have e0 : L[0]?.getD 0 = L[0] := by rw [List.getElem?_eq_getElem (by omega)]; rfl
 have e1 : L[1]?.getD 0 = L[1] := by rw [List.getElem?_eq_getElem (by omega)]; rfl
 have hlen0 : 0 < L.length := by omega
 have hlen1 : 1 < L.length := by omega
 obtain ⟨x0,hx0⟩ : ∃ x0,x0 = L[0]?.getD 0 := ⟨_,rfl⟩
 obtain ⟨x1,hx1⟩ : ∃ x1,x1 = L[1]?.getD 0 := ⟨_,rfl⟩
 have hv0 : ∀ W,SlAt encI 1 W (some ⟨b,off,none⟩) L → ∀ W',Keep [] W W' → W'.cell? ⟨b,off,none⟩ = some (.int .i64 x0) := fun W h W' hk => by rw [hx0,e0]; exact atK h (by simp) hlen0 W' hk
 have hv1 : ∀ W,SlAt encI 1 W (some ⟨b,off,none⟩) L → ∀ W',Keep [] W W' → W'.cell? ⟨b,off + 1,none⟩ = some (.int .i64 x1) := fun W h W' hk => by rw [hx1,e1]; exact atK h (by simp) hlen1 W' hk
 rw [← e0, ← hx0] at hr0
 rw [← e1, ← hx1] at hr1
 have hw0 : IntKind.i64.wrap (x0 + 1) = x0 + 1 := IntWalk.i64_in _ (by omega)
 have hw1 : IntKind.i64.wrap (x1 + 1) = x1 + 1 := IntWalk.i64_in _ (by omega)
 have hx0' := hide hx0
 have hx1' := hide hx1
 have hv0' := hide hv0
 have hv1' := hide hv1
 obtain ⟨m,hm⟩ : ∃ m,m = (midW L).length := ⟨_,rfl⟩
 obtain ⟨n,hn⟩ : ∃ n,n = L.length := ⟨_,rfl⟩
 obtain ⟨n1,hn1⟩ : ∃ n1,n1 = m + 1 := ⟨_,rfl⟩
 have hwn : IntKind.i64.wrap ((n : Int) - 1) = (n1 : Int) := by
  rw [show (n : Int) - 1 = (n1 : Int) by omega]
  exact IntWalk.i64_in _ (by omega)
 rw [← hn]
 have hlt0 : 0 < n := by omega
 have hlt1 : 1 < n := by omega
 have hmb : m ≤ 4000 := by omega
 have hlt2 : (1 : Int) < (n : Int) := by omega
 have hm' := hide hm
 have hn' := hide hn
 have hn1' := hide hn1
 have hcL' := hide hcL
 have hl' := hide hl
 have hml' := hide hml
 have h2' := hide h2
 clear hL hg hr e0 e1 hlen0 hlen1 hx0 hx1 hv0 hv1 hr0 hr1 hm hn hn1 hcL hl hml h2
 have hP := hide (Sp.new w)
 refine callsIn_wide.1 (callsIn_of_wp_marks (n := 0) Tryz.func81 rfl trivial (wpIn_wide.2 ?_))
 simp only [Tryz.ntmps81,List.size_toArray,List.length_cons,List.length_nil,Nat.reduceAdd,Nat.reduceSub,Array.replicate_succ,Array.replicate_zero,List.push_toArray,List.append_toArray,List.nil_append,List.cons_append]
 try dsimp only
 repeat ((fail_if_success (with_reducible refine wp_reg (id := 0) ?_)); (first | go_values | go_skip | go_step | go_guarded | go_upon | go_in | go_back | fail))
 with_reducible refine wp_reg (id := 0) ?_
 refine (unhide hP).allocO 51 (setC 0) rfl (run_alloc_set rfl) ?_
 intro r1 y1 hQ
 replace hP : Hid (Sp w [] w [] [(r1,51,setC 0)] [] y1) := hide hQ
 clear hQ
 refine (unhide hP).allocO 51 (setC 0) rfl (run_alloc_set rfl) ?_
 intro r2 y2 hQ
 replace hP : Hid (Sp w [] w [] [(r1,51,setC 0),(r2,51,setC 0)] [] y2) := hide hQ
 clear hQ
 refine wpO_done ?_
 try go_frame
 go_wp2_with fail
 have q0 := unhide hv0' _ ((unhide hL').ext (unhide hP).extf)
 have hself := Keep.refl [] y2
 refine wp_regionK (P := Tryz.prog) [] [0,1,2,3,4,5,6,7,8,9,10] [12] 2 #[true,true,true,true,true,true,true,true,true,true,true,false,false] (by kernel_rfl) (by kernel_rfl) rfl (by rfl) ?_
 iterate 1
  refine ql_want (v := ?_) rfl (by rfl) (fun W hW => ?_) ?_
  rotate_left
  ·go_simp
   first | done | rfl
  go_frame
 refine ql_want (v := .agg (setC (vS V))) rfl (by rfl) (fun W hW => ?_) ?_
 ·go_simp
  refine (vsetG og V E W ((unhide hg').ext ((unhide hP).extf.trans ((Ext.refl _).of_new hW (by simp))))).mono ?_
  rintro _ _ ⟨h1,h2⟩
  exact ⟨_,h1,rfl,h2⟩
 go_frame
 iterate 4
  refine ql_want (v := ?_) rfl (by rfl) (fun W hW => ?_) ?_
  rotate_left
  ·go_simp
   first | done | rfl
  go_frame
 refine ql_want (v := .agg (setC (belS (x0 + 1)))) rfl (by rfl) (fun W hW => ?_) ?_
 ·go_simp
  refine (below_any (x0 + 1) W).mono ?_
  rintro _ _ ⟨h1,h2⟩
  exact ⟨_,h1,rfl,h2⟩
 go_frame
 refine ql_want (v := .agg (setC (minusS (vS V) (belS (x0 + 1))))) rfl (by rfl) (fun W hW => ?_) ?_
 ·go_simp
  refine (minus_any _ _ W).mono ?_
  rintro _ _ ⟨h1,h2⟩
  exact ⟨_,h1,rfl,h2⟩
 go_frame
 iterate 1
  refine ql_want (v := ?_) rfl (by rfl) (fun W hW => ?_) ?_
  rotate_left
  ·go_simp
   first | done | rfl
  go_frame
 refine ql_want (v := .agg (setC (fromS L))) rfl (by rfl) (fun W hW => ?_) ?_
 ·go_simp
  refine (of_n _ L n cL W (unhide hn') ((unhide hL').ext ((unhide hP).extf.trans ((Ext.refl _).of_new hW (by simp)))) (by have := unhide hl'; omega)).mono ?_
  rintro _ _ ⟨h1,h2⟩
  exact ⟨_,h1,rfl,h2⟩
 go_frame
 refine ql_want (v := .agg (setC (minusS (minusS (vS V) (belS (x0 + 1))) (fromS L)))) rfl (by rfl) (fun W hW => ?_) ?_
 ·go_simp
  refine (minus_any _ _ W).mono ?_
  rintro _ _ ⟨h1,h2⟩
  exact ⟨_,h1,rfl,h2⟩
 go_frame
 refine wpQL_nil (fun y3 hxq => ?_)
 have hK := hide (hxq.keep [])
 replace hP : Hid (Sp w [] w [] [(r1,51,setC 0),(r2,51,setC 0)] [] y3) := hide ((unhide hP).ext hxq)
 clear hxq
 clear q0 hself
 refine (unhide hP).allocX (unhide hK) 51 (setC 0) (j := 11) (by kernel_rfl) rfl (by rfl) #[true,true,true,true,true,true,true,true,true,true,true,true,false] (by rfl) (run_alloc_set rfl) ?_
 intro bm y4 hQ hK2
 replace hP : Hid (Sp w [] w [] [(r1,51,setC 0),(r2,51,setC 0),(bm,51,setC 0)] [] y4) := hide hQ
 replace hK := hide hK2
 clear hQ hK2
 try go_frame
 refine (unhide hP).setX 2 (setC (minusS (minusS (vS V) (belS (x0 + 1))) (fromS L))) rfl (j := 12) (by kernel_rfl) rfl (by rfl) #[true,true,true,true,true,true,true,true,true,true,true,true,true] (by rfl) rfl (fun hb => store_SetR (N := minusS (minusS (vS V) (belS (x0 + 1))) (fromS L)) rfl (by rfl) (by rfl) hb) ?_
 intro y5 hQ
 replace hP : Hid (Sp w [] w [] [(r1,51,setC 0),(r2,51,setC 0),(bm,51,setC (minusS (minusS (vS V) (belS (x0 + 1))) (fromS L)))] [] y5) := hide hQ
 clear hQ
 try go_frame
 refine wpX_done (by kernel_rfl) ?_
 try go_frame
 clear hK
 replace hP : Hid (Sp w [] w [] [(r1,51,setC 0),(r2,51,setC 0),(bm,51,setC (mayK V E L 0))] [] y5) := hide (by have h := unhide hP; rw [show minusS (minusS (vS V) (belS (x0 + 1))) (fromS L) = mayK V E L 0 by unfold mayK; rw [List.take_zero,List.foldl_nil, ← unhide hx0']] at h; exact h)
 try dsimp only
 repeat ((fail_if_success (with_reducible refine wp_reg (id := 2) ?_)); (first | go_values | go_skip | go_step | go_guarded | go_upon | go_in | go_back | fail))
 with_reducible refine wp_reg (id := 2) ?_
 iterate 4
  refine wpO_want rfl ?_
  go_simp
 refine wpO_val rfl (run_sl_lh (k := 1) (k2 := n1) rfl rfl rfl rfl Tryz.underlying92 (Tryz.sizeOf3 _) (by have := unhide hn1'; omega) (by have := unhide hn1'; have := unhide hcL'; have := unhide hml'; have := unhide hm'; omega)) ?_
 rw [show restA (some ⟨b,off,none⟩) 1 cL 1 = some ⟨b,off + 1,none⟩ by unfold restA; rw [if_neg (by have := unhide hcL'; have := unhide h2'; omega)]; rfl,show n1 - 1 = m by have := unhide hn1'; omega]
 iterate 2
  refine wpO_want rfl ?_
  go_simp
 refine wpO_done ?_
 try go_frame
 go_wp2_with fail
 go_loopw [28] (fun i wr => ∃ k : Nat,k ≤ m ∧ i = .int .i64 k ∧ Sp w [] w [] [(r1,51,setC 0),(r2,51,setC 0),(bm,51,setC (mayK V E L k))] [] wr) (fun i _ => m - (intOf i).toNat)
 case atStart => exact ⟨0,Nat.zero_le _,rfl,unhide hP⟩
 case round =>
  obtain ⟨k,hk,rfl,hPr⟩ := hrel
  clear hP
  have hP := hide hPr
  clear hPr
  by_cases hlt : k < m
  ·obtain ⟨v,hv⟩ : ∃ v,v = (midW L)[k]'(by have := unhide hm'; omega) := ⟨_,rfl⟩
   have c0 := atEI ((unhide hM).ext (unhide hP).extf) (i := k) (by have := unhide hm'; omega)
   rw [← hv] at c0
   have hv' := hide hv
   clear hv
   have hself := Ext.refl wr
   go_wp2_with fail
   clear c0 hself
   refine wp_regionK (P := Tryz.prog) [] [0,1,2,3,4] [5] 1 #[true,true,true,true,true,false] (by kernel_rfl) (by kernel_rfl) rfl (by rfl) ?_
   refine ql_want (v := .agg (setC (mayK V E L k))) rfl (by rfl) (fun W hW => qUpon_ofX (load_SetR rfl rfl ((unhide hP).wholeK 2 rfl hW (by simp)))) ?_
   go_frame
   iterate 2
    refine ql_want (v := ?_) rfl (by rfl) (fun W hW => ?_) ?_
    rotate_left
    ·go_simp
     first | done | rfl
    go_frame
   refine ql_want (v := .agg (setC (nearS v E))) rfl (by rfl) (fun W hW => ?_) ?_
   ·go_simp
    refine (nearG og V E v W ((unhide hg').ext ((unhide hP).extf.trans ((Ext.refl _).of_new hW (by simp))))).mono ?_
    rintro _ _ ⟨h1,h2⟩
    exact ⟨_,h1,rfl,h2⟩
   go_frame
   refine ql_want (v := .agg (setC (minusS (mayK V E L k) (nearS v E)))) rfl (by rfl) (fun W hW => ?_) ?_
   ·go_simp
    refine (minus_any _ _ W).mono ?_
    rintro _ _ ⟨h1,h2⟩
    exact ⟨_,h1,rfl,h2⟩
   go_frame
   refine wpQL_nil (fun y6 hxq => ?_)
   replace hP : Hid (Sp w [] w [] [(r1,51,setC 0),(r2,51,setC 0),(bm,51,setC (mayK V E L k))] [] y6) := hide ((unhide hP).ext hxq)
   clear hxq
   refine (unhide hP).setX 2 (setC (minusS (mayK V E L k) (nearS v E))) rfl (j := 5) (by kernel_rfl) rfl (by rfl) #[true,true,true,true,true,true] (by rfl) rfl (fun hb => store_SetR (N := minusS (mayK V E L k) (nearS v E)) rfl (by rfl) (by rfl) hb) ?_
   intro y7 hQ
   replace hP : Hid (Sp w [] w [] [(r1,51,setC 0),(r2,51,setC 0),(bm,51,setC (minusS (mayK V E L k) (nearS v E)))] [] y7) := hide hQ
   clear hQ
   try go_frame
   refine wpX_done (by kernel_rfl) ?_
   try go_frame
   go_wp2_with fail
   go_roundw
   case rel => exact ⟨k + 1,by omega,by go_num,by have h := unhide hP; rw [unhide hv', ← mayK_next V E L (by have := unhide hm'; omega)] at h; exact h⟩
   case measure => simp [intOf]; omega
  ·have hke : k = m := by omega
   subst hke
   replace hP : Hid (Sp w [] w [] [(r1,51,setC 0),(r2,51,setC 0),(bm,51,setC (mayW V E L))] [] wr) := hide (by have h := unhide hP; rw [unhide hm',mayK_all] at h; exact h)
   clear hlt hk
   have q0 := unhide hv0' _ ((unhide hL').ext (unhide hP).extf)
   have hself := Keep.refl [] wr
   have q0h := q0 wr hself
   try dsimp only
   repeat ((fail_if_success (with_reducible refine wp_reg (id := 7) ?_)); (first | go_values | go_skip | go_step | go_guarded | go_upon | go_in | go_back | fail))
   with_reducible refine wp_reg (id := 7) ?_
   iterate 4
    refine wpO_want rfl ?_
    go_simp
   clear q0 q0h hself
   refine wpO_want rfl ?_
   go_simp
   refine (nearG og V E x0 wr ((unhide hg').ext (unhide hP).extf)).mono ?_
   rintro _ y8 ⟨rfl,hxc⟩
   refine ⟨_,rfl, ?_⟩
   replace hP : Hid (Sp w [] w [] [(r1,51,setC 0),(r2,51,setC 0),(bm,51,setC (mayW V E L))] [] y8) := hide ((unhide hP).ext hxc)
   clear hxc
   refine (unhide hP).allocO 51 (setC 0) rfl (run_alloc_set rfl) ?_
   intro bn y9 hQ
   replace hP : Hid (Sp w [] w [] [(r1,51,setC 0),(r2,51,setC 0),(bm,51,setC (mayW V E L)),(bn,51,setC 0)] [] y9) := hide hQ
   clear hQ
   refine (unhide hP).setO 3 (setC (nearS x0 E)) rfl rfl (fun hb => store_SetR (N := nearS x0 E) rfl rfl rfl hb) ?_
   intro y10 hQ
   replace hP : Hid (Sp w [] w [] [(r1,51,setC 0),(r2,51,setC 0),(bm,51,setC (mayW V E L)),(bn,51,setC (nearS x0 E))] [] y10) := hide hQ
   clear hQ
   refine wpO_done ?_
   try go_frame
   have q1 := unhide hv1' _ ((unhide hL').ext (unhide hP).extf)
   have hself := Keep.refl [] y10
   have q1h := q1 y10 hself
   clear q1h
   go_wp2_with fail
   refine wp_regionK (P := Tryz.prog) [] [0,1,2,3,4,5,6,7,8] [10] 2 #[true,true,true,true,true,true,true,true,true,false,false] (by kernel_rfl) (by kernel_rfl) rfl (by rfl) ?_
   refine ql_want (v := .agg (setC (mayW V E L))) rfl (by rfl) (fun W hW => qUpon_ofX (load_SetR rfl rfl ((unhide hP).wholeK 2 rfl hW (by simp)))) ?_
   go_frame
   refine ql_want (v := .agg (setC (nearS x0 E))) rfl (by rfl) (fun W hW => qUpon_ofX (load_SetR rfl rfl ((unhide hP).wholeK 3 rfl hW (by simp)))) ?_
   go_frame
   refine ql_want (v := .agg (setC (mayW V E L &&& nearS x0 E))) rfl (by rfl) (fun W hW => ?_) ?_
   ·go_simp
    refine (inter_any _ _ W).mono ?_
    rintro _ _ ⟨h1,h2⟩
    exact ⟨_,h1,rfl,h2⟩
   go_frame
   iterate 4
    refine ql_want (v := ?_) rfl (by rfl) (fun W hW => ?_) ?_
    rotate_left
    ·go_simp
     first | done | rfl
    go_frame
   refine ql_want (v := .agg (setC (belS (x1 + 1)))) rfl (by rfl) (fun W hW => ?_) ?_
   ·go_simp
    refine (below_any (x1 + 1) W).mono ?_
    rintro _ _ ⟨h1,h2⟩
    exact ⟨_,h1,rfl,h2⟩
   go_frame
   refine ql_want (v := .agg (setC (minusS (mayW V E L &&& nearS x0 E) (belS (x1 + 1))))) rfl (by rfl) (fun W hW => ?_) ?_
   ·go_simp
    refine (minus_any _ _ W).mono ?_
    rintro _ _ ⟨h1,h2⟩
    exact ⟨_,h1,rfl,h2⟩
   go_frame
   refine wpQL_nil (fun y11 hxq => ?_)
   have hK := hide (hxq.keep [])
   replace hP : Hid (Sp w [] w [] [(r1,51,setC 0),(r2,51,setC 0),(bm,51,setC (mayW V E L)),(bn,51,setC (nearS x0 E))] [] y11) := hide ((unhide hP).ext hxq)
   clear hxq
   clear q1 hself
   refine (unhide hP).allocX (unhide hK) 51 (setC 0) (j := 9) (by kernel_rfl) rfl (by rfl) #[true,true,true,true,true,true,true,true,true,true,false] (by rfl) (run_alloc_set rfl) ?_
   intro ba y12 hQ hK2
   replace hP : Hid (Sp w [] w [] [(r1,51,setC 0),(r2,51,setC 0),(bm,51,setC (mayW V E L)),(bn,51,setC (nearS x0 E)),(ba,51,setC 0)] [] y12) := hide hQ
   replace hK := hide hK2
   clear hQ hK2
   try go_frame
   refine (unhide hP).setX 4 (setC (minusS (mayW V E L &&& nearS x0 E) (belS (x1 + 1)))) rfl (j := 10) (by kernel_rfl) rfl (by rfl) #[true,true,true,true,true,true,true,true,true,true,true] (by rfl) rfl (fun hb => store_SetR (N := minusS (mayW V E L &&& nearS x0 E) (belS (x1 + 1))) rfl (by rfl) (by rfl) hb) ?_
   intro y13 hQ
   replace hP : Hid (Sp w [] w [] [(r1,51,setC 0),(r2,51,setC 0),(bm,51,setC (mayW V E L)),(bn,51,setC (nearS x0 E)),(ba,51,setC (minusS (mayW V E L &&& nearS x0 E) (belS (x1 + 1))))] [] y13) := hide hQ
   clear hQ
   try go_frame
   refine wpX_done (by kernel_rfl) ?_
   try go_frame
   clear hK
   have hfin : ∀ (Z : Nat) (us : Array Value) (W : World),Hid (Sp w [] w [] [(r1,51,setC 0),(r2,51,setC 0),(bm,51,setC (mayW V E L)),(bn,51,setC (nearS x0 E)),(ba,51,setC Z)] [] W) → Z = lastW V E L → us.getD 4 undef = .pointer (some ⟨r1,0,none⟩) → True := fun _ _ _ _ _ _ => trivial
   clear hfin
   by_cases hn2 : n = 2
   ·subst hn2
    have q1 := unhide hv1' _ ((unhide hL').ext (unhide hP).extf)
    have hself := Keep.refl [] y13
    go_wp2_with fail
    refine wp_regionK (P := Tryz.prog) [] [0,1,2,3,4,5,6] [7] 1 #[true,true,true,true,true,true,true,false] (by kernel_rfl) (by kernel_rfl) rfl (by rfl) ?_
    refine ql_want (v := .agg (setC (minusS (mayW V E L &&& nearS x0 E) (belS (x1 + 1))))) rfl (by rfl) (fun W hW => qUpon_ofX (load_SetR rfl rfl ((unhide hP).wholeK 4 rfl hW (by simp)))) ?_
    go_frame
    iterate 4
     refine ql_want (v := ?_) rfl (by rfl) (fun W hW => ?_) ?_
     rotate_left
     ·go_simp
      first | done | rfl
     go_frame
    refine ql_want (v := .agg (setC (nearS x1 E))) rfl (by rfl) (fun W hW => ?_) ?_
    ·go_simp
     refine (nearG og V E x1 W ((unhide hg').ext ((unhide hP).extf.trans ((Ext.refl _).of_new hW (by simp))))).mono ?_
     rintro _ _ ⟨h1,h2⟩
     exact ⟨_,h1,rfl,h2⟩
    go_frame
    refine ql_want (v := .agg (setC (minusS (minusS (mayW V E L &&& nearS x0 E) (belS (x1 + 1))) (nearS x1 E)))) rfl (by rfl) (fun W hW => ?_) ?_
    ·go_simp
     refine (minus_any _ _ W).mono ?_
     rintro _ _ ⟨h1,h2⟩
     exact ⟨_,h1,rfl,h2⟩
    go_frame
    refine wpQL_nil (fun y14 hxq => ?_)
    replace hP : Hid (Sp w [] w [] [(r1,51,setC 0),(r2,51,setC 0),(bm,51,setC (mayW V E L)),(bn,51,setC (nearS x0 E)),(ba,51,setC (minusS (mayW V E L &&& nearS x0 E) (belS (x1 + 1))))] [] y14) := hide ((unhide hP).ext hxq)
    clear hxq
    clear q1 hself
    refine (unhide hP).setX 4 (setC (minusS (minusS (mayW V E L &&& nearS x0 E) (belS (x1 + 1))) (nearS x1 E))) rfl (j := 7) (by kernel_rfl) rfl (by rfl) #[true,true,true,true,true,true,true,true] (by rfl) rfl (fun hb => store_SetR (N := minusS (minusS (mayW V E L &&& nearS x0 E) (belS (x1 + 1))) (nearS x1 E)) rfl (by rfl) (by rfl) hb) ?_
    intro y15 hQ
    replace hP : Hid (Sp w [] w [] [(r1,51,setC 0),(r2,51,setC 0),(bm,51,setC (mayW V E L)),(bn,51,setC (nearS x0 E)),(ba,51,setC (minusS (minusS (mayW V E L &&& nearS x0 E) (belS (x1 + 1))) (nearS x1 E)))] [] y15) := hide hQ
    clear hQ
    try go_frame
    refine wpX_done (by kernel_rfl) ?_
    try go_frame
    go_wp2_with fail
    refine wp_regionK (P := Tryz.prog) [r1] [0,1,2,3] [5] 2 #[true,true,true,true,false,false] (by kernel_rfl) (by kernel_rfl) rfl (by rfl) ?_
    refine ql_want (v := .agg (setC (mayW V E L))) rfl (by rfl) (fun W hW => qUpon_ofX (load_SetR rfl rfl ((unhide hP).wholeK 2 rfl hW (by rw [List.mem_singleton]; exact (unhide hP).ne 2 0 (by decide) rfl rfl)))) ?_
    go_frame
    refine ql_want (v := .agg (setC (nearS x0 E))) rfl (by rfl) (fun W hW => qUpon_ofX (load_SetR rfl rfl ((unhide hP).wholeK 3 rfl hW (by rw [List.mem_singleton]; exact (unhide hP).ne 3 0 (by decide) rfl rfl)))) ?_
    go_frame
    refine ql_want (v := .agg (setC (minusS (mayW V E L) (nearS x0 E)))) rfl (by rfl) (fun W hW => ?_) ?_
    ·go_simp
     refine (minus_any _ _ W).mono ?_
     rintro _ _ ⟨h1,h2⟩
     exact ⟨_,h1,rfl,h2⟩
    go_frame
    refine ql_want (v := .agg (setC (minusS (minusS (mayW V E L &&& nearS x0 E) (belS (x1 + 1))) (nearS x1 E)))) rfl (by rfl) (fun W hW => qUpon_ofX (load_SetR rfl rfl ((unhide hP).wholeK 4 rfl hW (by rw [List.mem_singleton]; exact (unhide hP).ne 4 0 (by decide) rfl rfl)))) ?_
    go_frame
    refine wpQL_nil (fun y16 hxq => ?_)
    have hK := hide (hxq.keep [r1])
    replace hP : Hid (Sp w [] w [] [(r1,51,setC 0),(r2,51,setC 0),(bm,51,setC (mayW V E L)),(bn,51,setC (nearS x0 E)),(ba,51,setC (minusS (minusS (mayW V E L &&& nearS x0 E) (belS (x1 + 1))) (nearS x1 E)))] [] y16) := hide ((unhide hP).ext hxq)
    clear hxq
    refine (unhide hP).setXK (unhide hK) 0 (setC (minusS (mayW V E L) (nearS x0 E))) rfl (by simp) (j := 4) (by kernel_rfl) rfl (by rfl) #[true,true,true,true,true,false] (by rfl) (fun hb => store_SetR (N := minusS (mayW V E L) (nearS x0 E)) rfl (by rfl) (by rfl) hb) ?_
    intro y17 hQ hK2
    replace hP : Hid (Sp w [] w [] [(r1,51,setC (minusS (mayW V E L) (nearS x0 E))),(r2,51,setC 0),(bm,51,setC (mayW V E L)),(bn,51,setC (nearS x0 E)),(ba,51,setC (minusS (minusS (mayW V E L &&& nearS x0 E) (belS (x1 + 1))) (nearS x1 E)))] [] y17) := hide hQ
    replace hK := hide hK2
    clear hQ hK2
    try go_frame
    clear hK
    refine (unhide hP).setX 1 (setC (minusS (minusS (mayW V E L &&& nearS x0 E) (belS (x1 + 1))) (nearS x1 E))) rfl (j := 5) (by kernel_rfl) rfl (by rfl) #[true,true,true,true,true,true] (by rfl) rfl (fun hb => store_SetR (N := minusS (minusS (mayW V E L &&& nearS x0 E) (belS (x1 + 1))) (nearS x1 E)) rfl (by rfl) (by rfl) hb) ?_
    intro y18 hQ
    replace hP : Hid (Sp w [] w [] [(r1,51,setC (minusS (mayW V E L) (nearS x0 E))),(r2,51,setC (minusS (minusS (mayW V E L &&& nearS x0 E) (belS (x1 + 1))) (nearS x1 E))),(bm,51,setC (mayW V E L)),(bn,51,setC (nearS x0 E)),(ba,51,setC (minusS (minusS (mayW V E L &&& nearS x0 E) (belS (x1 + 1))) (nearS x1 E)))] [] y18) := hide hQ
    clear hQ
    try go_frame
    refine wpX_done (by kernel_rfl) ?_
    try go_frame
    go_wp2_with fail
    refine (unhide hP).leaves ?_
    intro w' hx hst
    refine ⟨_,ret_cells2 (t := 4) (u := 5) rfl rfl rfl (load_Set _ r1 _ (hst.get 0 rfl)) (load_Set _ r2 _ (hst.get 1 rfl)), ?_,hx⟩
    rw [show nextW V E L = minusS (mayW V E L) (nearS x0 E) by unfold nextW; rw [← unhide hx0']]
    rw [show lastW V E L = minusS (minusS (mayW V E L &&& nearS x0 E) (belS (x1 + 1))) (nearS x1 E) by unfold lastW; rw [if_pos (unhide hn').symm, ← unhide hx0', ← unhide hx1']]
   ·skip
    go_wp2_with fail
    refine wp_regionK (P := Tryz.prog) [r1] [0,1,2,3] [5] 2 #[true,true,true,true,false,false] (by kernel_rfl) (by kernel_rfl) rfl (by rfl) ?_
    refine ql_want (v := .agg (setC (mayW V E L))) rfl (by rfl) (fun W hW => qUpon_ofX (load_SetR rfl rfl ((unhide hP).wholeK 2 rfl hW (by rw [List.mem_singleton]; exact (unhide hP).ne 2 0 (by decide) rfl rfl)))) ?_
    go_frame
    refine ql_want (v := .agg (setC (nearS x0 E))) rfl (by rfl) (fun W hW => qUpon_ofX (load_SetR rfl rfl ((unhide hP).wholeK 3 rfl hW (by rw [List.mem_singleton]; exact (unhide hP).ne 3 0 (by decide) rfl rfl)))) ?_
    go_frame
    refine ql_want (v := .agg (setC (minusS (mayW V E L) (nearS x0 E)))) rfl (by rfl) (fun W hW => ?_) ?_
    ·go_simp
     refine (minus_any _ _ W).mono ?_
     rintro _ _ ⟨h1,h2⟩
     exact ⟨_,h1,rfl,h2⟩
    go_frame
    refine ql_want (v := .agg (setC (minusS (mayW V E L &&& nearS x0 E) (belS (x1 + 1))))) rfl (by rfl) (fun W hW => qUpon_ofX (load_SetR rfl rfl ((unhide hP).wholeK 4 rfl hW (by rw [List.mem_singleton]; exact (unhide hP).ne 4 0 (by decide) rfl rfl)))) ?_
    go_frame
    refine wpQL_nil (fun y14 hxq => ?_)
    have hK := hide (hxq.keep [r1])
    replace hP : Hid (Sp w [] w [] [(r1,51,setC 0),(r2,51,setC 0),(bm,51,setC (mayW V E L)),(bn,51,setC (nearS x0 E)),(ba,51,setC (minusS (mayW V E L &&& nearS x0 E) (belS (x1 + 1))))] [] y14) := hide ((unhide hP).ext hxq)
    clear hxq
    refine (unhide hP).setXK (unhide hK) 0 (setC (minusS (mayW V E L) (nearS x0 E))) rfl (by simp) (j := 4) (by kernel_rfl) rfl (by rfl) #[true,true,true,true,true,false] (by rfl) (fun hb => store_SetR (N := minusS (mayW V E L) (nearS x0 E)) rfl (by rfl) (by rfl) hb) ?_
    intro y15 hQ hK2
    replace hP : Hid (Sp w [] w [] [(r1,51,setC (minusS (mayW V E L) (nearS x0 E))),(r2,51,setC 0),(bm,51,setC (mayW V E L)),(bn,51,setC (nearS x0 E)),(ba,51,setC (minusS (mayW V E L &&& nearS x0 E) (belS (x1 + 1))))] [] y15) := hide hQ
    replace hK := hide hK2
    clear hQ hK2
    try go_frame
    clear hK
    refine (unhide hP).setX 1 (setC (minusS (mayW V E L &&& nearS x0 E) (belS (x1 + 1)))) rfl (j := 5) (by kernel_rfl) rfl (by rfl) #[true,true,true,true,true,true] (by rfl) rfl (fun hb => store_SetR (N := minusS (mayW V E L &&& nearS x0 E) (belS (x1 + 1))) rfl (by rfl) (by rfl) hb) ?_
    intro y16 hQ
    replace hP : Hid (Sp w [] w [] [(r1,51,setC (minusS (mayW V E L) (nearS x0 E))),(r2,51,setC (minusS (mayW V E L &&& nearS x0 E) (belS (x1 + 1)))),(bm,51,setC (mayW V E L)),(bn,51,setC (nearS x0 E)),(ba,51,setC (minusS (mayW V E L &&& nearS x0 E) (belS (x1 + 1))))] [] y16) := hide hQ
    clear hQ
    try go_frame
    refine wpX_done (by kernel_rfl) ?_
    try go_frame
    go_wp2_with fail
    refine (unhide hP).leaves ?_
    intro w' hx hst
    refine ⟨_,ret_cells2 (t := 4) (u := 5) rfl rfl rfl (load_Set _ r1 _ (hst.get 0 rfl)) (load_Set _ r2 _ (hst.get 1 rfl)), ?_,hx⟩
    rw [show nextW V E L = minusS (mayW V E L) (nearS x0 E) by unfold nextW; rw [← unhide hx0']]
    rw [show lastW V E L = minusS (mayW V E L &&& nearS x0 E) (belS (x1 + 1)) by unfold lastW; rw [if_neg (fun h => hn2 ((unhide hn').trans h)), ← unhide hx0', ← unhide hx1']]
end Go.Proofs.YtmfkkkhddigkfaaGreatDoor
