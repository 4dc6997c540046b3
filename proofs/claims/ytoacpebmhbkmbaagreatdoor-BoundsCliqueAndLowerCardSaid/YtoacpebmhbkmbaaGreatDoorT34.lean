/- Parts of a proof, laid together. Each part says its own conditions. -/
import Derived.Test.YtoacpebmhbkmbaaGreatDoorT31
import Derived.Test.YtoacpebmhbkmbaaGreatDoorT32
import Derived.Test.YtoacpebmhbkmbaaGreatDoorT33
namespace Go.Proofs.YtoacpebmhbkmbaaGreatDoor
open Go Go.RowKit Go.Shelf
attribute [local go_sem] qUpon lUpon
attribute [local irreducible] wpO wpX wpQL
theorem infoC : (Tryz.prog.info? 51).map (fun i => (i.zero.map (·.cells.size),i.size,i.bytes)) = some (some 2,2,16) := by kernel_rfl
theorem run_build1C {ρ : Operand → Value} {o : Oper} {x : Operand} {w : World} {u v : Int} (ho : o.op = .buildSlice 44 1 #[(0,x)]) (hx : ρ x = .agg #[.int .i64 u, .int .i64 v]) : (execOp ρ o).run Tryz.prog w = .ok (.value (.slice (some ⟨w.heap.size,0,none⟩) 1 1)) (w.alloc (.cells #[.int .i64 u, .int .i64 v] 51)) := by
 unfold execOp
 simp only [ho]
 simp [go_sem,hx]
def CxPost (w : World) (z : Int) (xs : List (Int × Int)) (e : Ending) (w' : World) : Prop := ∃ A c,e = .returned (.tuple #[.int .i64 z, .slice A xs.length c]) ∧ w'.ownsRow w.heap.size 51 2 (.slice A xs.length c) xs.length (xs.flatMap encP) ∧ Ext w w'
theorem CxPost.mk {w w' : World} {z z' : Int} {xs : List (Int × Int)} {A : Option Addr} {n c : Nat} (hz : z = z') (hn : n = xs.length) (h1 : w'.ownsRow w.heap.size 51 2 (.slice A n c) n (xs.flatMap encP)) (h2 : Ext w w') : CxPost w z' xs (.returned (.tuple #[.int .i64 z, .slice A n c])) w' := ⟨A,c,by rw [hn,hz],by rw [hn] at h1; exact h1,h2⟩
theorem conS_nil (near : Int → Int → Bool) (n : Nat) : conS n near [] = [] := by cases n <;> rfl
theorem conS_none (near : Int → Int → Bool) (n : Nat) {L : List Int} (h : L ≠ []) (h2 : L.filter (near (leastP (degP near L) L)) = []) : conS (n + 1) near L = ((leastP (degP near L) L, -1),0) :: conS n near (L.erase (leastP (degP near L) L)) := by
 cases L with
 | nil => exact absurd rfl h
 | cons a l =>
  conv => lhs; rw [conS]
  exact if_pos h2
theorem conS_some (near : Int → Int → Bool) (n : Nat) {L : List Int} (h : L ≠ []) (h2 : L.filter (near (leastP (degP near L) L)) ≠ []) : conS (n + 1) near L = ((leastP (degP near L) L,leastP (degP near L) (L.filter (near (leastP (degP near L) L)))),(L.filter (near (leastP (degP near L) L))).length) :: conS n (mrgB near (leastP (degP near L) L) (leastP (degP near L) (L.filter (near (leastP (degP near L) L))))) (L.erase (leastP (degP near L) L)) := by
 cases L with
 | nil => exact absurd rfl h
 | cons a l =>
  conv => lhs; rw [conS]
  exact if_neg h2
theorem join_ok {d : Int} (hd : i64ok d) : ∀ (l : List Int) (m : List (Int × Nat)),(∀ p ∈ m,i64ok p.1) → (∀ x ∈ l,i64ok x) → ∀ p ∈ l.foldl (joinM d) m,i64ok p.1
 | [],_,h,_ => h
 | o :: l,m,h,hl => join_ok hd l (joinM d m o) (putM_ok (putM_ok h (hl o (by simp))) hd) (fun x hx => hl x (by simp [hx]))
def outC2 (ps : List ((Int × Int) × Nat)) : List (Int × Int) := ps.map (·.1)
set_option maxRecDepth 100000 in
set_option maxHeartbeats 16000000 in
theorem contraction_any (og : Option Addr) (V : List (Int × Thing)) (E : List ((Int × Int) × Thing)) (w : World) (hg : GL w og V E) (hi : GInv V E) (hT : Tab w) :
  Calls Tryz.prog 19 #[.pointer og] w (CxPost w ((conS (toL (vS V)).length (nr0 E) (toL (vS V))).foldl (fun m p => max m (p.2 : Int)) (-1)) (outC2 (conS (toL (vS V)).length (nr0 E) (toL (vS V))))) := by
 have hg' := hide hg
 have hT' := hide hT
 have hR0 := rep_of hi
 obtain ⟨L0,hL0⟩ : ∃ L0,L0 = toL (vS V) := ⟨_,rfl⟩
 obtain ⟨near0,hnear0⟩ : ∃ near0,near0 = nr0 E := ⟨_,rfl⟩
 obtain ⟨M0,hM0⟩ : ∃ M0,M0 = m0 E L0 := ⟨_,rfl⟩
 rw [← hL0, ← hnear0, ← hM0] at hR0
 rw [← hL0, ← hnear0]
 have hMe := hide (show m0 E (toL (vS V)) = M0 by rw [hM0,hL0])
 have hR0' := hide hR0
 clear hg hT hi hL0 hnear0 hM0 hR0
 obtain ⟨D,hD⟩ : ∃ D,D = conS L0.length near0 L0 := ⟨_,rfl⟩
 rw [← hD]
 have hD' := hide hD
 clear hD
 have hP := hide (Sp.new w)
 refine callsIn_wide.1 (callsIn_of_wp_marks (n := 0) Tryz.func19 rfl trivial (wpIn_wide.2 ?_))
 simp only [Tryz.ntmps19,List.size_toArray,List.length_cons,List.length_nil,Nat.reduceAdd,Nat.reduceSub,Array.replicate_succ,Array.replicate_zero,List.push_toArray,List.append_toArray,List.nil_append,List.cons_append]
 try dsimp only
 repeat ((fail_if_success (with_reducible refine wp_reg (id := 1) ?_)); (first | go_values | go_skip | go_step | go_guarded | go_upon | go_in | go_back | fail))
 with_reducible refine wp_reg (id := 1) ?_
 refine wpO_want rfl ?_
 go_simp
 refine wpO_want rfl ?_
 go_simp
 have hca := of_adj og V E w ((unhide hg').ext (unhide hP).extf) ((unhide hT').ext (unhide hP).extf)
 rw [unhide hMe] at hca
 have htl := ((unhide hT').ext (unhide hP).extf).lt
 refine hca.mono ?_
 clear hca
 rintro _ y1 ⟨mb,rfl,hge,hm,hxc⟩
 have htb := hide (show 0 < mb from Nat.lt_of_lt_of_le htl hge)
 refine ⟨_,rfl, ?_⟩
 replace hP : Hid (Sp w [] w [] [] [(98,0, .map (some mb),0,mapXs ekV evS M0)] y1) := hide ((unhide hP).addMap hxc hge hm.raw 98 0)
 clear htl hge hm hxc
 refine (unhide hP).allocO 98 #[.map none] rfl (by go_simp) ?_
 intro b4 y2 hQ
 replace hP : Hid (Sp w [] w [] [(b4,98, #[.map none])] [(98,0, .map (some mb),0,mapXs ekV evS M0)] y2) := hide hQ
 clear hQ
 refine (unhide hP).setO 0 #[.map (some mb)] rfl rfl (fun hb => run_store_row (v := .map (some mb)) rfl rfl rfl (by simp [go_sem]) hb rfl (by simp [Value.cells,Value.oneCell'])) ?_
 intro y3 hQ
 replace hP : Hid (Sp w [] w [] [(b4,98, #[.map (some mb)])] [(98,0, .map (some mb),0,mapXs ekV evS M0)] y3) := hide hQ
 clear hQ
 refine wpO_done ?_
 try go_frame
 go_wp2_with fail
 replace hP : Hid (Sp w [] w [] [(b4,98, #[.map (some mb)])] [(98,0, .map (some mb),0,mapXs ekV evS M0),(51,2, .slice none 0 0,0,([] : List (Int × Int)).flatMap encP)] y3) := hide ((unhide hP).nil 51 2)
 obtain ⟨I3_2,hI3_20⟩ : ∃ I : Nat → Act → World → Prop,I = fun fi a' wr => ∃ (m : List (Int × Nat)), ∃ (L : List Int), ∃ (near : Int → Int → Bool), ∃ (z : Int), ∃ (A6 : Option Addr), ∃ (n6 : Nat), ∃ (c6 : Nat), ∃ (ps : List ((Int × Int) × Nat)),a'.tmps.size = 72 ∧ a'.tmps.getD 4 undef = .pointer (some ⟨b4,0,none⟩) ∧ a'.tmps.getD 5 undef = .int .i64 z ∧ a'.tmps.getD 6 undef = .slice A6 n6 c6 ∧ Rep m L near ∧ D = ps ++ conS fi near L ∧ (z = ps.foldl (fun m p => max m (p.2 : Int)) (-1)) ∧ n6 = ps.length ∧ L.length = fi ∧ n6 + fi ≤ 1024 ∧ Sp w [] w a'.defers [(b4,98, #[.map (some mb)])] [(98,0, .map (some mb),0,mapXs ekV evS m),(51,2, .slice A6 n6 c6,n6,(outC2 ps).flatMap encP)] wr := ⟨_,rfl⟩
 have hI3_2 := hide hI3_20
 clear hI3_20
 refine wp_loop_ix I3_2 (L0.length) ?_ ?_
 ·rw [unhide hI3_2]; exact ⟨M0,L0,near0, -1,none,0,0,[],rfl,rfl,rfl,rfl,unhide hR0',unhide hD',rfl,rfl,rfl,by have := (unhide hR0').le; omega,unhide hP⟩
 ·rintro fi ⟨tm,ds⟩ wr hrel
  rw [unhide hI3_2] at hrel
  obtain ⟨m,L,near,z,A6,n6,c6,ps,hsz,e4,e5,e6,hRr,hDp,hz,hn6,hLf,hnf,hPr⟩ := hrel
  obtain ⟨us,rfl⟩ : ∃ us : Nat → Value,tm = #[us 0,us 1,us 2,us 3,us 4,us 5,us 6,us 7,us 8,us 9,us 10,us 11,us 12,us 13,us 14,us 15,us 16,us 17,us 18,us 19,us 20,us 21,us 22,us 23,us 24,us 25,us 26,us 27,us 28,us 29,us 30,us 31,us 32,us 33,us 34,us 35,us 36,us 37,us 38,us 39,us 40,us 41,us 42,us 43,us 44,us 45,us 46,us 47,us 48,us 49,us 50,us 51,us 52,us 53,us 54,us 55,us 56,us 57,us 58,us 59,us 60,us 61,us 62,us 63,us 64,us 65,us 66,us 67,us 68,us 69,us 70,us 71] := ⟨fun i => tm.getD i undef,arr_fn hsz⟩
  have h4 : us 4 = .pointer (some ⟨b4,0,none⟩) := e4
  have h5 : us 5 = .int .i64 z := e5
  have h6 : us 6 = .slice A6 n6 c6 := e6
  dsimp only at hPr
  clear hsz e4 e5 e6
  simp only [h4,h5,h6]
  clear h4 h5 h6
  clear hP hR0' hD'
  have hP := hide hPr
  have hR := hide hRr
  have hDp' := hide hDp
  have hz' := hide hz
  have hn6' := hide hn6
  have hLf' := hide hLf
  have hnf' := hide hnf
  obtain ⟨nL,hnL0⟩ : ∃ nL,nL = L.length := ⟨_,rfl⟩
  have hnL := hide hnL0.symm
  have hml := hide (show m.length = nL by rw [hnL0]; exact hRr.len)
  clear hPr hRr hDp hz hn6 hLf hnf hnL0
  by_cases hl0 : 0 < nL
  ·have hil : (0 : Int) < (nL : Int) := by omega
   have hl0' := hide hl0
   have hne : L ≠ [] := by rintro rfl; have := unhide hnL; simp at this; omega
   obtain ⟨f',hf0⟩ : ∃ f',fi = f' + 1 := ⟨fi - 1,by have := unhide hLf'; have := unhide hnL; omega⟩
   have hc1 := hide (conS_none near f' hne)
   have hc2 := hide (conS_some near f' hne)
   obtain ⟨y,hy⟩ : ∃ y,y = leastP (degP near L) L := ⟨_,rfl⟩
   rw [← hy] at hc1 hc2
   obtain ⟨dg,hdg⟩ : ∃ dg,dg = degP near L y := ⟨_,rfl⟩
   have hyL := hide (show y ∈ L by rw [hy]; exact leastP_mem _ hne)
   have hlb := hide (show nL ≤ 1024 by have := (unhide hR).le; have := unhide hnL; omega)
   have hdb := hide (show dg ≤ 1024 by rw [hdg]; exact degP_le (unhide hR) y)
   have hyd := hide (show cntF (nrM m y) 1024 = dg by rw [hdg]; exact (unhide hR).deg (unhide hyL))
   have hle := hide (fun (q : Int) (hq : LeastIs (fun x => ((cntF (nrM m x) 1024 : Nat) : Int)) L q) => show q = y by rw [hy]; exact (unhide hR).least (fun _ h => h) hq)
   obtain ⟨NX,hNX⟩ : ∃ NX,NX = nrM m y := ⟨_,rfl⟩
   have hNX' := hide hNX
   have hNl := hide (show toL NX = L.filter (near y) by rw [hNX]; exact (unhide hR).nb y (unhide hyL))
   have hdN := hide (show dg = (L.filter (near y)).length by rw [hdg]; rfl)
   have hf' := hide hf0
   clear hl0 hne hy hdg hf0 hNX
   try dsimp only
   repeat ((fail_if_success (with_reducible refine wp_reg (id := 4) ?_)); (first | go_values | go_skip | go_step | go_guarded | go_upon | go_in | go_back | fail))
   with_reducible refine wp_reg (id := 4) ?_
   refine wpO_val rfl (load_V (v := .map (some mb)) rfl rfl (by simp [go_sem]) (((unhide hP).get 0 rfl).cell 0)) ?_
   go_frame
   refine wpO_val rfl (run_mlen_op Tryz.underlying98 ((unhide hP).map 0 (m := m) (ek := ekV) (ev := evS) (ok := i64ok) rfl ((unhide hR).ok)) rfl rfl) ?_
   rw [unhide hml]
   go_frame
   refine wpO_want rfl ?_
   go_simp
   refine wpO_done ?_
   try go_frame
   go_wp2_with fail
   have hself := Keep.refl [] wr
   refine wp_regionK (P := Tryz.prog) [] [0,2,3] [] 3 #[true,false,true,true,false,false] (by kernel_rfl) (by kernel_rfl) rfl (by rfl) ?_
   refine ql_want (v := .map (some mb)) rfl (by rfl) (fun W hW => qUpon_ofX (load_V rfl rfl (by simp [go_sem]) ((unhide hP).cellK 0 0 rfl rfl (by simp) W hW))) ?_
   go_frame
   refine ql_want (v := .map (some mb)) rfl (by rfl) (fun W hW => qUpon_ofX (load_V rfl rfl (by simp [go_sem]) ((unhide hP).cellK 0 0 rfl rfl (by simp) W hW))) ?_
   go_frame
   iterate 1
    refine ql_want (v := ?_) rfl (by rfl) (fun W hW => ?_) ?_
    rotate_left
    ·go_simp
     first | done | rfl
    go_frame
   refine wpQL_nil (fun y4 hxq => ?_)
   have hK := hide (hxq.keep [])
   replace hP : Hid (Sp w [] w ds [(b4,98, #[.map (some mb)])] [(98,0, .map (some mb),0,mapXs ekV evS m),(51,2, .slice A6 n6 c6,n6,(outC2 ps).flatMap encP)] y4) := hide ((unhide hP).ext hxq)
   clear hxq
   clear hself
   refine lx_one (i := 1) (by kernel_rfl) rfl (by rfl) #[true,true,true,true,false,false] (by rfl) ?_
   go_simp
   refine (left_any mb m L y4 ((unhide hP).map 0 rfl (unhide hR).ok) (unhide hR).keys (unhide hR).sorted (by have := (unhide hR).le; omega)).mono ?_
   rintro _ zy5 ⟨AL,cL,rfl,ho,hxc⟩
   rw [unhide hnL] at ho
   rw [unhide hnL]
   refine ⟨_,rfl,(unhide hK).trans (hxc.keep _),fun y5 hxd => ?_⟩
   replace hP : Hid (Sp w [] w ds [(b4,98, #[.map (some mb)])] [(98,0, .map (some mb),0,mapXs ekV evS m),(51,2, .slice A6 n6 c6,n6,(outC2 ps).flatMap encP),(3,1, .slice AL nL cL,nL,L.flatMap encI)] y5) := hide (((unhide hP).addRow hxc ho).ext hxd)
   replace hK := hide ((unhide hK).trans ((hxc.trans hxd).keep _))
   clear ho
   clear hxc hxd
   try go_frame
   have hls := hide (show SlAt encI 1 y5 AL L from own_at (enc := encI) (by have h := (unhide hP).row 2 rfl; rw [← unhide hnL] at h; exact h) (fun _ => rfl))
   refine lx_one (i := 4) (by kernel_rfl) rfl (by rfl) #[true,true,true,true,true,false] (by rfl) ?_
   go_simp
   refine (least_any (fun x : Int => Value.int .i64 x) (fun x => ((cntF (nrM m x) 1024 : Nat) : Int)) AL L nL cL 57 #[.map (some mb)] #[] y5 (unhide hls) (unhide hnL).symm (unhide hl0') (by have := unhide hlb; omega) (degree_key ((unhide hP).map 0 rfl (unhide hR).ok) (unhide hR) L (fun _ h => h))).mono ?_
   rintro _ zy6 ⟨q,hq,rfl,hxc⟩
   obtain rfl := unhide hle q hq
   clear hq hle hls
   refine ⟨_,rfl,(unhide hK).trans (hxc.keep _),fun y6 hxd => ?_⟩
   replace hP : Hid (Sp w [] w ds [(b4,98, #[.map (some mb)])] [(98,0, .map (some mb),0,mapXs ekV evS m),(51,2, .slice A6 n6 c6,n6,(outC2 ps).flatMap encP),(3,1, .slice AL nL cL,nL,L.flatMap encI)] y6) := hide ((unhide hP).ext (hxc.trans hxd))
   replace hK := hide ((unhide hK).trans ((hxc.trans hxd).keep _))
   clear hxc hxd
   try go_frame
   refine lx_rekeep (unhide hK) [5] [] 0 1 #[true,true,true,true,true,false] #[true,true,true,true,true,true] (by kernel_rfl) rfl (by rfl) ?_
   clear hK
   iterate 1
    refine ql_want (v := ?_) rfl (by rfl) (fun W hW => ?_) ?_
    rotate_left
    ·go_simp
     first | done | rfl
    go_frame
   refine wpQL_nil (fun y7 hxq => ?_)
   replace hP : Hid (Sp w [] w ds [(b4,98, #[.map (some mb)])] [(98,0, .map (some mb),0,mapXs ekV evS m),(51,2, .slice A6 n6 c6,n6,(outC2 ps).flatMap encP),(3,1, .slice AL nL cL,nL,L.flatMap encI)] y7) := hide ((unhide hP).ext hxq)
   clear hxq
   refine wpX_done (by kernel_rfl) ?_
   try go_frame
   replace hP : Hid (Sp w [] w ds [(b4,98, #[.map (some mb)])] [(98,0, .map (some mb),0,mapXs ekV evS m),(51,2, .slice A6 n6 c6,n6,(outC2 ps).flatMap encP)] y7) := hide ((unhide hP).sub (List.Sublist.refl _) (List.sublist_append_left ([(98,0, .map (some mb),0,mapXs ekV evS m),(51,2, .slice A6 n6 c6,n6,(outC2 ps).flatMap encP)] : List Rw) _))
   try dsimp only
   repeat ((fail_if_success (with_reducible refine wp_reg (id := 6) ?_)); (first | go_values | go_skip | go_step | go_guarded | go_upon | go_in | go_back | fail))
   with_reducible refine wp_reg (id := 6) ?_
   refine wpO_want rfl ?_
   go_simp
   refine wpO_val rfl (load_V (v := .map (some mb)) rfl rfl (by simp [go_sem]) (((unhide hP).get 0 rfl).cell 0)) ?_
   go_frame
   refine wpO_want rfl ?_
   go_simp
   refine wpO_want rfl ?_
   go_simp
   have hca := degree_any mb m q y7 ((unhide hP).map 0 rfl (unhide hR).ok) ((unhide hR).okx (unhide hyL))
   rw [unhide hyd] at hca
   refine (hca).mono ?_
   rintro _ y8 ⟨rfl,hxc⟩
   clear hca
   refine ⟨_,rfl, ?_⟩
   replace hP : Hid (Sp w [] w ds [(b4,98, #[.map (some mb)])] [(98,0, .map (some mb),0,mapXs ekV evS m),(51,2, .slice A6 n6 c6,n6,(outC2 ps).flatMap encP)] y8) := hide ((unhide hP).ext hxc)
   clear hxc
   iterate 2
    refine wpO_want rfl ?_
    go_simp
   refine wpO_done ?_
   try go_frame
   try dsimp only
   repeat ((fail_if_success (with_reducible refine wp_reg (id := 7) ?_)); (first | go_values | go_skip | go_step | go_guarded | go_upon | go_in | go_back | fail))
   with_reducible refine wp_reg (id := 7) ?_
   iterate 2
    refine wpO_want rfl ?_
    go_simp
   refine (unhide hP).allocO 51 #[.int .i64 0, .int .i64 0] rfl (by go_simp) ?_
   intro b8 y9 hQ
   replace hP : Hid (Sp w [] w ds [(b4,98, #[.map (some mb)]),(b8,51, #[.int .i64 0, .int .i64 0])] [(98,0, .map (some mb),0,mapXs ekV evS m),(51,2, .slice A6 n6 c6,n6,(outC2 ps).flatMap encP)] y9) := hide hQ
   clear hQ
   refine (unhide hP).setO 1 #[.int .i64 q, .int .i64 (-1)] rfl rfl (fun hb => run_store_row (v := .agg #[.int .i64 q, .int .i64 (-1)]) rfl (by rfl) (by rfl) (by simp [go_sem]) hb rfl (fun u hu => by simp [Value.cells] at hu; rcases hu with rfl | rfl <;> rfl)) ?_
   intro y10 hQ
   replace hP : Hid (Sp w [] w ds [(b4,98, #[.map (some mb)]),(b8,51, #[.int .i64 q, .int .i64 (-1)])] [(98,0, .map (some mb),0,mapXs ekV evS m),(51,2, .slice A6 n6 c6,n6,(outC2 ps).flatMap encP)] y10) := hide hQ
   clear hQ
   refine wpO_done ?_
   try go_frame
   try dsimp only
   repeat ((fail_if_success (with_reducible refine wp_reg (id := 8) ?_)); (first | go_values | go_skip | go_step | go_guarded | go_upon | go_in | go_back | fail))
   with_reducible refine wp_reg (id := 8) ?_
   refine wpO_val rfl (load_V (v := .map (some mb)) rfl rfl (by simp [go_sem]) (((unhide hP).get 0 rfl).cell 0)) ?_
   go_frame
   refine wpO_val rfl (run_move rfl rfl) ?_
   go_frame
   refine (unhide hP).look1O 0 (m := m) (ek := ekV) (ev := evS) rfl ((unhide hR).ok) rfl keV Tryz.underlying98 (zeroS _) ((unhide hR).okx (unhide hyL)) rfl rfl rfl ?_
   rw [show (lookM m q).getD 0 = NX from (unhide hNX').symm]
   simp only [evS]
   go_frame
   refine (unhide hP).allocO 76 (setC 0) rfl (run_alloc_set rfl) ?_
   intro b9 y11 hQ
   replace hP : Hid (Sp w [] w ds [(b4,98, #[.map (some mb)]),(b8,51, #[.int .i64 q, .int .i64 (-1)]),(b9,76,setC 0)] [(98,0, .map (some mb),0,mapXs ekV evS m),(51,2, .slice A6 n6 c6,n6,(outC2 ps).flatMap encP)] y11) := hide hQ
   clear hQ
   refine (unhide hP).setO 2 (setC NX) rfl rfl (fun hb => store_SetR (N := NX) rfl rfl rfl hb) ?_
   intro y12 hQ
   replace hP : Hid (Sp w [] w ds [(b4,98, #[.map (some mb)]),(b8,51, #[.int .i64 q, .int .i64 (-1)]),(b9,76,setC NX)] [(98,0, .map (some mb),0,mapXs ekV evS m),(51,2, .slice A6 n6 c6,n6,(outC2 ps).flatMap encP)] y12) := hide hQ
   clear hQ
   refine wpO_done ?_
   try go_frame
   try dsimp only
   repeat ((fail_if_success (with_reducible refine wp_reg (id := 9) ?_)); (first | go_values | go_skip | go_step | go_guarded | go_upon | go_in | go_back | fail))
   with_reducible refine wp_reg (id := 9) ?_
   refine wpO_val rfl (load_SetR (N := NX) rfl rfl ((unhide hP).get 2 rfl).whole) ?_
   try go_frame
   refine wpO_want rfl ?_
   go_simp
   obtain ⟨qe,hqe⟩ : ∃ qe,qe = eqS NX 0 := ⟨_,rfl⟩
   have hqe' := hide hqe
   have hca := empty_any NX y12
   rw [← hqe] at hca
   clear hqe
   refine (hca).mono ?_
   rintro _ y13 ⟨rfl,hxc⟩
   clear hca
   refine ⟨_,rfl, ?_⟩
   replace hP : Hid (Sp w [] w ds [(b4,98, #[.map (some mb)]),(b8,51, #[.int .i64 q, .int .i64 (-1)]),(b9,76,setC NX)] [(98,0, .map (some mb),0,mapXs ekV evS m),(51,2, .slice A6 n6 c6,n6,(outC2 ps).flatMap encP)] y13) := hide ((unhide hP).ext hxc)
   clear hxc
   refine wpO_want rfl ?_
   go_simp
   refine wpO_done ?_
   try go_frame
   cases qe with
   | true =>
    have hfn : L.filter (near q) = [] := by rw [← unhide hNl]; exact eqS_nil.1 (unhide hqe').symm
    have hDs := hide (show D = (ps ++ [((q, -1),dg)]) ++ conS f' near (L.erase q) by rw [unhide hDp',unhide hf',unhide hc1 hfn,unhide hdN,hfn,List.append_assoc]; rfl)
    have hR2 := hide ((unhide hR).away (unhide hyL))
    clear hfn hc1 hc2
    try dsimp only
    repeat ((fail_if_success (with_reducible refine wp_reg (id := 15) ?_)); (first | go_values | go_skip | go_step | go_guarded | go_upon | go_in | go_back | fail))
    with_reducible refine wp_reg (id := 15) ?_
    refine wpO_val rfl (load_V (v := .map (some mb)) rfl rfl (by simp [go_sem]) (((unhide hP).get 0 rfl).cell 0)) ?_
    go_frame
    refine wpO_want rfl ?_
    go_simp
    refine wpO_want rfl ?_
    go_simp
    refine (away_any mb m q y13 ((unhide hP).map 0 rfl (unhide hR).ok) ((unhide hR).okx (unhide hyL)) ((unhide hT').ext (unhide hP).extf) (unhide htb)).mono ?_
    rintro _ y14 ⟨⟨_,rfl⟩,hm,hk⟩
    refine ⟨_,rfl, ?_⟩
    replace hP : Hid (Sp w [] w ds [(b4,98, #[.map (some mb)]),(b8,51, #[.int .i64 q, .int .i64 (-1)]),(b9,76,setC NX)] [(98,0, .map (some mb),0,mapXs ekV evS (awayM m q)),(51,2, .slice A6 n6 c6,n6,(outC2 ps).flatMap encP)] y14) := hide ((unhide hP).mapSet 0 rfl hm.raw hk)
    clear hm hk
    refine wpO_done ?_
    try go_frame
    try dsimp only
    repeat ((fail_if_success (with_reducible refine wp_reg (id := 16) ?_)); (first | go_values | go_skip | go_step | go_guarded | go_upon | go_in | go_back | fail))
    with_reducible refine wp_reg (id := 16) ?_
    have q0 := (unhide hP).cell 1 0 (v := .int .i64 q) rfl rfl
    have q1 := (unhide hP).cell 1 1 (v := .int .i64 (-1)) rfl rfl
    have hself := Ext.refl y14
    iterate 2
     refine wpO_want rfl ?_
     go_simp
    clear q0 q1 hself
    refine (unhide hP).build1O 51 #[.int .i64 q, .int .i64 (-1)] rfl (run_build1C rfl rfl) ?_
    intro bb y15 hQ
    replace hP : Hid (Sp w [] w ds [(b4,98, #[.map (some mb)]),(b8,51, #[.int .i64 q, .int .i64 (-1)]),(b9,76,setC NX),(bb,51, #[.int .i64 q, .int .i64 (-1)])] [(98,0, .map (some mb),0,mapXs ekV evS (awayM m q)),(51,2, .slice A6 n6 c6,n6,(outC2 ps).flatMap encP)] y15) := hide hQ
    clear hQ
    go_frame
    refine (unhide hP).ap1O (enc := encP) (T := 51) (ST := 44) 1 (v := .slice A6 n6 c6) (m := n6) (xs := outC2 ps) rfl rfl infoC Tryz.underlying44 one_encP (fun _ => rfl) (by decide) (by decide) rfl (q,(-1)) rfl rfl ((unhide hP).get 3 rfl) (by have := unhide hnf'; omega) ?_
    intro A7 cA7 y16 hQ
    replace hP : Hid (Sp w [] w ds [(b4,98, #[.map (some mb)]),(b8,51, #[.int .i64 q, .int .i64 (-1)]),(b9,76,setC NX),(bb,51, #[.int .i64 q, .int .i64 (-1)])] [(98,0, .map (some mb),0,mapXs ekV evS (awayM m q)),(51,2, .slice A7 (n6 + 1) cA7,n6 + 1,(outC2 ps ++ [(q,(-1))]).flatMap encP)] y16) := hide hQ
    clear hQ
    try go_frame
    refine wpO_want rfl ?_
    go_simp
    refine wpO_done ?_
    try go_frame
    replace hP : Hid (Sp w [] w ds [(b4,98, #[.map (some mb)]),(b8,51, #[.int .i64 q, .int .i64 (-1)]),(b9,76,setC NX)] [(98,0, .map (some mb),0,mapXs ekV evS (awayM m q)),(51,2, .slice A7 (n6 + 1) cA7,n6 + 1,(outC2 ps ++ [(q,(-1))]).flatMap encP)] y16) := hide ((unhide hP).sub (List.sublist_append_left _ ([(bb,51, #[.int .i64 q, .int .i64 (-1)])] : List Cl)) (List.Sublist.refl _))
    replace hP : Hid (Sp w [] w ds [(b4,98, #[.map (some mb)]),(b8,51, #[.int .i64 q, .int .i64 (-1)])] [(98,0, .map (some mb),0,mapXs ekV evS (awayM m q)),(51,2, .slice A7 (n6 + 1) cA7,n6 + 1,(outC2 ps ++ [(q,(-1))]).flatMap encP)] y16) := hide ((unhide hP).sub (List.sublist_append_left _ ([(b9,76,setC NX)] : List Cl)) (List.Sublist.refl _))
    replace hP : Hid (Sp w [] w ds [(b4,98, #[.map (some mb)])] [(98,0, .map (some mb),0,mapXs ekV evS (awayM m q)),(51,2, .slice A7 (n6 + 1) cA7,n6 + 1,(outC2 ps ++ [(q,(-1))]).flatMap encP)] y16) := hide ((unhide hP).sub (List.sublist_append_left _ ([(b8,51, #[.int .i64 q, .int .i64 (-1)])] : List Cl)) (List.Sublist.refl _))
    go_wp2_with fail
    refine ⟨f', ?_,by have := unhide hf'; omega⟩
    rw [unhide hI3_2]
    exact ⟨awayM m q,L.erase q,near,max z dg,A7,n6 + 1,cA7,ps ++ [((q,(-1)),dg)],(by first | rfl | trivial),(by first | rfl | trivial),(by first | rfl | trivial),(by first | rfl | trivial),unhide hR2,unhide hDs,by rw [List.foldl_append, ← unhide hz']; rfl,by rw [List.length_append, ← unhide hn6']; rfl,by rw [List.length_erase_of_mem (unhide hyL)]; have := unhide hLf'; have := unhide hf'; omega,by have := unhide hnf'; have := unhide hf'; omega,by unfold outC2; rw [List.map_append]; exact unhide hP⟩
   | false =>
    have hfn : L.filter (near q) ≠ [] := fun h => by have h2 := eqS_nil.2 ((unhide hNl).trans h); rw [← unhide hqe'] at h2; cases h2
    obtain ⟨NL,hNL⟩ : ∃ NL,NL = L.filter (near q) := ⟨_,rfl⟩
    have hc3 := unhide hc2 hfn
    rw [← hNL] at hc3
    obtain ⟨y,hy⟩ : ∃ y,y = leastP (degP near L) NL := ⟨_,rfl⟩
    rw [← hy] at hc3
    have hyN : y ∈ NL := by rw [hy]; exact leastP_mem _ (by rw [hNL]; exact hfn)
    have hyN2 := hyN
    rw [hNL,List.mem_filter] at hyN2
    have hNL2 := hide (show toL NX = NL by rw [hNL]; exact unhide hNl)
    obtain ⟨nN,hnN⟩ : ∃ nN,nN = NL.length := ⟨_,rfl⟩
    have hnN' := hide hnN
    have hnN0 := hide (show 0 < nN by rw [hnN]; exact List.length_pos_of_mem hyN)
    have hnNb := hide (show nN ≤ 1024 by rw [hnN,hNL]; exact Nat.le_trans (List.length_filter_le _ _) (unhide hR).le)
    have hsub := hide (show ∀ x ∈ NL,x ∈ L from fun x hx => by rw [hNL,List.mem_filter] at hx; exact hx.1)
    have hDs := hide (show D = (ps ++ [((q,y),dg)]) ++ conS f' (mrgB near q y) (L.erase q) by rw [unhide hDp',unhide hf',hc3,unhide hdN,hNL,List.append_assoc]; rfl)
    have hle := hide (fun (q' : Int) (hq : LeastIs (fun x => ((cntF (nrM m x) 1024 : Nat) : Int)) NL q') => show q' = y by rw [hy]; exact (unhide hR).least (unhide hsub) hq)
    have hR1 := hide ((unhide hR).con (unhide hyL) hyN2.1 hyN2.2)
    have hR2 := hide ((unhide hR1).away (unhide hyL))
    have hyok := hide ((unhide hR).okx hyN2.1)
    clear hfn hc1 hc2 hc3 hNL hy hyN hyN2 hnN
    go_wp2_with fail
    have hself := Keep.refl [b8] y13
    have hne9 : b9 ∉ [b8] := by have := (unhide hP).ne 2 1 (by decide) rfl rfl; simpa using this
    have hne4 : b4 ∉ [b8] := by have := (unhide hP).ne 0 1 (by decide) rfl rfl; simpa using this
    refine wp_regionK (P := Tryz.prog) [b8] [0,2,3] [5,6] 4 #[true,false,true,true,false,false,false] (by kernel_rfl) (by kernel_rfl) rfl (by rfl) ?_
    refine ql_want (v := .agg (setC NX)) rfl (by rfl) (fun W hW => qUpon_ofX (load_SetR rfl rfl ((unhide hP).wholeK 2 rfl hW hne9))) ?_
    go_frame
    refine ql_want (v := .map (some mb)) rfl (by rfl) (fun W hW => qUpon_ofX (load_V rfl rfl (by simp [go_sem]) ((unhide hP).cellK 0 0 rfl rfl hne4 W hW))) ?_
    go_frame
    iterate 1
     refine ql_want (v := ?_) rfl (by rfl) (fun W hW => ?_) ?_
     rotate_left
     ·go_simp
      first | done | rfl
     go_frame
    refine wpQL_nil (fun y14 hxq => ?_)
    have hK := hide (hxq.keep [b8])
    replace hP : Hid (Sp w [] w ds [(b4,98, #[.map (some mb)]),(b8,51, #[.int .i64 q, .int .i64 (-1)]),(b9,76,setC NX)] [(98,0, .map (some mb),0,mapXs ekV evS m),(51,2, .slice A6 n6 c6,n6,(outC2 ps).flatMap encP)] y14) := hide ((unhide hP).ext hxq)
    clear hxq
    clear hself hne9 hne4
    refine lx_one (i := 1) (by kernel_rfl) rfl (by rfl) #[true,true,true,true,false,false,false] (by rfl) ?_
    have hca := elements_any NX y14 ((unhide hT').ext (unhide hP).extf)
    rw [unhide hNL2] at hca
    go_simp
    refine (hca).mono ?_
    rintro _ zy15 ⟨AE,cE,rfl,ho,hxc⟩
    rw [← unhide hnN'] at ho
    rw [← unhide hnN']
    clear hca
    refine ⟨_,rfl,(unhide hK).trans (hxc.keep _),fun y15 hxd => ?_⟩
    replace hP : Hid (Sp w [] w ds [(b4,98, #[.map (some mb)]),(b8,51, #[.int .i64 q, .int .i64 (-1)]),(b9,76,setC NX)] [(98,0, .map (some mb),0,mapXs ekV evS m),(51,2, .slice A6 n6 c6,n6,(outC2 ps).flatMap encP),(3,1, .slice AE nN cE,nN,NL.flatMap encI)] y15) := hide (((unhide hP).addRow hxc ho).ext hxd)
    replace hK := hide ((unhide hK).trans ((hxc.trans hxd).keep _))
    clear ho
    clear hxc hxd
    try go_frame
    have hls := hide (show SlAt encI 1 y15 AE NL from own_at (enc := encI) (by have h := (unhide hP).row 2 rfl; rw [unhide hnN'] at h; exact h) (fun _ => rfl))
    refine lx_one (i := 4) (by kernel_rfl) rfl (by rfl) #[true,true,true,true,true,false,false] (by rfl) ?_
    go_simp
    refine (least_any (fun x : Int => Value.int .i64 x) (fun x => ((cntF (nrM m x) 1024 : Nat) : Int)) AE NL nN cE 57 #[.map (some mb)] #[] y15 (unhide hls) (unhide hnN') (unhide hnN0) (by have := unhide hnNb; omega) (degree_key ((unhide hP).map 0 rfl (unhide hR).ok) (unhide hR) NL (unhide hsub))).mono ?_
    rintro _ zy16 ⟨q',hq,rfl,hxc⟩
    obtain rfl := unhide hle q' hq
    clear hq hle hls
    refine ⟨_,rfl,(unhide hK).trans (hxc.keep _),fun y16 hxd => ?_⟩
    replace hP : Hid (Sp w [] w ds [(b4,98, #[.map (some mb)]),(b8,51, #[.int .i64 q, .int .i64 (-1)]),(b9,76,setC NX)] [(98,0, .map (some mb),0,mapXs ekV evS m),(51,2, .slice A6 n6 c6,n6,(outC2 ps).flatMap encP),(3,1, .slice AE nN cE,nN,NL.flatMap encI)] y16) := hide ((unhide hP).ext (hxc.trans hxd))
    replace hK := hide ((unhide hK).trans ((hxc.trans hxd).keep _))
    clear hxc hxd
    try go_frame
    refine lx_requiet [b8] [5] [6] 1 2 #[true,true,true,true,true,false,false] #[true,true,true,true,true,true,false] (by kernel_rfl) (by kernel_rfl) rfl (by rfl) ?_
    iterate 1
     refine ql_want (v := ?_) rfl (by rfl) (fun W hW => ?_) ?_
     rotate_left
     ·go_simp
      first | done | rfl
     go_frame
    refine wpQL_nil (fun y17 hxq => ?_)
    replace hP : Hid (Sp w [] w ds [(b4,98, #[.map (some mb)]),(b8,51, #[.int .i64 q, .int .i64 (-1)]),(b9,76,setC NX)] [(98,0, .map (some mb),0,mapXs ekV evS m),(51,2, .slice A6 n6 c6,n6,(outC2 ps).flatMap encP),(3,1, .slice AE nN cE,nN,NL.flatMap encI)] y17) := hide ((unhide hP).ext hxq)
    clear hxq
    refine (unhide hP).setX 1 #[.int .i64 q, .int .i64 q'] rfl (j := 6) (by kernel_rfl) rfl (by rfl) #[true,true,true,true,true,true,true] (by rfl) rfl (fun hb => run_store_elem1 (enc := encI) (C := [q, -1]) (i := 1) q' rfl rfl rfl rfl (fun _ => rfl) one_encI (by go_simp) hb (by simp)) ?_
    intro y18 hQ
    replace hP : Hid (Sp w [] w ds [(b4,98, #[.map (some mb)]),(b8,51, #[.int .i64 q, .int .i64 q']),(b9,76,setC NX)] [(98,0, .map (some mb),0,mapXs ekV evS m),(51,2, .slice A6 n6 c6,n6,(outC2 ps).flatMap encP),(3,1, .slice AE nN cE,nN,NL.flatMap encI)] y18) := hide hQ
    clear hQ
    try go_frame
    refine wpX_done (by kernel_rfl) ?_
    try go_frame
    replace hP : Hid (Sp w [] w ds [(b4,98, #[.map (some mb)]),(b8,51, #[.int .i64 q, .int .i64 q']),(b9,76,setC NX)] [(98,0, .map (some mb),0,mapXs ekV evS m),(51,2, .slice A6 n6 c6,n6,(outC2 ps).flatMap encP)] y18) := hide ((unhide hP).sub (List.Sublist.refl _) (List.sublist_append_left ([(98,0, .map (some mb),0,mapXs ekV evS m),(51,2, .slice A6 n6 c6,n6,(outC2 ps).flatMap encP)] : List Rw) _))
    obtain ⟨SX,hSX⟩ : ∃ SX,SX = withoutS NX q' := ⟨_,rfl⟩
    have hSX' := hide hSX
    try dsimp only
    repeat ((fail_if_success (with_reducible refine wp_reg (id := 11) ?_)); (first | go_values | go_skip | go_step | go_guarded | go_upon | go_in | go_back | fail))
    with_reducible refine wp_reg (id := 11) ?_
    refine wpO_val rfl (load_SetR (N := NX) rfl rfl ((unhide hP).get 2 rfl).whole) ?_
    go_frame
    have q1 := (unhide hP).cell 1 1 (v := .int .i64 q') rfl rfl
    have hself := Ext.refl y18
    iterate 2
     refine wpO_want rfl ?_
     go_simp
    clear q1 hself
    refine wpO_want rfl ?_
    go_simp
    have hca := without_S NX q' y18
    rw [← hSX] at hca
    clear hSX
    refine (hca).mono ?_
    rintro _ y19 ⟨rfl,hxc⟩
    clear hca
    refine ⟨_,rfl, ?_⟩
    replace hP : Hid (Sp w [] w ds [(b4,98, #[.map (some mb)]),(b8,51, #[.int .i64 q, .int .i64 q']),(b9,76,setC NX)] [(98,0, .map (some mb),0,mapXs ekV evS m),(51,2, .slice A6 n6 c6,n6,(outC2 ps).flatMap encP)] y19) := hide ((unhide hP).ext hxc)
    clear hxc
    refine wpO_want rfl ?_
    go_simp
    refine (all_ext SX _).mono ?_
    rintro _ y20 ⟨ba,rfl,hBa0,hxc⟩
    refine ⟨_,rfl, ?_⟩
    replace hP : Hid (Sp w [] w ds [(b4,98, #[.map (some mb)]),(b8,51, #[.int .i64 q, .int .i64 q']),(b9,76,setC NX)] [(98,0, .map (some mb),0,mapXs ekV evS m),(51,2, .slice A6 n6 c6,n6,(outC2 ps).flatMap encP)] y20) := hide ((unhide hP).ext hxc)
    have hBa := hide hBa0
    clear hxc hBa0
    refine wpO_done ?_
    try go_frame
    go_wp2_with fail
    refine wp_rngS (gf := 112) (lb := #[.pointer (some ⟨ba,0,none⟩)]) (unhide hP) rfl (enters_of Tryz.func112 (by kernel_rfl) rfl) (ex := [0]) ((unhide hP).tab (unhide hT')) (all_iter SX ba y20 (unhide hBa) ((unhide hT').ext (unhide hP).extf)) (fun _ => rfl)
     (fun pre L' Rs' => L' = [(b4,98, #[.map (some mb)]),(b8,51, #[.int .i64 q, .int .i64 q']),(b9,76,setC NX)] ∧ Rs' = [(98,0, .map (some mb),0,mapXs ekV evS ((pre).foldl (joinM q') m)),(51,2, .slice A6 n6 c6,n6,(outC2 ps).flatMap encP)])
     (fun _ _ _ => False)
     (fun tm _ v a1 _ => a1 = ⟨(tm.setIfInBounds 45 (.int .i64 v)).setIfInBounds 10 (.int .i64 v),[]⟩)
     (fun _ _ _ _ _ h _ => h) ⟨rfl,rfl⟩ ?_ ?_ ?_ ?_
    ·intro T' v W' K hlt' hsz hK
     have hK' := hide hK
     have hlt2 := hide hlt'
     have hsz2 := hide hsz
     clear hK hlt' hsz
     rw [zip1]
     simp only [List.setIfInBounds_toArray,List.set_cons_succ,List.set_cons_zero]
     try dsimp only
     repeat ((fail_if_success (with_reducible refine wpI_reg (id := 12) (by kernel_rfl) ?_)); (first | go_values | gi_step | gi_guarded | gi_upon | gi_in | gi_back | fail))
     with_reducible refine wpI_reg (id := 12) (by kernel_rfl) ?_
     refine wpO_want rfl ?_
     go_simp
     refine wpO_done ?_
     try go_frame
     exact unhide hK' _ _ rfl (Ext.refl _)
    ·rintro l pre v a1 L' Rs' W' ⟨rfl,rfl⟩ hB0 rfl hpx hl hkW htW
     simp only [List.setIfInBounds_toArray,List.set_cons_succ,List.set_cons_zero]
     have hv0' := hide (toL_ok (hpx.subset (by simp) : v ∈ toL SX))
     have hokM := hide (join_ok (unhide hyok) pre m (unhide hR).ok (fun x hx => toL_ok (hpx.subset (by simp [hx]) : x ∈ toL SX)))
     have hsn := hide (show (pre ++ [v]).foldl (joinM q') m = joinM q' (pre.foldl (joinM q') m) v by rw [List.foldl_append]; rfl)
     obtain ⟨M,hM⟩ : ∃ M,M = pre.foldl (joinM q') m := ⟨_,rfl⟩
     rw [← hM] at hB0 hokM hsn
     obtain ⟨N1,hN1⟩ : ∃ N1,N1 = nrM M v := ⟨_,rfl⟩
     obtain ⟨M1,hM1⟩ : ∃ M1,M1 = putM M v (withS N1 q') := ⟨_,rfl⟩
     obtain ⟨N2,hN2⟩ : ∃ N2,N2 = nrM M1 q' := ⟨_,rfl⟩
     have hsn2 := hide (show joinM q' M v = putM M1 q' (withS N2 v) by rw [hN2,hM1,hN1]; rfl)
     have hokM1 := hide (show ∀ p ∈ M1,i64ok p.1 by rw [hM1]; exact putM_ok (unhide hokM) (unhide hv0'))
     have hN1' := hide hN1
     have hN2' := hide hN2
     have hM1' := hide hM1
     have hB : Hid (Sp w (stT [(b4,98, #[.map (some mb)]),(b8,51, #[.int .i64 q, .int .i64 q']),(b9,76,setC NX)] [(98,0, .map (some mb),0,mapXs ekV evS M),(51,2, .slice A6 n6 c6,n6,(outC2 ps).flatMap encP)]) W' [] [(b4,98, #[.map (some mb)]),(b8,51, #[.int .i64 q, .int .i64 q']),(b9,76,setC NX)] [(98,0, .map (some mb),0,mapXs ekV evS M),(51,2, .slice A6 n6 c6,n6,(outC2 ps).flatMap encP)] W') := hide hB0
     clear hB0 hM hN1 hN2 hM1 hpx hl hkW htW
     gi_wp2_with fail
     have q8 := (unhide hB).cellK (S := []) 1 1 (v := .int .i64 q') rfl rfl (by simp)
     have hself := Keep.refl [] W'
     refine wpI_regionK (P := Tryz.prog) [] [0,1,2,3,4,5,6,7] [8] 1 #[true,true,true,true,true,true,true,true,false] (by kernel_rfl) (by kernel_rfl) (by kernel_rfl) rfl (by rfl) ?_
     refine ql_want (v := .map (some mb)) rfl (by rfl) (fun W hW => qUpon_ofX (load_V rfl rfl (by simp [go_sem]) ((unhide hB).cellK 0 0 rfl rfl (by simp) W hW))) ?_
     go_frame
     iterate 1
      refine ql_want (v := ?_) rfl (by rfl) (fun W hW => ?_) ?_
      rotate_left
      ·go_simp
       first | done | rfl
      go_frame
     refine ql_want (v := .map (some mb)) rfl (by rfl) (fun W hW => qUpon_ofX (load_V rfl rfl (by simp [go_sem]) ((unhide hB).cellK 0 0 rfl rfl (by simp) W hW))) ?_
     go_frame
     iterate 1
      refine ql_want (v := ?_) rfl (by rfl) (fun W hW => ?_) ?_
      rotate_left
      ·go_simp
       first | done | rfl
      go_frame
     refine ql_want (v := .agg (setC N1)) rfl (by rfl) (fun W hW => qUpon_ofX ?_) ?_
     ·rw [unhide hN1']
      exact run_lookup1_op (z0 := 0) keV Tryz.underlying98 ((unhide hB).mapK 0 (m := M) (ek := ekV) (ev := evS) rfl (unhide hokM) hW (by simp)) (zeroS _) (unhide hv0') rfl rfl rfl
     go_frame
     iterate 2
      refine ql_want (v := ?_) rfl (by rfl) (fun W hW => ?_) ?_
      rotate_left
      ·go_simp
       first | done | rfl
      go_frame
     refine ql_want (v := .agg (setC (withS N1 q'))) rfl (by rfl) (fun W hW => ?_) ?_
     ·go_simp
      refine (with_any N1 q' W).mono ?_
      rintro _ _ ⟨h1,h2⟩
      exact ⟨_,h1,rfl,h2⟩
     go_frame
     refine wpQL_nil (fun y21 hxq => ?_)
     replace hB : Hid (Sp w (stT [(b4,98, #[.map (some mb)]),(b8,51, #[.int .i64 q, .int .i64 q']),(b9,76,setC NX)] [(98,0, .map (some mb),0,mapXs ekV evS M),(51,2, .slice A6 n6 c6,n6,(outC2 ps).flatMap encP)]) W' [] [(b4,98, #[.map (some mb)]),(b8,51, #[.int .i64 q, .int .i64 q']),(b9,76,setC NX)] [(98,0, .map (some mb),0,mapXs ekV evS M),(51,2, .slice A6 n6 c6,n6,(outC2 ps).flatMap encP)] y21) := hide ((unhide hB).ext hxq)
     clear hxq
     clear hself q8
     refine (unhide hB).mapPutX 0 (m := M) (ek := ekV) (ev := evS) rfl (unhide hokM) (j := 8) (by kernel_rfl) rfl (by rfl) #[true,true,true,true,true,true,true,true,true] (by rfl) (by rfl) keV Tryz.underlying98 (x := v) (unhide hv0') (withS N1 q') rfl rfl rfl rfl 0 ?_
     intro y22 hQ
     replace hB : Hid (Sp w (stT [(b4,98, #[.map (some mb)]),(b8,51, #[.int .i64 q, .int .i64 q']),(b9,76,setC NX)] [(98,0, .map (some mb),0,mapXs ekV evS M),(51,2, .slice A6 n6 c6,n6,(outC2 ps).flatMap encP)]) W' [] [(b4,98, #[.map (some mb)]),(b8,51, #[.int .i64 q, .int .i64 q']),(b9,76,setC NX)] [(98,0, .map (some mb),0,mapXs ekV evS (putM M v (withS N1 q'))),(51,2, .slice A6 n6 c6,n6,(outC2 ps).flatMap encP)] y22) := hide hQ
     clear hQ
     try go_frame
     refine wpX_done (by kernel_rfl) ?_
     try go_frame
     rw [← unhide hM1'] at hB
     replace hB : Hid (Sp w (stT [(b4,98, #[.map (some mb)]),(b8,51, #[.int .i64 q, .int .i64 q']),(b9,76,setC NX)] [(98,0, .map (some mb),0,mapXs ekV evS M),(51,2, .slice A6 n6 c6,n6,(outC2 ps).flatMap encP)]) W' [] [(b4,98, #[.map (some mb)]),(b8,51, #[.int .i64 q, .int .i64 q']),(b9,76,setC NX)] [(98,0, .map (some mb),0,mapXs ekV evS M1),(51,2, .slice A6 n6 c6,n6,(outC2 ps).flatMap encP)] y22) := hB
     gi_wp2_with fail
     have q8 := (unhide hB).cellK (S := []) 1 1 (v := .int .i64 q') rfl rfl (by simp)
     have hself := Keep.refl [] y22
     refine wpI_regionK (P := Tryz.prog) [] [0,1,2,3,4,5,6,7,8] [9] 1 #[true,true,true,true,true,true,true,true,true,false] (by kernel_rfl) (by kernel_rfl) (by kernel_rfl) rfl (by rfl) ?_
     refine ql_want (v := .map (some mb)) rfl (by rfl) (fun W hW => qUpon_ofX (load_V rfl rfl (by simp [go_sem]) ((unhide hB).cellK 0 0 rfl rfl (by simp) W hW))) ?_
     go_frame
     iterate 2
      refine ql_want (v := ?_) rfl (by rfl) (fun W hW => ?_) ?_
      rotate_left
      ·go_simp
       first | done | rfl
      go_frame
     refine ql_want (v := .map (some mb)) rfl (by rfl) (fun W hW => qUpon_ofX (load_V rfl rfl (by simp [go_sem]) ((unhide hB).cellK 0 0 rfl rfl (by simp) W hW))) ?_
     go_frame
     iterate 2
      refine ql_want (v := ?_) rfl (by rfl) (fun W hW => ?_) ?_
      rotate_left
      ·go_simp
       first | done | rfl
      go_frame
     refine ql_want (v := .agg (setC N2)) rfl (by rfl) (fun W hW => qUpon_ofX ?_) ?_
     ·rw [unhide hN2']
      exact run_lookup1_op (z0 := 0) keV Tryz.underlying98 ((unhide hB).mapK 0 (m := M1) (ek := ekV) (ev := evS) rfl (unhide hokM1) hW (by simp)) (zeroS _) (unhide hyok) rfl rfl rfl
     go_frame
     iterate 1
      refine ql_want (v := ?_) rfl (by rfl) (fun W hW => ?_) ?_
      rotate_left
      ·go_simp
       first | done | rfl
      go_frame
     refine ql_want (v := .agg (setC (withS N2 v))) rfl (by rfl) (fun W hW => ?_) ?_
     ·go_simp
      refine (with_any N2 v W).mono ?_
      rintro _ _ ⟨h1,h2⟩
      exact ⟨_,h1,rfl,h2⟩
     go_frame
     refine wpQL_nil (fun y23 hxq => ?_)
     replace hB : Hid (Sp w (stT [(b4,98, #[.map (some mb)]),(b8,51, #[.int .i64 q, .int .i64 q']),(b9,76,setC NX)] [(98,0, .map (some mb),0,mapXs ekV evS M),(51,2, .slice A6 n6 c6,n6,(outC2 ps).flatMap encP)]) W' [] [(b4,98, #[.map (some mb)]),(b8,51, #[.int .i64 q, .int .i64 q']),(b9,76,setC NX)] [(98,0, .map (some mb),0,mapXs ekV evS M1),(51,2, .slice A6 n6 c6,n6,(outC2 ps).flatMap encP)] y23) := hide ((unhide hB).ext hxq)
     clear hxq
     clear hself q8
     refine (unhide hB).mapPutX 0 (m := M1) (ek := ekV) (ev := evS) rfl (unhide hokM1) (j := 9) (by kernel_rfl) rfl (by rfl) #[true,true,true,true,true,true,true,true,true,true] (by rfl) (by rfl) keV Tryz.underlying98 (x := q') (unhide hyok) (withS N2 v) rfl rfl rfl rfl 0 ?_
     intro y24 hQ
     replace hB : Hid (Sp w (stT [(b4,98, #[.map (some mb)]),(b8,51, #[.int .i64 q, .int .i64 q']),(b9,76,setC NX)] [(98,0, .map (some mb),0,mapXs ekV evS M),(51,2, .slice A6 n6 c6,n6,(outC2 ps).flatMap encP)]) W' [] [(b4,98, #[.map (some mb)]),(b8,51, #[.int .i64 q, .int .i64 q']),(b9,76,setC NX)] [(98,0, .map (some mb),0,mapXs ekV evS (putM M1 q' (withS N2 v))),(51,2, .slice A6 n6 c6,n6,(outC2 ps).flatMap encP)] y24) := hide hQ
     clear hQ
     try go_frame
     refine wpX_done (by kernel_rfl) ?_
     try go_frame
     gi_wp2_with fail
     exact ⟨_,_,⟨rfl,by rw [unhide hsn,unhide hsn2]⟩,unhide hB⟩
    ·rintro D2 L' Rs' W' ⟨rfl,rfl⟩ hkW hP0
     generalize ({ target := .collected D2,args := #[] } :: ds : List Deferred) = ds2 at hP0 ⊢
     have hMe2 : (toL SX).foldl (joinM q') m = conM m q q' := by rw [unhide hSX',unhide hNX']; rfl
     rw [hMe2] at hP0
     obtain ⟨M,hM⟩ : ∃ M,M = conM m q q' := ⟨_,rfl⟩
     rw [← hM] at hP0 hR1 hR2
     clear hkW hP hBa hM hMe2
     have hP : Hid (Sp w [] w ds2 [(b4,98, #[.map (some mb)]),(b8,51, #[.int .i64 q, .int .i64 q']),(b9,76,setC NX)] [(98,0, .map (some mb),0,mapXs ekV evS M),(51,2, .slice A6 n6 c6,n6,(outC2 ps).flatMap encP)] W') := hide hP0
     clear hP0
     try dsimp only
     repeat ((fail_if_success (with_reducible refine wp_reg (id := 15) ?_)); (first | go_values | go_skip | go_step | go_guarded | go_upon | go_in | go_back | fail))
     with_reducible refine wp_reg (id := 15) ?_
     refine wpO_val rfl (load_V (v := .map (some mb)) rfl rfl (by simp [go_sem]) (((unhide hP).get 0 rfl).cell 0)) ?_
     go_frame
     refine wpO_want rfl ?_
     go_simp
     refine wpO_want rfl ?_
     go_simp
     refine (away_any mb M q W' ((unhide hP).map 0 rfl (unhide hR1).ok) ((unhide hR).okx (unhide hyL)) ((unhide hT').ext (unhide hP).extf) (unhide htb)).mono ?_
     rintro _ y30 ⟨⟨_,rfl⟩,hm,hk⟩
     refine ⟨_,rfl, ?_⟩
     replace hP : Hid (Sp w [] w ds2 [(b4,98, #[.map (some mb)]),(b8,51, #[.int .i64 q, .int .i64 q']),(b9,76,setC NX)] [(98,0, .map (some mb),0,mapXs ekV evS (awayM M q)),(51,2, .slice A6 n6 c6,n6,(outC2 ps).flatMap encP)] y30) := hide ((unhide hP).mapSet 0 rfl hm.raw hk)
     clear hm hk
     refine wpO_done ?_
     try go_frame
     try dsimp only
     repeat ((fail_if_success (with_reducible refine wp_reg (id := 16) ?_)); (first | go_values | go_skip | go_step | go_guarded | go_upon | go_in | go_back | fail))
     with_reducible refine wp_reg (id := 16) ?_
     have q0 := (unhide hP).cell 1 0 (v := .int .i64 q) rfl rfl
     have q1 := (unhide hP).cell 1 1 (v := .int .i64 q') rfl rfl
     have hself := Ext.refl y30
     iterate 2
      refine wpO_want rfl ?_
      go_simp
     clear q0 q1 hself
     refine (unhide hP).build1O 51 #[.int .i64 q, .int .i64 q'] rfl (run_build1C rfl rfl) ?_
     intro bb y31 hQ
     replace hP : Hid (Sp w [] w ds2 [(b4,98, #[.map (some mb)]),(b8,51, #[.int .i64 q, .int .i64 q']),(b9,76,setC NX),(bb,51, #[.int .i64 q, .int .i64 q'])] [(98,0, .map (some mb),0,mapXs ekV evS (awayM M q)),(51,2, .slice A6 n6 c6,n6,(outC2 ps).flatMap encP)] y31) := hide hQ
     clear hQ
     go_frame
     refine (unhide hP).ap1O (enc := encP) (T := 51) (ST := 44) 1 (v := .slice A6 n6 c6) (m := n6) (xs := outC2 ps) rfl rfl infoC Tryz.underlying44 one_encP (fun _ => rfl) (by decide) (by decide) rfl (q,q') rfl rfl ((unhide hP).get 3 rfl) (by have := unhide hnf'; omega) ?_
     intro A7 cA7 y32 hQ
     replace hP : Hid (Sp w [] w ds2 [(b4,98, #[.map (some mb)]),(b8,51, #[.int .i64 q, .int .i64 q']),(b9,76,setC NX),(bb,51, #[.int .i64 q, .int .i64 q'])] [(98,0, .map (some mb),0,mapXs ekV evS (awayM M q)),(51,2, .slice A7 (n6 + 1) cA7,n6 + 1,(outC2 ps ++ [(q,q')]).flatMap encP)] y32) := hide hQ
     clear hQ
     try go_frame
     refine wpO_want rfl ?_
     go_simp
     refine wpO_done ?_
     try go_frame
     replace hP : Hid (Sp w [] w ds2 [(b4,98, #[.map (some mb)]),(b8,51, #[.int .i64 q, .int .i64 q']),(b9,76,setC NX)] [(98,0, .map (some mb),0,mapXs ekV evS (awayM M q)),(51,2, .slice A7 (n6 + 1) cA7,n6 + 1,(outC2 ps ++ [(q,q')]).flatMap encP)] y32) := hide ((unhide hP).sub (List.sublist_append_left _ ([(bb,51, #[.int .i64 q, .int .i64 q'])] : List Cl)) (List.Sublist.refl _))
     replace hP : Hid (Sp w [] w ds2 [(b4,98, #[.map (some mb)]),(b8,51, #[.int .i64 q, .int .i64 q'])] [(98,0, .map (some mb),0,mapXs ekV evS (awayM M q)),(51,2, .slice A7 (n6 + 1) cA7,n6 + 1,(outC2 ps ++ [(q,q')]).flatMap encP)] y32) := hide ((unhide hP).sub (List.sublist_append_left _ ([(b9,76,setC NX)] : List Cl)) (List.Sublist.refl _))
     replace hP : Hid (Sp w [] w ds2 [(b4,98, #[.map (some mb)])] [(98,0, .map (some mb),0,mapXs ekV evS (awayM M q)),(51,2, .slice A7 (n6 + 1) cA7,n6 + 1,(outC2 ps ++ [(q,q')]).flatMap encP)] y32) := hide ((unhide hP).sub (List.sublist_append_left _ ([(b8,51, #[.int .i64 q, .int .i64 q'])] : List Cl)) (List.Sublist.refl _))
     go_wp2_with fail
     refine ⟨f', ?_,by have := unhide hf'; omega⟩
     rw [unhide hI3_2]
     exact ⟨awayM M q,L.erase q,mrgB near q q',max z dg,A7,n6 + 1,cA7,ps ++ [((q,q'),dg)],(by first | rfl | trivial),(by first | rfl | trivial),(by first | rfl | trivial),(by first | rfl | trivial),unhide hR2,unhide hDs,by rw [List.foldl_append, ← unhide hz']; rfl,by rw [List.length_append, ← unhide hn6']; rfl,by rw [List.length_erase_of_mem (unhide hyL)]; have := unhide hLf'; have := unhide hf'; omega,by have := unhide hnf'; have := unhide hf'; omega,by unfold outC2; rw [List.map_append]; exact unhide hP⟩
    ·intro D2 c L' Rs' W' h
     exact h.elim
  ·have hil : ¬ (0 : Int) < (nL : Int) := by omega
   have hLn : L = [] := List.eq_nil_of_length_eq_zero (by have := unhide hnL; omega)
   have hDe := hide (show D = ps by rw [unhide hDp',hLn,conS_nil,List.append_nil])
   clear hl0 hLn
   try dsimp only
   repeat ((fail_if_success (with_reducible refine wp_reg (id := 4) ?_)); (first | go_values | go_skip | go_step | go_guarded | go_upon | go_in | go_back | fail))
   with_reducible refine wp_reg (id := 4) ?_
   refine wpO_val rfl (load_V (v := .map (some mb)) rfl rfl (by simp [go_sem]) (((unhide hP).get 0 rfl).cell 0)) ?_
   go_frame
   refine wpO_val rfl (run_mlen_op Tryz.underlying98 ((unhide hP).map 0 (m := m) (ek := ekV) (ev := evS) (ok := i64ok) rfl ((unhide hR).ok)) rfl rfl) ?_
   rw [unhide hml]
   go_frame
   refine wpO_want rfl ?_
   go_simp
   refine wpO_done ?_
   try go_frame
   try dsimp only
   repeat ((fail_if_success (with_reducible refine wp_reg (id := 17) ?_)); (first | go_values | go_skip | go_step | go_guarded | go_upon | go_in | go_back | fail))
   with_reducible refine wp_reg (id := 17) ?_
   iterate 4
    refine wpO_want rfl ?_
    go_simp
   refine wpO_done ?_
   try go_frame
   go_wp2_with fail
   refine (unhide hP).leaves ?_
   intro w' hx hst
   exact ⟨_,results_tmp2 (t := 2) (u := 3) rfl _ _ _,CxPost.mk (by rw [unhide hDe]; exact unhide hz') (by rw [unhide hDe]; unfold outC2; rw [List.length_map]; exact unhide hn6') (by rw [unhide hDe]; exact hst.row 1 rfl) hx⟩
end Go.Proofs.YtoacpebmhbkmbaaGreatDoor
