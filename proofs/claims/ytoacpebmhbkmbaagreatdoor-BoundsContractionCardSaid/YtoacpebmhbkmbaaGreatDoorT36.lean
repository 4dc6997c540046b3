/- Parts of a proof, laid together. Each part says its own conditions. -/
import Derived.Test.YtoacpebmhbkmbaaGreatDoorT31
import Derived.Test.YtoacpebmhbkmbaaGreatDoorT26
import Derived.Test.YtoacpebmhbkmbaaGreatDoorT33
import Derived.Test.YtoacpebmhbkmbaaGreatDoorT23
namespace Go.Proofs.YtoacpebmhbkmbaaGreatDoor
open Go Go.RowKit Go.Shelf
attribute [local go_sem] qUpon lUpon
attribute [local irreducible] wpO wpX wpQL
structure ByF (key : (Int → Int → Bool) → List Int → Int → Nat) (fd : Nat) : Prop where
 enters : ∀ args w,(callFunc fd args).run Tryz.prog w = .ok (.enter fd args) w
 step : ∀ (mb : Nat) (m : List (Int × Nat)) (L : List Int) (near : Int → Int → Bool) (x : Int) (W : World),MapIs ekV evS i64ok W mb m → Rep m L near → Tab W → x ∈ L → Calls Tryz.prog fd #[.map (some mb), .int .i64 x] W fun e W' => e = .returned (.int .i64 (key near L x)) ∧ Ext W W'
def filP (near : Int → Int → Bool) (L : List Int) (x : Int) : Nat := lackP near (L.filter (near x))
theorem by_degree : ByF degP 57 :=
 ⟨Go.Proofs.enters_of Tryz.func57 (by kernel_rfl) rfl,fun mb m L near x W hM hR _ hx => by
  have h := degree_any mb m x W hM (hR.okx hx)
  rw [hR.deg hx] at h
  exact h⟩
theorem by_fill : ByF filP 72 :=
 ⟨Go.Proofs.enters_of Tryz.func72 (by kernel_rfl) rfl,fun mb m L near x W hM hR hT hx => by
  have h := fill_any mb m x W hM (hR.okx hx) hT
  rw [hR.fill hx] at h
  exact h⟩
theorem ordS_cons (key : (Int → Int → Bool) → List Int → Int → Nat) (near : Int → Int → Bool) (n : Nat) {L : List Int} (h : L ≠ []) : ordS key (n + 1) near L = leastP (key near L) L :: ordS key n (eliB near (leastP (key near L) L)) (L.erase (leastP (key near L) L)) := by
 cases L with
 | nil => exact absurd rfl h
 | cons a l => rfl
theorem ordS_nil (key : (Int → Int → Bool) → List Int → Int → Nat) (near : Int → Int → Bool) (n : Nat) : ordS key n near [] = [] := by cases n <;> rfl
set_option maxRecDepth 100000 in
set_option maxHeartbeats 16000000 in
theorem order1_any (key : (Int → Int → Bool) → List Int → Int → Nat) (fd b3 b5 mb : Nat) (m : List (Int × Nat)) (L : List Int) (near : Int → Int → Bool) (x : Int) (w : World) (hk : ByF key fd) (h3 : Blk w b3 119 #[.func (.func fd) #[] #[]]) (h5 : Blk w b5 98 #[.map (some mb)]) (hM : MapIs ekV evS i64ok w mb m) (hR : Rep m L near) (hT : Tab w) (hx : x ∈ L) :
  Calls Tryz.prog 119 #[.int .i64 x, .pointer (some ⟨b3,0,none⟩), .pointer (some ⟨b5,0,none⟩)] w fun e w' => e = .returned (.int .i64 (key near L x)) ∧ Ext w w' := by
 have hen := hk.enters
 have hk' := hide hk
 have q3 := h3.cells 0 (v := .func (.func fd) #[] #[]) rfl
 have q5 := h5.cells 0 (v := .map (some mb)) rfl
 have hca := hide (hk.step mb m L near x w hM hR hT hx)
 obtain ⟨kv,hkv⟩ : ∃ kv,kv = key near L x := ⟨_,rfl⟩
 rw [← hkv] at hca ⊢
 clear hk h3 h5 hM hR hT hx hkv
 have hP := hide (Sp.new w)
 refine callsIn_wide.1 (callsIn_of_wp_marks (n := 0) Tryz.func119 rfl trivial (wpIn_wide.2 ?_))
 simp only [Tryz.ntmps119,List.size_toArray,List.length_cons,List.length_nil,Nat.reduceAdd,Nat.reduceSub,Array.replicate_succ,Array.replicate_zero,List.push_toArray,List.append_toArray,List.nil_append,List.cons_append]
 have hself := Ext.refl w
 try dsimp only
 repeat ((fail_if_success (with_reducible refine wp_reg (id := 1) ?_)); (first | go_values | go_skip | go_step | go_guarded | go_upon | go_in | go_back | fail))
 with_reducible refine wp_reg (id := 1) ?_
 iterate 3
  refine wpO_want rfl ?_
  go_simp
 clear q3 q5 hself
 refine wpO_want rfl ?_
 go_simp
 replace hca := unhide hca
 refine (hca).mono ?_
 rintro _ y1 ⟨rfl,hxc⟩
 clear hca
 refine ⟨_,rfl, ?_⟩
 replace hP : Hid (Sp w [] w [] [] [] y1) := hide ((unhide hP).ext hxc)
 clear hxc
 refine wpO_want rfl ?_
 go_simp
 refine wpO_done ?_
 try go_frame
 go_wp2_with fail
 refine Sp.leaves0 ?_
 exact ⟨_,results_tmp (t := 4) rfl _ _ _,rfl,(unhide hP).extf⟩
set_option maxRecDepth 100000 in
set_option maxHeartbeats 16000000 in
theorem order_any (og : Option Addr) (V : List (Int × Thing)) (E : List ((Int × Int) × Thing)) (key : (Int → Int → Bool) → List Int → Int → Nat) (fd : Nat) (w : World) (hg : GL w og V E) (hi : GInv V E) (hT : Tab w) (hk : ByF key fd) :
  Calls Tryz.prog 70 #[.pointer og, .func (.func fd) #[] #[]] w (OwL w (ordS key (toL (vS V)).length (nr0 E) (toL (vS V)))) := by
 have hk' := hide hk
 have hg' := hide hg
 have hT' := hide hT
 have hR0 := rep_of hi
 obtain ⟨L0,hL0⟩ : ∃ L0,L0 = toL (vS V) := ⟨_,rfl⟩
 obtain ⟨near0,hnear⟩ : ∃ near,near = nr0 E := ⟨_,rfl⟩
 obtain ⟨M0,hM0⟩ : ∃ M0,M0 = m0 E L0 := ⟨_,rfl⟩
 rw [← hL0, ← hnear, ← hM0] at hR0
 rw [← hL0, ← hnear]
 have hMe := hide (show m0 E (toL (vS V)) = M0 by rw [hM0,hL0])
 have hR0' := hide hR0
 obtain ⟨D,hD⟩ : ∃ D,D = ordS key L0.length near0 L0 := ⟨_,rfl⟩
 rw [← hD]
 have hD' := hide hD
 clear hg hT hi hL0 hnear hM0 hR0 hD hk
 have hP := hide (Sp.new w)
 refine callsIn_wide.1 (callsIn_of_wp_marks (n := 0) Tryz.func70 rfl trivial (wpIn_wide.2 ?_))
 simp only [Tryz.ntmps70,List.size_toArray,List.length_cons,List.length_nil,Nat.reduceAdd,Nat.reduceSub,Array.replicate_succ,Array.replicate_zero,List.push_toArray,List.append_toArray,List.nil_append,List.cons_append]
 try dsimp only
 repeat ((fail_if_success (with_reducible refine wp_reg (id := 0) ?_)); (first | go_values | go_skip | go_step | go_guarded | go_upon | go_in | go_back | fail))
 with_reducible refine wp_reg (id := 0) ?_
 refine (unhide hP).allocO 119 #[.func (.func fd) #[] #[]] rfl (run_box (v := .func (.func fd) #[] #[]) rfl rfl) ?_
 intro b3 y1 hQ
 replace hP : Hid (Sp w [] w [] [(b3,119, #[.func (.func fd) #[] #[]])] [] y1) := hide hQ
 clear hQ
 refine wpO_want rfl ?_
 go_simp
 refine wpO_done ?_
 try go_frame
 try dsimp only
 repeat ((fail_if_success (with_reducible refine wp_reg (id := 1) ?_)); (first | go_values | go_skip | go_step | go_guarded | go_upon | go_in | go_back | fail))
 with_reducible refine wp_reg (id := 1) ?_
 refine wpO_want rfl ?_
 go_simp
 refine wpO_want rfl ?_
 go_simp
 have hca := of_adj og V E y1 ((unhide hg').ext (unhide hP).extf) ((unhide hT').ext (unhide hP).extf)
 rw [unhide hMe] at hca
 have htl := ((unhide hT').ext (unhide hP).extf).lt
 refine hca.mono ?_
 clear hca
 rintro _ y2 ⟨mb,rfl,hge,hm,hxc⟩
 have htb := hide (show 0 < mb from Nat.lt_of_lt_of_le htl hge)
 refine ⟨_,rfl, ?_⟩
 replace hP : Hid (Sp w [] w [] [(b3,119, #[.func (.func fd) #[] #[]])] [(98,0, .map (some mb),0,mapXs ekV evS M0)] y2) := hide ((unhide hP).addMap hxc hge hm.raw 98 0)
 clear htl hge hm hxc
 refine (unhide hP).allocO 98 #[.map none] rfl (by go_simp) ?_
 intro b5 y3 hQ
 replace hP : Hid (Sp w [] w [] [(b3,119, #[.func (.func fd) #[] #[]]),(b5,98, #[.map none])] [(98,0, .map (some mb),0,mapXs ekV evS M0)] y3) := hide hQ
 clear hQ
 refine (unhide hP).setO 1 #[.map (some mb)] rfl rfl (fun hb => run_store_row (v := .map (some mb)) rfl rfl rfl (by simp [go_sem]) hb rfl (by simp [Value.cells,Value.oneCell'])) ?_
 intro y4 hQ
 replace hP : Hid (Sp w [] w [] [(b3,119, #[.func (.func fd) #[] #[]]),(b5,98, #[.map (some mb)])] [(98,0, .map (some mb),0,mapXs ekV evS M0)] y4) := hide hQ
 clear hQ
 refine wpO_done ?_
 try go_frame
 go_wp2_with fail
 replace hP : Hid (Sp w [] w [] [(b3,119, #[.func (.func fd) #[] #[]]),(b5,98, #[.map (some mb)])] [(98,0, .map (some mb),0,mapXs ekV evS M0),(3,1, .slice none 0 0,0,([] : List Int).flatMap encI)] y4) := hide ((unhide hP).nil 3 1)
 obtain ⟨I4_2,hI4_20⟩ : ∃ I : Nat → Act → World → Prop,I = fun fi a' wr => ∃ (m : List (Int × Nat)), ∃ (L : List Int), ∃ (near : Int → Int → Bool), ∃ (A6 : Option Addr), ∃ (n6 : Nat), ∃ (c6 : Nat), ∃ (xs : List Int),a'.tmps.size = 28 ∧ a'.tmps.getD 3 undef = .pointer (some ⟨b3,0,none⟩) ∧ a'.tmps.getD 5 undef = .pointer (some ⟨b5,0,none⟩) ∧ a'.tmps.getD 6 undef = .slice A6 n6 c6 ∧ a'.defers = [] ∧ Rep m L near ∧ D = xs ++ ordS key fi near L ∧ n6 = xs.length ∧ L.length = fi ∧ n6 + fi ≤ 1024 ∧ (Sp w [] w [] [(b3,119, #[.func (.func fd) #[] #[]]),(b5,98, #[.map (some mb)])] [(98,0, .map (some mb),0,mapXs ekV evS m),(3,1, .slice A6 n6 c6,n6,xs.flatMap encI)] wr) := ⟨_,rfl⟩
 have hI4_2 := hide hI4_20
 clear hI4_20
 refine wp_loop_ix I4_2 (L0.length) ?_ ?_
 ·rw [unhide hI4_2]; exact ⟨M0,L0,near0,none,0,0,[],rfl,rfl,rfl,rfl,rfl,unhide hR0',unhide hD',rfl,rfl,by have := (unhide hR0').le; omega,unhide hP⟩
 ·rintro fi ⟨tm,dfs⟩ wr hrel
  rw [unhide hI4_2] at hrel
  obtain ⟨m,L,near,A6,n6,c6,xs,hsz,e3,e5,e6,hdf,hRr,hDp,hn6,hLf,hnf,hPr⟩ := hrel
  obtain ⟨us,rfl⟩ : ∃ us : Nat → Value,tm = #[us 0,us 1,us 2,us 3,us 4,us 5,us 6,us 7,us 8,us 9,us 10,us 11,us 12,us 13,us 14,us 15,us 16,us 17,us 18,us 19,us 20,us 21,us 22,us 23,us 24,us 25,us 26,us 27] := ⟨fun i => tm.getD i undef,arr_fn hsz⟩
  have h3 : us 3 = .pointer (some ⟨b3,0,none⟩) := e3
  have h5 : us 5 = .pointer (some ⟨b5,0,none⟩) := e5
  have h6 : us 6 = .slice A6 n6 c6 := e6
  have hdf2 : dfs = [] := hdf
  subst hdf2
  clear hdf hsz e3 e5 e6
  simp only [h3,h5,h6]
  clear h3 h5 h6
  clear hP hR0' hD'
  have hP := hide hPr
  have hR := hide hRr
  have hDp' := hide hDp
  have hn6' := hide hn6
  have hLf' := hide hLf
  have hnf' := hide hnf
  obtain ⟨nL,hnL0⟩ : ∃ nL,nL = L.length := ⟨_,rfl⟩
  have hnL := hide hnL0.symm
  have hml := hide (show m.length = nL by rw [hnL0]; exact hRr.len)
  clear hPr hRr hDp hn6 hLf hnf hnL0
  by_cases hl0 : 0 < nL
  ·have hil : (0 : Int) < (nL : Int) := by omega
   have hl0' := hide hl0
   have hne : L ≠ [] := by rintro rfl; have := unhide hnL; simp at this; omega
   obtain ⟨f',hf0⟩ : ∃ f',fi = f' + 1 := ⟨fi - 1,by have := unhide hLf'; have := unhide hnL; omega⟩
   obtain ⟨y,hy⟩ : ∃ y,y = leastP (key near L) L := ⟨_,rfl⟩
   have hyL := hide (show y ∈ L by rw [hy]; exact leastP_mem _ hne)
   have hDs := hide (show D = (xs ++ [y]) ++ ordS key f' (eliB near y) (L.erase y) by rw [unhide hDp',hf0,ordS_cons key near f' hne, ← hy,List.append_assoc]; rfl)
   have hlb := hide (show nL ≤ 1024 by have := (unhide hR).le; have := unhide hnL; omega)
   have hle := hide (fun (q : Int) (hq : LeastIs (fun x => ((key near L x : Nat) : Int)) L q) => show q = y by rw [hy]; exact LeastIs.eq (k := fun x => key near L x) hq)
   have hR1 := hide ((unhide hR).tog (unhide hyL))
   have hR2 := hide ((unhide hR1).away (unhide hyL))
   have hf' := hide hf0
   clear hl0 hne hy hf0
   try dsimp only
   repeat ((fail_if_success (with_reducible refine wp_reg (id := 3) ?_)); (first | go_values | go_skip | go_step | go_guarded | go_upon | go_in | go_back | fail))
   with_reducible refine wp_reg (id := 3) ?_
   refine wpO_val rfl (load_V (v := .map (some mb)) rfl rfl (by simp [go_sem]) (((unhide hP).get 1 rfl).cell 0)) ?_
   go_frame
   refine wpO_val rfl (run_mlen_op Tryz.underlying98 ((unhide hP).map 0 (m := m) (ek := ekV) (ev := evS) (ok := i64ok) rfl ((unhide hR).ok)) rfl rfl) ?_
   rw [unhide hml]
   go_frame
   refine wpO_want rfl ?_
   go_simp
   refine wpO_done ?_
   try go_frame
   try dsimp only
   repeat ((fail_if_success (with_reducible refine wp_reg (id := 4) ?_)); (first | go_values | go_skip | go_step | go_guarded | go_upon | go_in | go_back | fail))
   with_reducible refine wp_reg (id := 4) ?_
   refine wpO_val rfl (load_V (v := .map (some mb)) rfl rfl (by simp [go_sem]) (((unhide hP).get 1 rfl).cell 0)) ?_
   go_frame
   refine wpO_want rfl ?_
   go_simp
   have hca := left_any mb m L wr ((unhide hP).map 0 rfl (unhide hR).ok) (unhide hR).keys (unhide hR).sorted (by have := (unhide hR).le; omega)
   refine hca.mono ?_
   clear hca
   rintro _ y5 ⟨AL,cL,rfl,ho,hxc⟩
   rw [unhide hnL] at ho
   rw [unhide hnL]
   refine ⟨_,rfl, ?_⟩
   replace hP : Hid (Sp w [] w [] [(b3,119, #[.func (.func fd) #[] #[]]),(b5,98, #[.map (some mb)])] [(98,0, .map (some mb),0,mapXs ekV evS m),(3,1, .slice A6 n6 c6,n6,xs.flatMap encI),(3,1, .slice AL nL cL,nL,L.flatMap encI)] y5) := hide ((unhide hP).addRow hxc ho)
   clear ho hxc
   refine wpO_want rfl ?_
   go_simp
   refine wpO_want rfl ?_
   go_simp
   have hls := hide (show SlAt encI 1 y5 AL L from own_at (enc := encI) (by have h := (unhide hP).row 2 rfl; rw [← unhide hnL] at h; exact h) (fun _ => rfl))
   have hkf : KeyF (fun x : Int => Value.int .i64 x) (fun x => ((key near L x : Nat) : Int)) L 119 #[] #[.pointer (some ⟨b3,0,none⟩), .pointer (some ⟨b5,0,none⟩)] y5 := ⟨Go.Proofs.enters_of Tryz.func119 (by kernel_rfl) rfl,fun W hW x hx args ha => by
    rw [ha]
    exact order1_any key fd b3 b5 mb m L near x W (unhide hk') (((unhide hP).get 0 rfl).ext hW) (((unhide hP).get 1 rfl).ext hW) (((unhide hP).map 0 rfl (unhide hR).ok).ext hW) (unhide hR) ((unhide hT').ext ((unhide hP).extf.trans hW)) hx⟩
   have hca := least_any (fun x : Int => Value.int .i64 x) (fun x => ((key near L x : Nat) : Int)) AL L nL cL 119 #[] #[.pointer (some ⟨b3,0,none⟩), .pointer (some ⟨b5,0,none⟩)] y5 (unhide hls) (unhide hnL).symm (unhide hl0') (by have := unhide hlb; omega) hkf
   refine hca.mono ?_
   clear hca hls hkf
   rintro _ y6 ⟨q,hq,rfl,hxc⟩
   obtain rfl := unhide hle q hq
   refine ⟨_,rfl, ?_⟩
   replace hP : Hid (Sp w [] w [] [(b3,119, #[.func (.func fd) #[] #[]]),(b5,98, #[.map (some mb)])] [(98,0, .map (some mb),0,mapXs ekV evS m),(3,1, .slice A6 n6 c6,n6,xs.flatMap encI),(3,1, .slice AL nL cL,nL,L.flatMap encI)] y6) := hide ((unhide hP).ext hxc)
   clear hq hxc hle
   refine wpO_want rfl ?_
   go_simp
   refine wpO_done ?_
   try go_frame
   try dsimp only
   repeat ((fail_if_success (with_reducible refine wp_reg (id := 5) ?_)); (first | go_values | go_skip | go_step | go_guarded | go_upon | go_in | go_back | fail))
   with_reducible refine wp_reg (id := 5) ?_
   iterate 2
    refine wpO_want rfl ?_
    go_simp
   refine (unhide hP).build1O 3 #[.int .i64 q] rfl (run_build1X rfl rfl) ?_
   intro bb y7 hQ
   replace hP : Hid (Sp w [] w [] [(b3,119, #[.func (.func fd) #[] #[]]),(b5,98, #[.map (some mb)]),(bb,3, #[.int .i64 q])] [(98,0, .map (some mb),0,mapXs ekV evS m),(3,1, .slice A6 n6 c6,n6,xs.flatMap encI),(3,1, .slice AL nL cL,nL,L.flatMap encI)] y7) := hide hQ
   clear hQ
   go_frame
   refine (unhide hP).ap1O (enc := encI) (T := 3) (ST := 31) 1 (v := .slice A6 n6 c6) (m := n6) (xs := xs) rfl rfl infoI Tryz.underlying31 one_encI (fun _ => rfl) (by decide) (by decide) rfl q rfl rfl ((unhide hP).get 2 rfl) (by have := unhide hnf'; omega) ?_
   intro A7 cA7 y8 hQ
   replace hP : Hid (Sp w [] w [] [(b3,119, #[.func (.func fd) #[] #[]]),(b5,98, #[.map (some mb)]),(bb,3, #[.int .i64 q])] [(98,0, .map (some mb),0,mapXs ekV evS m),(3,1, .slice A7 (n6 + 1) cA7,n6 + 1,(xs ++ [q]).flatMap encI),(3,1, .slice AL nL cL,nL,L.flatMap encI)] y8) := hide hQ
   clear hQ
   try go_frame
   refine wpO_want rfl ?_
   go_simp
   refine wpO_done ?_
   try go_frame
   replace hP : Hid (Sp w [] w [] [(b3,119, #[.func (.func fd) #[] #[]]),(b5,98, #[.map (some mb)])] [(98,0, .map (some mb),0,mapXs ekV evS m),(3,1, .slice A7 (n6 + 1) cA7,n6 + 1,(xs ++ [q]).flatMap encI),(3,1, .slice AL nL cL,nL,L.flatMap encI)] y8) := hide ((unhide hP).sub (List.sublist_append_left _ ([(bb,3, #[.int .i64 q])] : List Cl)) (List.Sublist.refl _))
   try dsimp only
   repeat ((fail_if_success (with_reducible refine wp_reg (id := 6) ?_)); (first | go_values | go_skip | go_step | go_guarded | go_upon | go_in | go_back | fail))
   with_reducible refine wp_reg (id := 6) ?_
   refine wpO_val rfl (load_V (v := .map (some mb)) rfl rfl (by simp [go_sem]) (((unhide hP).get 1 rfl).cell 0)) ?_
   go_frame
   refine wpO_want rfl ?_
   go_simp
   refine wpO_want rfl ?_
   go_simp
   refine (together_any mb m q y8 ((unhide hP).map 0 rfl (unhide hR).ok) ((unhide hR).okx (unhide hyL)) ((unhide hT').ext (unhide hP).extf) (unhide htb)).mono ?_
   rintro _ y9 ⟨⟨_,rfl⟩,hm,hk⟩
   refine ⟨_,rfl, ?_⟩
   replace hP : Hid (Sp w [] w [] [(b3,119, #[.func (.func fd) #[] #[]]),(b5,98, #[.map (some mb)])] [(98,0, .map (some mb),0,mapXs ekV evS (togM m q)),(3,1, .slice A7 (n6 + 1) cA7,n6 + 1,(xs ++ [q]).flatMap encI),(3,1, .slice AL nL cL,nL,L.flatMap encI)] y9) := hide ((unhide hP).mapSet 0 rfl hm.raw hk)
   clear hm hk
   refine wpO_done ?_
   try go_frame
   try dsimp only
   repeat ((fail_if_success (with_reducible refine wp_reg (id := 7) ?_)); (first | go_values | go_skip | go_step | go_guarded | go_upon | go_in | go_back | fail))
   with_reducible refine wp_reg (id := 7) ?_
   refine wpO_val rfl (load_V (v := .map (some mb)) rfl rfl (by simp [go_sem]) (((unhide hP).get 1 rfl).cell 0)) ?_
   go_frame
   refine wpO_want rfl ?_
   go_simp
   refine wpO_want rfl ?_
   go_simp
   refine (away_any mb (togM m q) q y9 ((unhide hP).map 0 rfl (unhide hR1).ok) ((unhide hR).okx (unhide hyL)) ((unhide hT').ext (unhide hP).extf) (unhide htb)).mono ?_
   rintro _ y10 ⟨⟨_,rfl⟩,hm,hk⟩
   refine ⟨_,rfl, ?_⟩
   replace hP : Hid (Sp w [] w [] [(b3,119, #[.func (.func fd) #[] #[]]),(b5,98, #[.map (some mb)])] [(98,0, .map (some mb),0,mapXs ekV evS (awayM (togM m q) q)),(3,1, .slice A7 (n6 + 1) cA7,n6 + 1,(xs ++ [q]).flatMap encI),(3,1, .slice AL nL cL,nL,L.flatMap encI)] y10) := hide ((unhide hP).mapSet 0 rfl hm.raw hk)
   clear hm hk
   refine wpO_done ?_
   try go_frame
   replace hP : Hid (Sp w [] w [] [(b3,119, #[.func (.func fd) #[] #[]]),(b5,98, #[.map (some mb)])] [(98,0, .map (some mb),0,mapXs ekV evS (awayM (togM m q) q)),(3,1, .slice A7 (n6 + 1) cA7,n6 + 1,(xs ++ [q]).flatMap encI)] y10) := hide ((unhide hP).sub (List.Sublist.refl _) (List.sublist_append_left ([(98,0, .map (some mb),0,mapXs ekV evS (awayM (togM m q) q)),(3,1, .slice A7 (n6 + 1) cA7,n6 + 1,(xs ++ [q]).flatMap encI)] : List Rw) _))
   go_wp2_with fail
   refine ⟨f', ?_,by have := unhide hf'; omega⟩
   rw [unhide hI4_2]
   exact ⟨awayM (togM m q) q,L.erase q,eliB near q,A7,n6 + 1,cA7,xs ++ [q],(by first | rfl | trivial),(by first | rfl | trivial),(by first | rfl | trivial),(by first | rfl | trivial),(by first | rfl | trivial),unhide hR2,unhide hDs,by rw [List.length_append, ← unhide hn6']; rfl,by rw [List.length_erase_of_mem (unhide hyL)]; have := unhide hLf'; have := unhide hf'; omega,by have := unhide hnf'; have := unhide hf'; omega,unhide hP⟩
  ·have hil : ¬ (0 : Int) < (nL : Int) := by omega
   have hLn : L = [] := List.eq_nil_of_length_eq_zero (by have := unhide hnL; omega)
   have hDe := hide (show D = xs by rw [unhide hDp',hLn,ordS_nil,List.append_nil])
   clear hl0 hLn
   try dsimp only
   repeat ((fail_if_success (with_reducible refine wp_reg (id := 3) ?_)); (first | go_values | go_skip | go_step | go_guarded | go_upon | go_in | go_back | fail))
   with_reducible refine wp_reg (id := 3) ?_
   refine wpO_val rfl (load_V (v := .map (some mb)) rfl rfl (by simp [go_sem]) (((unhide hP).get 1 rfl).cell 0)) ?_
   go_frame
   refine wpO_val rfl (run_mlen_op Tryz.underlying98 ((unhide hP).map 0 (m := m) (ek := ekV) (ev := evS) (ok := i64ok) rfl ((unhide hR).ok)) rfl rfl) ?_
   rw [unhide hml]
   go_frame
   refine wpO_want rfl ?_
   go_simp
   refine wpO_done ?_
   try go_frame
   try dsimp only
   repeat ((fail_if_success (with_reducible refine wp_reg (id := 8) ?_)); (first | go_values | go_skip | go_step | go_guarded | go_upon | go_in | go_back | fail))
   with_reducible refine wp_reg (id := 8) ?_
   iterate 2
    refine wpO_want rfl ?_
    go_simp
   refine wpO_done ?_
   try go_frame
   go_wp2_with fail
   refine Sp.leaves0 ?_
   exact ⟨_,results_tmp (t := 4) rfl _ _ _,OwL.mk (by rw [unhide hDe]; exact unhide hn6') (by rw [unhide hDe]; exact (unhide hP).row 1 rfl) (unhide hP).extf⟩
set_option maxRecDepth 100000 in
set_option maxHeartbeats 16000000 in
theorem minDegree_any (og : Option Addr) (V : List (Int × Thing)) (E : List ((Int × Int) × Thing)) (w : World) (hg : GL w og V E) (hi : GInv V E) (hT : Tab w) :
  Calls Tryz.prog 26 #[.pointer og] w (OwL w (ordS degP (toL (vS V)).length (nr0 E) (toL (vS V)))) := by
 have hca := hide (order_any og V E degP 57 w hg hi hT by_degree)
 obtain ⟨D,hD⟩ : ∃ D,D = ordS degP (toL (vS V)).length (nr0 E) (toL (vS V)) := ⟨_,rfl⟩
 obtain ⟨n,hn⟩ : ∃ n,n = D.length := ⟨_,rfl⟩
 rw [← hD] at hca ⊢
 have hn' := hide hn
 clear hg hi hT hD hn
 have hP := hide (Sp.new w)
 refine callsIn_wide.1 (callsIn_of_wp_marks (n := 0) Tryz.func26 rfl trivial (wpIn_wide.2 ?_))
 simp only [Tryz.ntmps26,List.size_toArray,List.length_cons,List.length_nil,Nat.reduceAdd,Nat.reduceSub,Array.replicate_succ,Array.replicate_zero,List.push_toArray,List.append_toArray,List.nil_append,List.cons_append]
 try dsimp only
 repeat ((fail_if_success (with_reducible refine wp_reg (id := 1) ?_)); (first | go_values | go_skip | go_step | go_guarded | go_upon | go_in | go_back | fail))
 with_reducible refine wp_reg (id := 1) ?_
 refine wpO_want rfl ?_
 go_simp
 refine wpO_want rfl ?_
 go_simp
 refine (unhide hca).mono ?_
 clear hca
 rintro _ y1 ⟨A2,c2,rfl,ho,hxc⟩
 rw [← unhide hn'] at ho
 rw [← unhide hn']
 refine ⟨_,rfl, ?_⟩
 replace hP : Hid (Sp w [] w [] [] [(3,1, .slice A2 n c2,n,D.flatMap encI)] y1) := hide ((unhide hP).addRow hxc ho)
 clear hxc ho
 refine wpO_want rfl ?_
 go_simp
 refine wpO_done ?_
 try go_frame
 go_wp2_with fail
 refine Sp.leaves0 ?_
 exact ⟨_,results_tmp (t := 2) rfl _ _ _,OwL.mk (unhide hn') ((unhide hP).row 0 rfl) (unhide hP).extf⟩
set_option maxRecDepth 100000 in
set_option maxHeartbeats 16000000 in
theorem minFill_any (og : Option Addr) (V : List (Int × Thing)) (E : List ((Int × Int) × Thing)) (w : World) (hg : GL w og V E) (hi : GInv V E) (hT : Tab w) :
  Calls Tryz.prog 28 #[.pointer og] w (OwL w (ordS filP (toL (vS V)).length (nr0 E) (toL (vS V)))) := by
 have hca := hide (order_any og V E filP 72 w hg hi hT by_fill)
 obtain ⟨D,hD⟩ : ∃ D,D = ordS filP (toL (vS V)).length (nr0 E) (toL (vS V)) := ⟨_,rfl⟩
 obtain ⟨n,hn⟩ : ∃ n,n = D.length := ⟨_,rfl⟩
 rw [← hD] at hca ⊢
 have hn' := hide hn
 clear hg hi hT hD hn
 have hP := hide (Sp.new w)
 refine callsIn_wide.1 (callsIn_of_wp_marks (n := 0) Tryz.func28 rfl trivial (wpIn_wide.2 ?_))
 simp only [Tryz.ntmps28,List.size_toArray,List.length_cons,List.length_nil,Nat.reduceAdd,Nat.reduceSub,Array.replicate_succ,Array.replicate_zero,List.push_toArray,List.append_toArray,List.nil_append,List.cons_append]
 try dsimp only
 repeat ((fail_if_success (with_reducible refine wp_reg (id := 1) ?_)); (first | go_values | go_skip | go_step | go_guarded | go_upon | go_in | go_back | fail))
 with_reducible refine wp_reg (id := 1) ?_
 refine wpO_want rfl ?_
 go_simp
 refine wpO_want rfl ?_
 go_simp
 refine (unhide hca).mono ?_
 clear hca
 rintro _ y1 ⟨A2,c2,rfl,ho,hxc⟩
 rw [← unhide hn'] at ho
 rw [← unhide hn']
 refine ⟨_,rfl, ?_⟩
 replace hP : Hid (Sp w [] w [] [] [(3,1, .slice A2 n c2,n,D.flatMap encI)] y1) := hide ((unhide hP).addRow hxc ho)
 clear hxc ho
 refine wpO_want rfl ?_
 go_simp
 refine wpO_done ?_
 try go_frame
 go_wp2_with fail
 refine Sp.leaves0 ?_
 exact ⟨_,results_tmp (t := 2) rfl _ _ _,OwL.mk (unhide hn') ((unhide hP).row 0 rfl) (unhide hP).extf⟩
end Go.Proofs.YtoacpebmhbkmbaaGreatDoor
namespace Go.Proofs.YtoacpebmhbkmbaaGreatDoor
open Go Go.RowKit Go.Shelf
attribute [local go_sem] qUpon lUpon
set_option maxRecDepth 100000 in
set_option maxHeartbeats 4000000 in
theorem widthFn (k : Nat) (x : Int) (s : Nat) (Ac : Option Addr) (n cc bn : Nat) (m : Int) (w : World) (h : Blk w bn 3 #[.int .i64 m]) :
  Calls Tryz.prog 77 #[.int .i64 k, .agg (stepC x s), .slice Ac n cc, .pointer (some ⟨bn,0,none⟩)] w fun e w' => (∃ v,e = .returned v) ∧ Blk w' bn 3 #[.int .i64 (max m (cntF s 1024))] ∧ Keep [bn] w w' := by
 have h' := hide h
 have hlt := hide h.lt
 clear h
 go_enter Tryz.func77,Tryz.ntmps77
 try dsimp only
 repeat (first | (with_reducible refine wp_reg (id := 0) ?_) | go_values | go_step | go_guarded | go_upon | go_in | go_back | fail)
 refine wpO_want rfl ?_
 go_simp
 refine wpO_done ?_
 try go_frame
 have hB := hide (Blk.new w 128 (stepC x s))
 have hx1 := hide (ext_self1 w (.cells (stepC x s) 128))
 generalize w.alloc (.cells (stepC x s) 128) = w1 at *
 have c0 := ((unhide h').ext (unhide hx1)).cells 0 (v := .int .i64 m) rfl
 have hself := Ext.refl w1
 go_wp2_with fail
 refine wp_region_ext (P := Tryz.prog) [0,1,2,3,4] [5] 1 #[true,true,true,true,true,false] (by kernel_rfl) (by kernel_rfl) rfl (by rfl) ?_
 iterate 2
  refine ql_want (v := ?_) rfl (by rfl) (fun W hW => ?_) ?_
  rotate_left
  ·go_simp
   first | done | rfl
  go_frame
 refine ql_want (v := .agg (setC s)) rfl (by rfl) (fun W hW => by rw [load_SetR rfl rfl (((unhide hB).ext hW).sub (stepC_set x s))]; exact qUpon_value (Ext.refl _)) ?_
 go_frame
 iterate 2
  refine ql_want (v := ?_) rfl (by rfl) (fun W hW => ?_) ?_
  rotate_left
  ·go_simp
   first | done | rfl | ((go_at_call 48; refine (slen_any _ _).mono ?_; rintro _ _ ⟨h1,h2⟩; refine ⟨_,h1, ?_,h2⟩; rfl))
  go_frame
 refine wpQL_nil (fun w3 hx3 => ?_)
 have hB3 := (unhide h').ext ((unhide hx1).trans hx3)
 have c3 := hB3.cell 0
 have f3 := hB3.frozen 0
 simp at c3
 refine lx_one (i := 5) (by kernel_rfl) rfl (by rfl) #[true,true,true,true,true,true] (by rfl) ?_
 go_simp
 intro w6 hx6
 refine wpX_done (by kernel_rfl) ?_
 try go_frame
 have hB6 := hide ((hB3.set 0 (.int .i64 (max m (cntF s 1024)))).ext hx6)
 have hk6 := hide (((((unhide hx1).trans hx3).keep [bn]).trans (Keep.setCell w3 bn 0 (.int .i64 (max m (cntF s 1024))))).trans (hx6.keep _))
 clear hx6 hB3 c3 f3
 go_wp2_with fail
 go_end0
 exact ⟨⟨_,rfl⟩,unhide hB6,unhide hk6⟩
section
variable {V : List (Int × Thing)} {E : List ((Int × Int) × Thing)} {L : List Int}
def widK (E : List ((Int × Int) × Thing)) (L : List Int) (k : Nat) : Int := (List.range k).foldl (fun m i => max m (cntF (sAt E L i) 1024 : Int)) (-1)
theorem width_clo (bn : Nat) : Clo E L 77 #[.pointer (some ⟨bn,0,none⟩)] (fun k T W => Blk W bn 3 #[.int .i64 (widK E L k)] ∧ T = [bn]) where
 enters := enters_of Tryz.func77 (by kernel_rfl) rfl
 keep := fun k T W W' S ⟨h,e⟩ hk hS => by subst e; exact ⟨h.keep hk (fun hm => hS _ hm (by simp)),rfl⟩
 lt := fun k T W ⟨h,e⟩ => by subst e; intro x hx; rw [List.mem_singleton] at hx; subst hx; exact h.lt
 step := fun k hk T W Ac cc ⟨h,e⟩ _ _ _ => by
  subst e
  refine (widthFn k L[k] (sAt E L k) Ac _ cc bn (widK E L k) W h).mono ?_
  rintro e w' ⟨hr,h1,h2⟩
  refine ⟨hr,[bn],⟨?_,rfl⟩,h2,fun y hy => .inl hy⟩
  have : widK E L (k + 1) = max (widK E L k) (cntF (sAt E L k) 1024 : Int) := by unfold widK; rw [List.range_succ,List.foldl_append]; rfl
  rw [this]
  exact h1
end
set_option maxRecDepth 100000 in
set_option maxHeartbeats 4000000 in
theorem width_ok (A : Option Addr) (L : List Int) (cL : Nat) (g bv be : Nat) (V : List (Int × Thing)) (E : List ((Int × Int) × Thing)) (w : World) (hL : SlAt encI 1 w A L) (hl : L.length ≤ 1024) (hg : IsG w g bv be V E) (hT : Tab w) (hck : checkS L V = 0) :
  Calls Tryz.prog 31 #[.pointer (some ⟨g,0,none⟩), .slice A L.length cL] w fun e w' => e = .returned (.tuple #[.int .i64 (widK E L L.length), .int .i64 0]) ∧ Ext w w' := by
 have ho := check_ord hg.inv hck
 have hrng : ∀ x ∈ L,0 ≤ x ∧ x < 1024 := fun x hx => ho.rng hg.inv hx
 have hi' := hide hg.inv
 have ho' := hide ho
 have hL' := hide hL
 have hg' := hide hg
 have hT' := hide hT
 have hck' := hide hck
 have hr' := hide hrng
 have hltA : ∀ b off,A = some ⟨b,off,none⟩ → L ≠ [] → b < w.heap.size := fun b off e hne => by
  obtain ⟨b',off',e',h,_⟩ := hL hne
  rw [e] at e'
  injection e' with e'
  injection e' with e1
  omega
 have hlt' := hide hltA
 clear hL hg hT hck ho hrng hltA
 go_enter Tryz.func31,Tryz.ntmps31
 try dsimp only
 repeat (first | (with_reducible refine wp_reg (id := 1) ?_) | go_values | go_step | go_guarded | go_upon | go_in | go_back | fail)
 iterate 2
  refine wpO_want rfl ?_
  go_simp
 refine wpO_done ?_
 try go_frame
 have hB0 := hide (Blk.new w 3 #[.int .i64 (-1)])
 have hx1 := hide (ext_self1 w (.cells #[.int .i64 (-1)] 3))
 generalize w.alloc (.cells #[.int .i64 (-1)] 3) = w1 at *
 go_wp2_with fail
 refine (walk_any A L cL g bv be V E _ _ _ [w.heap.size] w1 ((unhide hL').ext (unhide hx1)) hl ((unhide hg').ext (unhide hx1)) ((unhide hT').ext (unhide hx1)) (unhide hck') (unhide hr') (width_clo w.heap.size) ⟨unhide hB0,rfl⟩ (by have := (unhide hT').lt; rw [List.mem_singleton]; omega) (fun hne b off e hm => by have := unhide hlt' b off e hne; rw [List.mem_singleton] at hm; omega)).mono ?_
 rintro e w2 ⟨rfl,T2,⟨hB2,rfl⟩,hk2,_⟩
 have c0 := hB2.cells 0 (v := .int .i64 (widK E L L.length)) rfl
 have hx2 := hide ((unhide hx1).of_new hk2 (by intro x hx; rw [List.mem_singleton] at hx; omega))
 have hself := Ext.refl w2
 clear hB2 hk2
 go_wp2_with fail
 go_ret2
 exact ⟨rfl,unhide hx2⟩
end Go.Proofs.YtoacpebmhbkmbaaGreatDoor
