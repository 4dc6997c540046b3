/- Parts of a proof, laid together. Each part says its own conditions. -/
import Derived.Test.YtmfkkkhddigkfaaGreatDoorR31
import Derived.Test.YtmfkkkhddigkfaaGreatDoorR26
import Derived.Test.YtmfkkkhddigkfaaGreatDoorR28
namespace Go.Proofs.YtmfkkkhddigkfaaGreatDoor
open Go Go.RowKit Go.Shelf
attribute [local go_sem] qUpon lUpon
attribute [local irreducible] wpO wpX wpQL
def OrPost (w : World) (o : Option (List Int)) (e : Ending) (w' : World) : Prop := ∃ A c,e = .returned (.tuple #[.slice A (o.getD []).length c, .bool o.isSome]) ∧ w'.ownsRow w.heap.size 3 1 (.slice A (o.getD []).length c) (o.getD []).length ((o.getD []).flatMap encI) ∧ Ext w w'
theorem OrPost.no {w w' : World} (h : Ext w w') : OrPost w none (.returned (.tuple #[.slice none 0 0, .bool false])) w' := ⟨_,_,rfl,World.ownsRow_nil _ _ _ _,h⟩
theorem OrPost.emp {w w' : World} (h : Ext w w') : OrPost w (some []) (.returned (.tuple #[.slice none 0 0, .bool true])) w' := ⟨_,_,rfl,World.ownsRow_nil _ _ _ _,h⟩
theorem OrPost.yes {w w' : World} {xs : List Int} {A : Option Addr} {n c : Nat} (hn : n = xs.length) (h : w'.ownsRow w.heap.size 3 1 (.slice A n c) n (xs.flatMap encI)) (hx : Ext w w') : OrPost w (some xs) (.returned (.tuple #[.slice A n c, .bool true])) w' := ⟨A,c,by rw [hn]; rfl,by rw [hn] at h; exact h,hx⟩
open Classical in
noncomputable def ordG (V : List (Int × Thing)) (E : List ((Int × Int) × Thing)) (f : Nat) (L : List Int) (x : Int) : Option (List Int) := if clqB V E (nbrR E x (outR L x)) = true then (ordR V E f (outR L x)).map (x :: ·) else none
theorem ordR_step (V : List (Int × Thing)) (E : List ((Int × Int) × Thing)) (f : Nat) {L : List Int} (h : L ≠ []) : ordR V E (f + 1) L = L.findSome? (ordG V E f L) := by
 rw [ordR,if_neg h]
 congr 1
 funext x
 unfold ordG
 by_cases hc : ClqR V E (nbrR E x (outR L x))
 ·rw [if_pos hc,if_pos (clqB_true.2 hc)]
 ·rw [if_neg hc,if_neg (fun h => hc (clqB_true.1 h))]
theorem drop_find {α β : Type} {L : List α} {k : Nat} (hk : k < L.length) (g : α → Option β) : (L.drop k).findSome? g = match g L[k] with | some b => some b | none => (L.drop (k + 1)).findSome? g := by
 rw [List.drop_eq_getElem_cons hk,List.findSome?_cons]
 cases g L[k] <;> rfl
theorem out_len {L : List Int} {x : Int} (h : x ∈ L) : (outR L x).length < L.length := out_lt h
theorem ordR_len (V : List (Int × Thing)) (E : List ((Int × Int) × Thing)) : ∀ (f : Nat) (L o : List Int),ordR V E f L = some o → o.length ≤ L.length
 | 0,L,o,h => by cases h
 | f + 1,L,o,h => by
  by_cases hL : L = []
  ·rw [ordR,if_pos hL] at h
   cases h
   simp
  ·rw [ordR_step V E f hL] at h
   obtain ⟨x,hx,hg⟩ := List.exists_of_findSome?_eq_some h
   unfold ordG at hg
   split at hg
   ·obtain ⟨l,hl,rfl⟩ := Option.map_eq_some_iff.1 hg
    have h1 := ordR_len V E f _ l hl
    have h2 := out_len hx
    rw [List.length_cons]
    omega
   ·cases hg
set_option maxRecDepth 100000 in
set_option maxHeartbeats 16000000 in
theorem orderR_any (A B : Option Addr) (V : List (Int × Thing)) (E : List ((Int × Int) × Thing)) (cA cB : Nat) (hl4 : V.length ≤ 4096 ∧ E.length ≤ 4096) : ∀ (f : Nat) (C : Option Addr) (L : List Int) (cL : Nat) (w : World),SlAt encV 3 w A V → SlAt encE 4 w B E → SlAt encI 1 w C L → L.length ≤ 4096 → L.length < f →
  Calls Tryz.prog 49 #[.agg #[.slice A V.length cA, .slice B E.length cB], .slice C L.length cL] w (OrPost w (ordR V E f L)) := by
 intro f
 induction f with
 | zero => intro C L cL w _ _ _ _ h; omega
 | succ f ih =>
  intro C L cL w hV hE hL hl hf
  have hV' := hide hV
  have hE' := hide hE
  have hL' := hide hL
  have hih := hide ih
  have hl' := hide hl
  obtain ⟨n,hn⟩ : ∃ n,n = L.length := ⟨_,rfl⟩
  have hne := hide (fun h => ordR_step V E f (L := L) h)
  have hnil : L = [] → ordR V E (f + 1) L = some [] := fun h => by rw [ordR,if_pos h]
  have hnil' := hide hnil
  generalize ordR V E (f + 1) L = res at *
  rw [← hn] at hf ⊢
  have hn' := hide hn
  have hf' := hide hf
  clear hV hE hL ih hl hn hnil hf
  have hP := hide (Sp.new w)
  refine callsIn_wide.1 (callsIn_of_wp_marks (n := 0) Tryz.func49 rfl trivial (wpIn_wide.2 ?_))
  simp only [Tryz.ntmps49,List.size_toArray,List.length_cons,List.length_nil,Nat.reduceAdd,Nat.reduceSub,Array.replicate_succ,Array.replicate_zero,List.push_toArray,List.append_toArray,List.nil_append,List.cons_append]
  try dsimp only
  repeat ((fail_if_success (with_reducible refine wp_reg (id := 0) ?_)); (first | go_values | go_skip | go_step | go_guarded | go_upon | go_in | go_back | fail))
  with_reducible refine wp_reg (id := 0) ?_
  refine (unhide hP).allocO 28 #[.slice A V.length cA, .slice B E.length cB] rfl (run_box (v := .agg #[.slice A V.length cA, .slice B E.length cB]) rfl rfl) ?_
  intro gw y1 hQ
  replace hP : Hid (Sp w [] w [] [(gw,28, #[.slice A V.length cA, .slice B E.length cB])] [] y1) := hide hQ
  clear hQ
  iterate 2
   refine wpO_want rfl ?_
   go_simp
  refine wpO_done ?_
  try go_frame
  by_cases h0 : n = 0
  ·-- nothing left
   subst h0
   have hres : res = some [] := unhide hnil' (List.length_eq_zero_iff.1 (unhide hn').symm)
   have hres' := hide hres
   clear hres hnil' hne
   go_wp2_with fail
   refine (unhide hP).leaves ?_
   intro w' hx hst
   refine ⟨_,results_tmp2 (t := 4) (u := 5) rfl _ _ _, ?_⟩
   rw [unhide hres']
   exact OrPost.emp hx
  ·skip
   have hres : res = (L.drop 0).findSome? (ordG V E f L) := by rw [List.drop_zero]; exact unhide hne (fun e => h0 (by rw [unhide hn',e]; rfl))
   have hres' := hide hres
   clear hres hnil' hne
   obtain ⟨b,off,rfl,hcc⟩ := atI (unhide hL') (i := 0) (by have := unhide hn'; omega)
   clear hcc
   have hn0 : ¬ (n : Int) = 0 := by omega
   have hout := hide (fun (x : Int) (W : World) (hW : Ext w W) => by
    have h := outR_any (some ⟨b,off,none⟩) L cL x W ((unhide hL').ext hW) (unhide hl')
    rw [← unhide hn'] at h
    exact h)
   go_wp2_with fail
   refine wp_loop_ix (fun fi a' wr => ∃ (k : Nat),a'.tmps.size = 49 ∧ a'.tmps.getD 1 undef = .slice (some ⟨b,off,none⟩) n cL ∧ a'.tmps.getD 2 undef = .pointer (some ⟨gw,0,none⟩) ∧ a'.tmps.getD 6 undef = .int .i64 (k : Nat) ∧ a'.defers = [] ∧ k ≤ n ∧ res = (L.drop k).findSome? (ordG V E f L) ∧ Sp w [] w [] [(gw,28, #[.slice A V.length cA, .slice B E.length cB])] [] wr ∧ fi = n - k) (n - 0) ?_ ?_
   ·exact ⟨0,rfl,rfl,rfl,rfl,rfl,Nat.zero_le _,unhide hres',unhide hP,rfl⟩
   ·rintro fi ⟨tm,dfs⟩ wr ⟨k,hsz,e1,e2,e6,hdf,hk,hrk,hPr,hfm⟩
    obtain ⟨us,rfl⟩ : ∃ us : Nat → Value,tm = #[us 0,us 1,us 2,us 3,us 4,us 5,us 6,us 7,us 8,us 9,us 10,us 11,us 12,us 13,us 14,us 15,us 16,us 17,us 18,us 19,us 20,us 21,us 22,us 23,us 24,us 25,us 26,us 27,us 28,us 29,us 30,us 31,us 32,us 33,us 34,us 35,us 36,us 37,us 38,us 39,us 40,us 41,us 42,us 43,us 44,us 45,us 46,us 47,us 48] := ⟨fun i => tm.getD i undef,arr_fn hsz⟩
    have h1 : us 1 = .slice (some ⟨b,off,none⟩) n cL := e1
    have h2 : us 2 = .pointer (some ⟨gw,0,none⟩) := e2
    have h6 : us 6 = .int .i64 (k : Nat) := e6
    have hdf2 : dfs = [] := hdf
    subst hdf2
    clear hdf hsz e1 e2 e6
    simp only [h1,h2,h6]
    clear h1 h2 h6
    clear hP hres'
    have hP := hide hPr
    have hrk' := hide hrk
    have hfm' := hide hfm
    clear hPr hrk hfm
    by_cases hlt : k < n
    ·have hkL : k < L.length := by have := unhide hn'; omega
     obtain ⟨x,hx0⟩ : ∃ x,x = L[k] := ⟨_,rfl⟩
     have hxm := hide (show x ∈ L by rw [hx0]; exact List.getElem_mem hkL)
     have hstep := hide (drop_find hkL (ordG V E f L))
     rw [← unhide hrk', ← hx0] at hstep
     have hx0' := hide hx0
     have hkn := hide (show k < n from hlt)
     clear hx0 hrk'
     have c0 := slE ((unhide hL').ext (unhide hP).extf) hkL
     rw [← unhide hx0'] at c0
     have hself := Ext.refl wr
     go_wp2_with fail
     refine (unhide hout x wr (unhide hP).extf).mono ?_
     rintro _ y2 ⟨A1,c1,rfl,ho1,hxc⟩
     obtain ⟨M,hM⟩ : ∃ M,M = outR L x := ⟨_,rfl⟩
     have hMl := hide (show M.length < n by rw [hM,unhide hn']; exact out_len (unhide hxm))
     have hG := hide (show ordG V E f L x = if clqB V E (nbrR E x M) = true then (ordR V E f M).map (x :: ·) else none by rw [hM]; rfl)
     rw [← hM] at ho1 ⊢
     obtain ⟨m,hm⟩ : ∃ m,m = M.length := ⟨_,rfl⟩
     have hM4 := hide (show M.length ≤ 4096 by have := unhide hMl; have := unhide hl'; have := unhide hn'; omega)
     have hMf := hide (show M.length < f by have := unhide hMl; have := unhide hf'; omega)
     rw [← hm] at ho1 ⊢
     have hnl := hide (show (nbrR E x M).length ≤ 4096 by have h1 := List.length_filter_le (fun y => decide (y ≠ x) && hasE x y E) M; have := unhide hM4; unfold nbrR; omega)
     replace hP : Hid (Sp w [] w [] [(gw,28, #[.slice A V.length cA, .slice B E.length cB])] [(3,1, .slice A1 m c1,m,M.flatMap encI)] y2) := hide ((unhide hP).addRow hxc ho1)
     have hm' := hide hm
     clear hxc hM hm ho1 c0 hself hMl
     go_wp2_with fail
     have c0 := slK (S := []) ((unhide hL').ext (unhide hP).extf) (by simp) hkL
     rw [← unhide hx0'] at c0
     have q0 := (unhide hP).cellK (S := []) 0 0 (v := .slice A V.length cA) rfl rfl (by simp)
     have q1 := (unhide hP).cellK (S := []) 0 1 (v := .slice B E.length cB) rfl rfl (by simp)
     have hself := Keep.refl [] y2
     refine wp_regionK (P := Tryz.prog) [] [0,1,2,3,4,5,6] [] 3 #[true,true,true,true,true,true,true,false,false,false] (by kernel_rfl) (by kernel_rfl) rfl (by rfl) ?_
     iterate 7
      refine ql_want (v := ?_) rfl (by rfl) (fun W hW => ?_) ?_
      rotate_left
      ·go_simp
       first | done | rfl
      go_frame
     refine wpQL_nil (fun y3 hxq => ?_)
     have hK := hide (hxq.keep [])
     replace hP : Hid (Sp w [] w [] [(gw,28, #[.slice A V.length cA, .slice B E.length cB])] [(3,1, .slice A1 m c1,m,M.flatMap encI)] y3) := hide ((unhide hP).ext hxq)
     clear hxq
     clear c0 hself q0 q1
     have hcall := nearR_any A B V E cA cB A1 M c1 x y3 ((unhide hE').ext (unhide hP).extf) hl4.2 (own_at (by have h := (unhide hP).row 0 rfl; rw [unhide hm'] at h; exact h) (fun _ => rfl)) (unhide hM4)
     rw [← unhide hm'] at hcall
     refine lx_one (i := 7) (by kernel_rfl) rfl (by rfl) #[true,true,true,true,true,true,true,true,false,false] (by rfl) ?_
     go_simp
     refine (hcall).mono ?_
     rintro _ zy4 ⟨A2,c2,rfl,ho2,hxc⟩
     clear hcall
     obtain ⟨N,hN⟩ : ∃ N,N = nbrR E x M := ⟨_,rfl⟩
     rw [← hN] at ho2 hG hnl ⊢
     obtain ⟨m2,hm2⟩ : ∃ m2,m2 = N.length := ⟨_,rfl⟩
     rw [← hm2] at ho2 ⊢
     have hm2' := hide hm2
     clear hN hm2
     refine ⟨_,rfl,(unhide hK).trans (hxc.keep _),fun y4 hxd => ?_⟩
     replace hP : Hid (Sp w [] w [] [(gw,28, #[.slice A V.length cA, .slice B E.length cB])] [(3,1, .slice A1 m c1,m,M.flatMap encI),(3,1, .slice A2 m2 c2,m2,N.flatMap encI)] y4) := hide (((unhide hP).addRow hxc ho2).ext hxd)
     replace hK := hide ((unhide hK).trans ((hxc.trans hxd).keep _))
     clear hxc hxd
     try go_frame
     have hcall := clqR_walk A B V E cA cB A2 N c2 y4 ((unhide hV').ext (unhide hP).extf) hl4.1 ((unhide hE').ext (unhide hP).extf) hl4.2 (own_at (by have h := (unhide hP).row 1 rfl; rw [unhide hm2'] at h; exact h) (fun _ => rfl)) (unhide hnl)
     rw [← unhide hm2'] at hcall
     obtain ⟨q,hq⟩ : ∃ q,q = clqB V E N := ⟨_,rfl⟩
     rw [← hq] at hcall hG
     clear hq
     refine lx_one (i := 8) (by kernel_rfl) rfl (by rfl) #[true,true,true,true,true,true,true,true,true,false] (by rfl) ?_
     go_simp
     refine (hcall).mono ?_
     rintro _ zy5 ⟨rfl,hxc⟩
     clear hcall
     refine ⟨_,rfl,(unhide hK).trans (hxc.keep _),fun y5 hxd => ?_⟩
     replace hP : Hid (Sp w [] w [] [(gw,28, #[.slice A V.length cA, .slice B E.length cB])] [(3,1, .slice A1 m c1,m,M.flatMap encI),(3,1, .slice A2 m2 c2,m2,N.flatMap encI)] y5) := hide ((unhide hP).ext (hxc.trans hxd))
     replace hK := hide ((unhide hK).trans ((hxc.trans hxd).keep _))
     clear hxc hxd
     try go_frame
     refine lx_one (i := 9) (by kernel_rfl) rfl (by rfl) #[true,true,true,true,true,true,true,true,true,true] (by rfl) ?_
     refine (unhide hP).valL (unhide hK) (v := .bool (!q)) ?_ ?_
     ·go_simp
     intro y6 hQ hK2
     replace hP : Hid (Sp w [] w [] [(gw,28, #[.slice A V.length cA, .slice B E.length cB])] [(3,1, .slice A1 m c1,m,M.flatMap encI),(3,1, .slice A2 m2 c2,m2,N.flatMap encI)] y6) := hide hQ
     replace hK := hide hK2
     clear hQ hK2
     try go_frame
     refine wpX_done (by kernel_rfl) ?_
     try go_frame
     clear hK
     cases q
     ·-- not simplicial
      have hG2 : ordG V E f L x = none := by first | (rw [unhide hG,if_neg (by simp)]) | (rw [unhide hG]; rfl) | (rw [unhide hG])
      have hG' := hide hG2
      clear hG hG2
      replace hP : Hid (Sp w [] w [] [(gw,28, #[.slice A V.length cA, .slice B E.length cB])] [] y6) := hide ((unhide hP).sub (List.Sublist.refl _) (List.nil_sublist _))
      have hrn := hide (show res = (L.drop (k + 1)).findSome? (ordG V E f L) by first | (rw [unhide hstep,unhide hG']; done) | (rw [unhide hstep,unhide hG']; rfl))
      clear hstep hG'
      have hkl : (k : Int) ≤ 4096 := by have := unhide hkn; have := unhide hn'; have := unhide hl'; omega
      go_wp2_with fail
      have h1 := unhide hkn
      have h2 := unhide hfm'
      exact ⟨n - (k + 1),⟨k + 1,(by first | rfl | trivial),(by first | rfl | trivial),(by first | rfl | trivial),by first | rfl | (show _ = Value.int _ _; go_num) | go_num,(by first | rfl | trivial),by omega,unhide hrn,unhide hP,rfl⟩,by omega⟩
     ·-- simplicial
      have q0 := (unhide hP).cell 0 0 (v := .slice A V.length cA) rfl rfl
      have q1 := (unhide hP).cell 0 1 (v := .slice B E.length cB) rfl rfl
      have hself := Ext.refl y6
      go_wp2_with fail
      clear q0 q1 hself
      have hcall := unhide hih A1 M c1 y6 ((unhide hV').ext (unhide hP).extf) ((unhide hE').ext (unhide hP).extf) (own_at (by have h := (unhide hP).row 0 rfl; rw [unhide hm'] at h; exact h) (fun _ => rfl)) (unhide hM4) (unhide hMf)
      rw [← unhide hm'] at hcall
      obtain ⟨oo,hoo⟩ : ∃ oo,oo = ordR V E f M := ⟨_,rfl⟩
      rw [← hoo] at hcall
      have hoo' := hide hoo
      have hG2 : ordG V E f L x = oo.map (x :: ·) := by rw [unhide hG, ← hoo]; first | rw [if_pos rfl] | rw [if_pos trivial]
      have hG' := hide hG2
      clear hG hG2 hoo
      refine hcall.mono ?_
      clear hcall
      rintro _ y7 ⟨A3,c3,rfl,ho3,hxc⟩
      cases oo with
      | none =>
       replace hP : Hid (Sp w [] w [] [(gw,28, #[.slice A V.length cA, .slice B E.length cB])] [(3,1, .slice A1 m c1,m,M.flatMap encI),(3,1, .slice A2 m2 c2,m2,N.flatMap encI)] y7) := hide ((unhide hP).ext hxc)
       clear hxc ho3
       simp only [Option.getD_none,Option.isSome_none,List.length_nil]
       replace hP : Hid (Sp w [] w [] [(gw,28, #[.slice A V.length cA, .slice B E.length cB])] [] y7) := hide ((unhide hP).sub (List.Sublist.refl _) (List.nil_sublist _))
       have hrn := hide (show res = (L.drop (k + 1)).findSome? (ordG V E f L) by first | (rw [unhide hstep,unhide hG']; done) | (rw [unhide hstep,unhide hG']; rfl))
       clear hstep hG'
       have hkl : (k : Int) ≤ 4096 := by have := unhide hkn; have := unhide hn'; have := unhide hl'; omega
       go_wp2_with fail
       have h1 := unhide hkn
       have h2 := unhide hfm'
       exact ⟨n - (k + 1),⟨k + 1,(by first | rfl | trivial),(by first | rfl | trivial),(by first | rfl | trivial),by first | rfl | (show _ = Value.int _ _; go_num) | go_num,(by first | rfl | trivial),by omega,unhide hrn,unhide hP,rfl⟩,by omega⟩
      | some l =>
       simp only [Option.getD_some,Option.isSome_some] at ho3 ⊢
       obtain ⟨nl,hnl2⟩ : ∃ nl,nl = l.length := ⟨_,rfl⟩
       rw [← hnl2] at ho3 ⊢
       replace hP : Hid (Sp w [] w [] [(gw,28, #[.slice A V.length cA, .slice B E.length cB])] [(3,1, .slice A1 m c1,m,M.flatMap encI),(3,1, .slice A2 m2 c2,m2,N.flatMap encI),(3,1, .slice A3 nl c3,nl,l.flatMap encI)] y7) := hide ((unhide hP).addRow hxc ho3)
       have hnl2' := hide hnl2
       have hres : res = some (x :: l) := by rw [unhide hstep,unhide hG']; rfl
       have hres' := hide hres
       have hll := hide (show nl ≤ 4096 by rw [hnl2]; exact Nat.le_trans (ordR_len V E f M l (unhide hoo').symm) (unhide hM4))
       clear hstep hG' hnl2 hres hxc ho3
       have c0 := slE ((unhide hL').ext (unhide hP).extf) hkL
       rw [← unhide hx0'] at c0
       have hself := Ext.refl y7
       try dsimp only
       repeat ((fail_if_success (with_reducible refine wp_reg (id := 10) ?_)); (first | go_values | go_skip | go_step | go_guarded | go_upon | go_in | go_back | fail))
       with_reducible refine wp_reg (id := 10) ?_
       iterate 4
        refine wpO_want rfl ?_
        go_simp
       clear c0 hself
       refine (unhide hP).build1O 3 #[.int .i64 x] rfl (run_build1 rfl rfl) ?_
       intro bt y8 hQ
       replace hP : Hid (Sp w [] w [] [(gw,28, #[.slice A V.length cA, .slice B E.length cB]),(bt,3, #[.int .i64 x])] [(3,1, .slice A1 m c1,m,M.flatMap encI),(3,1, .slice A2 m2 c2,m2,N.flatMap encI),(3,1, .slice A3 nl c3,nl,l.flatMap encI)] y8) := hide hQ
       clear hQ
       go_frame
       replace hP : Hid (Sp w [] w [] [(gw,28, #[.slice A V.length cA, .slice B E.length cB])] [(3,1, .slice A1 m c1,m,M.flatMap encI),(3,1, .slice A2 m2 c2,m2,N.flatMap encI),(3,1, .slice A3 nl c3,nl,l.flatMap encI),(3,1, .slice (some ⟨bt,0,none⟩) 1 1,1,[.int .i64 x])] y8) := hide (Sp.toRow (L := [(gw,28, #[.slice A V.length cA, .slice B E.length cB])]) (b := bt) (t := 3) (n := 1) (cs := #[.int .i64 x]) (unhide hP) rfl (by decide))
       refine wpO_val rfl (run_move rfl rfl) ?_
       go_frame
       refine (unhide hP).apAO (enc := encI) (T := 3) (ST := 31) 3 (v := .slice (some ⟨bt,0,none⟩) 1 1) (m := 1) (xs := [x]) rfl rfl infoI Tryz.underlying31 one_encI (fun _ => rfl) (by decide) (by decide) rfl l rfl rfl ((unhide hnl2').symm) (own_at (by have h := (unhide hP).row 2 rfl; rw [unhide hnl2'] at h; exact h) (fun _ => rfl)) (by have := unhide hll; omega) ?_
       intro A7 cA7 y9 hQ
       replace hP : Hid (Sp w [] w [] [(gw,28, #[.slice A V.length cA, .slice B E.length cB])] [(3,1, .slice A1 m c1,m,M.flatMap encI),(3,1, .slice A2 m2 c2,m2,N.flatMap encI),(3,1, .slice A3 nl c3,nl,l.flatMap encI),(3,1, .slice A7 (1 + nl) cA7,1 + nl,([x] ++ l).flatMap encI)] y9) := hide hQ
       clear hQ
       try go_frame
       iterate 2
        refine wpO_want rfl ?_
        go_simp
       refine wpO_done ?_
       try go_frame
       go_wp2_with fail
       refine (unhide hP).leaves ?_
       intro w' hx hst
       refine ⟨_,results_tmp2 (t := 4) (u := 5) rfl _ _ _, ?_⟩
       rw [unhide hres']
       exact OrPost.yes (xs := [x] ++ l) (by rw [List.length_append, ← unhide hnl2']; rfl) (hst.row 3 rfl) hx
    ·have hke : k = n := by omega
     have hres : res = none := by rw [unhide hrk',List.drop_eq_nil_of_le (by have := unhide hn'; omega)]; rfl
     have hres' := hide hres
     clear hres hrk'
     subst hke
     go_wp2_with fail
     refine (unhide hP).leaves ?_
     intro w' hx hst
     refine ⟨_,results_tmp2 (t := 4) (u := 5) rfl _ _ _, ?_⟩
     rw [unhide hres']
     exact OrPost.no hx
set_option maxRecDepth 100000 in
set_option maxHeartbeats 4000000 in
theorem OrderR_any (A B : Option Addr) (V : List (Int × Thing)) (E : List ((Int × Int) × Thing)) (cA cB : Nat) (w : World) (hV : SlAt encV 3 w A V) (hnV : V.length ≤ 4096) (hE : SlAt encE 4 w B E) (hnE : E.length ≤ 4096) :
  Calls Tryz.prog 15 #[.agg #[.slice A V.length cA, .slice B E.length cB]] w (OrPost w (ordR V E 4097 (V.map (·.1)))) := by
 have hV' := hide hV
 have hE' := hide hE
 have hnV' := hide hnV
 have hnE' := hide hnE
 clear hV hE hnV hnE
 have hP := hide (Sp.new w)
 refine callsIn_wide.1 (callsIn_of_wp_marks (n := 0) Tryz.func15 rfl trivial (wpIn_wide.2 ?_))
 simp only [Tryz.ntmps15,List.size_toArray,List.length_cons,List.length_nil,Nat.reduceAdd,Nat.reduceSub,Array.replicate_succ,Array.replicate_zero,List.push_toArray,List.append_toArray,List.nil_append,List.cons_append]
 try dsimp only
 repeat ((fail_if_success (with_reducible refine wp_reg (id := 0) ?_)); (first | go_values | go_skip | go_step | go_guarded | go_upon | go_in | go_back | fail))
 with_reducible refine wp_reg (id := 0) ?_
 refine (unhide hP).allocO 28 #[.slice A V.length cA, .slice B E.length cB] rfl (run_box (v := .agg #[.slice A V.length cA, .slice B E.length cB]) rfl rfl) ?_
 intro gw y1 hQ
 replace hP : Hid (Sp w [] w [] [(gw,28, #[.slice A V.length cA, .slice B E.length cB])] [] y1) := hide hQ
 clear hQ
 iterate 2
  refine wpO_want rfl ?_
  go_simp
 refine wpO_done ?_
 try go_frame
 go_wp2_with fail
 have q0 := (unhide hP).cellK (S := []) 0 0 (v := .slice A V.length cA) rfl rfl (by simp)
 have q1 := (unhide hP).cellK (S := []) 0 1 (v := .slice B E.length cB) rfl rfl (by simp)
 have hself := Keep.refl [] y1
 refine wp_regionK (P := Tryz.prog) [] [0,1] [] 6 #[true,true,false,false,false,false,false,false] (by kernel_rfl) (by kernel_rfl) rfl (by rfl) ?_
 iterate 2
  refine ql_want (v := ?_) rfl (by rfl) (fun W hW => ?_) ?_
  rotate_left
  ·go_simp
   first | done | rfl
  go_frame
 refine wpQL_nil (fun y2 hxq => ?_)
 have hK := hide (hxq.keep [])
 replace hP : Hid (Sp w [] w [] [(gw,28, #[.slice A V.length cA, .slice B E.length cB])] [] y2) := hide ((unhide hP).ext hxq)
 clear hxq
 clear q0 q1 hself
 obtain ⟨I0,hI0⟩ : ∃ I0,I0 = V.map (·.1) := ⟨_,rfl⟩
 have hcall := ids_any A B V E cA cB y2 ((unhide hV').ext (unhide hP).extf) (unhide hnV')
 have hIl := hide (show I0.length ≤ 4096 by rw [hI0,List.length_map]; exact unhide hnV')
 rw [← hI0] at hcall
 refine lx_one (i := 2) (by kernel_rfl) rfl (by rfl) #[true,true,true,false,false,false,false,false] (by rfl) ?_
 go_simp
 refine (hcall).mono ?_
 rintro _ zy3 ⟨A2,c2,rfl,ho2,hxc⟩
 clear hcall
 obtain ⟨m,hm⟩ : ∃ m,m = I0.length := ⟨_,rfl⟩
 rw [← hm] at ho2 ⊢
 have hm' := hide hm
 have hI0' := hide hI0
 clear hI0 hm
 refine ⟨_,rfl,(unhide hK).trans (hxc.keep _),fun y3 hxd => ?_⟩
 replace hP : Hid (Sp w [] w [] [(gw,28, #[.slice A V.length cA, .slice B E.length cB])] [(3,1, .slice A2 m c2,m,I0.flatMap encI)] y3) := hide (((unhide hP).addRow hxc ho2).ext hxd)
 replace hK := hide ((unhide hK).trans ((hxc.trans hxd).keep _))
 clear hxc hxd
 try go_frame
 have hcall := orderR_any A B V E cA cB ⟨unhide hnV',unhide hnE'⟩ 4097 A2 I0 c2 y3 ((unhide hV').ext (unhide hP).extf) ((unhide hE').ext (unhide hP).extf) (own_at (by have h := (unhide hP).row 0 rfl; rw [unhide hm'] at h; exact h) (fun _ => rfl)) (unhide hIl) (by have := unhide hIl; omega)
 rw [← unhide hm'] at hcall
 obtain ⟨oo,hoo⟩ : ∃ oo,oo = ordR V E 4097 I0 := ⟨_,rfl⟩
 rw [← hoo] at hcall
 have hoo' := hide hoo
 clear hoo
 refine lx_one (i := 3) (by kernel_rfl) rfl (by rfl) #[true,true,true,true,false,false,false,false] (by rfl) ?_
 go_simp
 refine (hcall).mono ?_
 rintro _ zy4 ⟨A3,c3,rfl,ho3,hxc⟩
 clear hcall
 obtain ⟨lo,hlo⟩ : ∃ lo,lo = oo.getD [] := ⟨_,rfl⟩
 obtain ⟨qb,hqb⟩ : ∃ qb,qb = oo.isSome := ⟨_,rfl⟩
 rw [← hlo] at ho3
 rw [← hlo, ← hqb]
 obtain ⟨nl,hnl⟩ : ∃ nl,nl = lo.length := ⟨_,rfl⟩
 rw [← hnl] at ho3 ⊢
 have hnl' := hide hnl
 have hlo' := hide hlo
 have hqb' := hide hqb
 clear hnl hlo hqb
 generalize htu0 : Value.tuple _ = tu
 have htu := hide htu0
 clear htu0
 refine ⟨_,rfl,(unhide hK).trans (hxc.keep _),fun y4 hxd => ?_⟩
 replace hP : Hid (Sp w [] w [] [(gw,28, #[.slice A V.length cA, .slice B E.length cB])] [(3,1, .slice A2 m c2,m,I0.flatMap encI),(3,1, .slice A3 nl c3,nl,lo.flatMap encI)] y4) := hide (((unhide hP).addRow hxc ho3).ext hxd)
 replace hK := hide ((unhide hK).trans ((hxc.trans hxd).keep _))
 clear hxc hxd
 try go_frame
 refine lx_rekeep (unhide hK) [4,5,6,7] [] 0 4 #[true,true,true,true,false,false,false,false] #[true,true,true,true,true,true,true,true] (by kernel_rfl) rfl (by rfl) ?_
 clear hK
 refine ql_want (v := .slice A3 nl c3) rfl (by rfl) (fun W hW => ?_) ?_
 ·rw [run_extract (i := 0) (v := .slice A3 nl c3) rfl (unhide htu).symm rfl]; exact ⟨rfl,Ext.refl W⟩
 go_frame
 refine ql_want (v := .bool qb) rfl (by rfl) (fun W hW => ?_) ?_
 ·rw [run_extract (i := 1) (v := .bool qb) rfl (unhide htu).symm rfl]; exact ⟨rfl,Ext.refl W⟩
 go_frame
 iterate 2
  refine ql_want (v := ?_) rfl (by rfl) (fun W hW => ?_) ?_
  rotate_left
  ·go_simp
   first | done | rfl
  go_frame
 refine wpQL_nil (fun y5 hxq => ?_)
 replace hP : Hid (Sp w [] w [] [(gw,28, #[.slice A V.length cA, .slice B E.length cB])] [(3,1, .slice A2 m c2,m,I0.flatMap encI),(3,1, .slice A3 nl c3,nl,lo.flatMap encI)] y5) := hide ((unhide hP).ext hxq)
 clear hxq
 refine wpX_done (by kernel_rfl) ?_
 try go_frame
 go_wp2_with fail
 refine (unhide hP).leaves ?_
 intro w' hx hst
 refine ⟨_,results_tmp2 (t := 2) (u := 3) rfl _ _ _, ?_⟩
 rw [unhide hnl',unhide hqb',unhide hlo', ← unhide hI0', ← unhide hoo']
 exact ⟨_,_,rfl,by have h := hst.row 1 rfl; rw [unhide hnl',unhide hlo'] at h; exact h,hx⟩
end Go.Proofs.YtmfkkkhddigkfaaGreatDoor
