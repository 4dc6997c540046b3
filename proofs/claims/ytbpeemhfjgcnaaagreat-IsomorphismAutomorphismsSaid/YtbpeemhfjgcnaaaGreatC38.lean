/- Parts of a proof, laid together. Each part says its own conditions. -/
import Derived.Test.YtbpeemhfjgcnaaaGreatC25
import Derived.Test.YtbpeemhfjgcnaaaGreatC37
import Derived.Test.YtbpeemhfjgcnaaaGreatC31
namespace Go.Proofs.YtbpeemhfjgcnaaaGreat
open Go Go.RowKit Go.Shelf
attribute [local go_sem] qUpon lUpon
attribute [local irreducible] wpO wpX wpQL
def autL (bo : Nat) (A : Option Addr) (n c : Nat) : List Cl := [(bo,42, #[.slice A n c])]
def AutJ (bo : Nat) (told : List (List Int)) (T : List Nat) (W : World) : Prop := ∃ (A : Option Addr) (n c : Nat) (Jn : List (Sl × List Int)),n = Jn.length ∧ Jn.map (·.2) = told ∧ (∀ p ∈ Jn,p.1.2.1 = p.2.length) ∧ St 0 (autL bo A n c) (ssR A n c Jn) W ∧ T = stT (autL bo A n c) (ssR A n c Jn)
theorem AutJ.keep {bo : Nat} : ∀ k T W W' S,AutJ bo k T W → Keep S W W' → (∀ x ∈ S,x ∉ T) → AutJ bo k T W' := by
 rintro k T W W' S ⟨A,n,c,Jn,h1,h2,h3,h4,rfl⟩ hk hS
 exact ⟨A,n,c,Jn,h1,h2,h3,h4.keep hk hS,rfl⟩
theorem AutJ.lt {bo : Nat} : ∀ k T W,AutJ bo k T W → ∀ x ∈ T,x < W.heap.size := by
 rintro k T W ⟨A,n,c,Jn,h1,h2,h3,h4,rfl⟩
 exact h4.lt
def AutPost (bo : Nat) (told : List (List Int)) (T : List Nat) (w : World) (e : Ending) (w' : World) : Prop := e = .returned (.bool true) ∧ ∃ T',AutJ bo told T' w' ∧ Keep T w w' ∧ ∀ x ∈ T',x ∈ T ∨ w.heap.size ≤ x
theorem AutPost.mk {bo : Nat} {told : List (List Int)} {T : List Nat} {w wf W : World} {A : Option Addr} {n c : Nat} {Jn : List (Sl × List Int)} (hP : Sp wf T w [] (autL bo A n c) (ssR A n c Jn) W) (h1 : n = Jn.length) (h2 : Jn.map (·.2) = told) (h3 : ∀ p ∈ Jn,p.1.2.1 = p.2.length) : AutPost bo told T w (.returned (.bool true)) W := ⟨rfl,_,⟨A,n,c,Jn,h1,h2,h3,hP.st.down,rfl⟩,hP.keep,fun x hx => hP.tin x hx⟩
set_option maxRecDepth 100000 in
set_option maxHeartbeats 16000000 in
theorem aut1_any (bo : Nat) (told : List (List Int)) (l : List Int) (T : List Nat) (w : World) (A : Option Addr) (n c : Nat) (Ao : Option Addr) (no co : Nat) (Jn : List (Sl × List Int)) (hno : no = Jn.length) (htd : Jn.map (·.2) = told) (hjl : ∀ p ∈ Jn,p.1.2.1 = p.2.length) (hst : St 0 (autL bo Ao no co) (ssR Ao no co Jn) w) (hT : T = stT (autL bo Ao no co) (ssR Ao no co Jn)) (hn : n = l.length) (hl : n ≤ 8) (hA : SlAt encI 1 w A l) (hb : told.length ≤ 100000) :
  Calls Tryz.prog 53 #[.slice A n c, .pointer (some ⟨bo,0,none⟩)] w (AutPost bo (told ++ [l]) T w) := by
 have hno' := hide hno
 have htd' := hide htd
 have hjl' := hide hjl
 have hn' := hide hn
 have hl' := hide hl
 have hA' := hide hA
 have hnb : no ≤ 100000 := by rw [hno, ← List.length_map (f := fun p : Sl × List Int => p.2),htd]; exact hb
 have hP0 := Sp.bare hst
 rw [← hT] at hP0
 have hP := hide hP0
 unfold autL ssR at hP
 have hnb' := hide hnb
 obtain ⟨wf,hwf⟩ : ∃ wf,wf = bare w := ⟨_,rfl⟩
 rw [← hwf] at hP
 obtain ⟨S,hS0⟩ : ∃ S,S = (Value.slice Ao no co).ownBlock.toList := ⟨_,rfl⟩
 have hS := hide hS0
 have hbS := hide (show bo ∉ S from fun hm => by
  rw [hS0] at hm
  exact (unhide hP).ne_row 0 0 rfl rfl (by decide) hm)
 clear hno htd hjl hst hT hn hl hA hb hP0 hnb hwf hS0
 refine callsIn_wide.1 (callsIn_of_wp_marks (n := 0) Tryz.func53 rfl trivial (wpIn_wide.2 ?_))
 simp only [Tryz.ntmps53,List.size_toArray,List.length_cons,List.length_nil,Nat.reduceAdd,Nat.reduceSub,Array.replicate_succ,Array.replicate_zero,List.push_toArray,List.append_toArray,List.nil_append,List.cons_append]
 try dsimp only
 repeat ((fail_if_success (with_reducible refine wp_reg (id := 0) ?_)); (first | go_values | go_skip | go_step | go_guarded | go_upon | go_in | go_back | fail))
 with_reducible refine wp_reg (id := 0) ?_
 refine wpO_want rfl ?_
 go_simp
 refine wpO_done ?_
 try go_frame
 go_wp2_with fail
 refine wp_regionK (P := Tryz.prog) S [0,1] [5] 4 #[true,true,false,false,false,false] (by kernel_rfl) (by kernel_rfl) rfl (by rfl) ?_
 refine ql_want (v := .slice Ao no co) rfl (by rfl) (fun W hW => qUpon_ofX (load_V rfl rfl (by simp [go_sem]) ((unhide hP).cellK 0 0 rfl rfl (unhide hbS) W hW))) ?_
 go_frame
 iterate 1
  refine ql_want (v := ?_) rfl (by rfl) (fun W hW => ?_) ?_
  rotate_left
  ·go_simp
   first | done | rfl
  go_frame
 refine wpQL_nil (fun y1 hxq => ?_)
 have hA2 := hide ((unhide hA').ext hxq)
 have hK := hide (hxq.keep S)
 replace hP : Hid (Sp wf T w [] [(bo,42, #[.slice Ao no co])] ((31,1, .slice Ao no co,no,(Jn.map (·.1)).flatMap encSl) :: (Jn.map rowJ)) y1) := hide ((unhide hP).ext hxq)
 clear hxq
 refine lx_one (i := 2) (by kernel_rfl) rfl (by rfl) #[true,true,true,false,false,false] (by rfl) ?_
 go_simp
 refine (cloneI_any A l n c y1 (unhide hA2) (unhide hn') (by have := unhide hl'; omega)).mono ?_
 rintro _ zy2 ⟨A1,n1,c1,rfl,hn1,ho1,hxc⟩
 refine ⟨_,rfl,(unhide hK).trans (hxc.keep _),fun y2 hxd => ?_⟩
 have hn1' := hide hn1
 replace hP : Hid (Sp wf T w [] [(bo,42, #[.slice Ao no co])] ((31,1, .slice Ao no co,no,(Jn.map (·.1)).flatMap encSl) :: (Jn.map rowJ ++ [(3,1, .slice A1 n1 c1,n1,l.flatMap encI)])) y2) := hide (((unhide hP).addRow hxc ho1).ext hxd)
 replace hK := hide ((unhide hK).trans ((hxc.trans hxd).keep _))
 clear hxc hxd ho1 hn1 hA2
 try go_frame
 refine lx_one (i := 3) (by kernel_rfl) rfl (by rfl) #[true,true,true,true,false,false] (by rfl) ?_
 refine (unhide hP).allocL (unhide hK) (v := fun b => .slice (some ⟨b,0,none⟩) 1 1) 31 #[.slice A1 n1 c1] ?_ ?_
 ·exact run_buildSl rfl rfl
 intro bs y3 hQ hK2 hg2
 replace hP : Hid (Sp wf T w [] [(bo,42, #[.slice Ao no co]),(bs,31, #[.slice A1 n1 c1])] ((31,1, .slice Ao no co,no,(Jn.map (·.1)).flatMap encSl) :: (Jn.map rowJ ++ [(3,1, .slice A1 n1 c1,n1,l.flatMap encI)])) y3) := hide hQ
 replace hK := hide hK2
 have hge_bs := hide hg2
 clear hQ hK2 hg2
 try go_frame
 refine lx_one (i := 4) (by kernel_rfl) rfl (by rfl) #[true,true,true,true,true,false] (by rfl) ?_
 refine (unhide hP).ap1L (unhide hK) (enc := encSl) (T := 31) (ST := 42) 0 (v := .slice Ao no co) (m := no) (xs := Jn.map (·.1)) rfl (fun z hz => .inl (by rw [unhide hS]; exact hz)) infoSl Tryz.underlying42 one_encSl (fun _ => rfl) (by decide) (by decide) rfl (A1,n1,c1) rfl rfl ((unhide hP).get 1 rfl) (by have := unhide hnb'; omega) ?_
 intro A9 cA9 y4 hQ hK2 hg2
 replace hP : Hid (Sp wf T w [] [(bo,42, #[.slice Ao no co]),(bs,31, #[.slice A1 n1 c1])] ((31,1, .slice A9 (no + 1) cA9,no + 1,((Jn.map fun p : Sl × List Int => p.1) ++ [((A1,n1,c1) : Sl)]).flatMap encSl) :: (Jn.map rowJ ++ [(3,1, .slice A1 n1 c1,n1,l.flatMap encI)])) y4) := hide hQ
 replace hK := hide hK2
 clear hQ hK2 hg2
 try go_frame
 replace hP : Hid (Sp wf T w [] [(bo,42, #[.slice Ao no co])] ((31,1, .slice A9 (no + 1) cA9,no + 1,((Jn.map fun p : Sl × List Int => p.1) ++ [((A1,n1,c1) : Sl)]).flatMap encSl) :: (Jn.map rowJ ++ [(3,1, .slice A1 n1 c1,n1,l.flatMap encI)])) y4) := hide ((unhide hP).sub (List.sublist_append_left _ ([(bs,31, #[.slice A1 n1 c1])] : List Cl)) (List.Sublist.refl _))
 replace hP : Hid (Sp wf T w [] [(bo,42, #[.slice Ao no co])] ((31,1, .slice A9 (no + 1) cA9,no + 1,((Jn ++ [(((A1,n1,c1),l) : Sl × List Int)]).map (·.1)).flatMap encSl) :: ((Jn ++ [(((A1,n1,c1),l) : Sl × List Int)]).map rowJ)) y4) := hide ((unhide hP).joinJ (p := ((A1,n1,c1),l)))
 refine (unhide hP).setX 0 #[.slice A9 (no + 1) cA9] rfl (j := 5) (by kernel_rfl) rfl (by rfl) #[true,true,true,true,true,true] (by rfl) rfl (fun hb => run_store_row (v := .slice A9 (no + 1) cA9) rfl (by rfl) (by rfl) (by simp [go_sem]) hb rfl (by simp [Value.cells,Value.oneCell'])) ?_
 intro y5 hQ
 replace hP : Hid (Sp wf T w [] [(bo,42, #[.slice A9 (no + 1) cA9])] ((31,1, .slice A9 (no + 1) cA9,no + 1,((Jn ++ [(((A1,n1,c1),l) : Sl × List Int)]).map (·.1)).flatMap encSl) :: ((Jn ++ [(((A1,n1,c1),l) : Sl × List Int)]).map rowJ)) y5) := hide hQ
 clear hQ hK
 try go_frame
 refine wpX_done (by kernel_rfl) ?_
 try go_frame
 try dsimp only
 repeat ((fail_if_success (with_reducible refine wp_reg (id := 2) ?_)); (first | go_values | go_skip | go_step | go_guarded | go_upon | go_in | go_back | fail))
 with_reducible refine wp_reg (id := 2) ?_
 refine wpO_want rfl ?_
 go_simp
 refine wpO_done ?_
 try go_frame
 go_wp2_with fail
 refine Sp.leaves0 ?_
 refine ⟨_,results_tmp (t := 3) rfl _ _ _, ?_⟩
 exact AutPost.mk (unhide hP) (by rw [List.length_append, ← unhide hno']; rfl) (by rw [List.map_append,unhide htd']; rfl) (fun p hp => by
  rcases List.mem_append.1 hp with hp | hp
  ·exact unhide hjl' p hp
  ·rw [List.mem_singleton] at hp; subst hp; exact unhide hn1')
theorem aut_tell (bo m : Nat) (hm : m ≤ 8) : TellN 40320 53 #[.pointer (some ⟨bo,0,none⟩)] true m (AutJ bo) where
 enters := Go.Proofs.enters_of Tryz.func53 (by kernel_rfl) rfl
 keep := AutJ.keep
 lt := AutJ.lt
 step := by
  rintro told l T W A n c ⟨Ao,no,co,Jn,h1,h2,h3,h4,hT⟩ hn hnm hcap hA _ hN
  have key := aut1_any bo told l T W A n c Ao no co Jn h1 h2 h3 h4 hT hn (by omega) hA (by omega)
  exact key.mono fun e w' h => h
theorem maps_len {V V' : List (Int × Thing)} {E E' : List ((Int × Int) × Thing)} {ids ids' : List Int} (h : ids'.length ≤ 8) : (mapsP V E ids V' E' ids').length ≤ 40320 := by
 unfold mapsP
 split
 ·refine Nat.le_trans (List.length_filter_le _ _) ?_
  rw [allN_len _ _ rfl]
  generalize ids'.length = n at h ⊢
  rcases n with _ | _ | _ | _ | _ | _ | _ | _ | _ | n
  all_goals first | decide | omega
 ·simp
def AuPost (V : List (Int × Thing)) (E : List ((Int × Int) × Thing)) (w : World) (e : Ending) (w' : World) : Prop := ∃ A n c J,e = .returned (.tuple #[.slice A n c, .int .i64 0]) ∧ OwSS w.heap.size (mapsP V E (idsV V) V E (idsV V)) A n c J w' ∧ Ext w w'
set_option maxRecDepth 100000 in
set_option maxHeartbeats 16000000 in
theorem autos_any (g bv be : Nat) (V : List (Int × Thing)) (E : List ((Int × Int) × Thing)) (w : World) (hg : IsG w g bv be V E) (hl : V.length ≤ 8) (hlb : LabB V E) :
  Calls Tryz.prog 18 #[.pointer (some ⟨g,0,none⟩)] w (AuPost V E w) := by
 have hg' := hide hg
 have hl' := hide hl
 have hlb' := hide hlb
 have hlt := hide hg.lt
 obtain ⟨z,hz0⟩ : ∃ z : Int,z = ((0 : Nat) : Int) := ⟨_,rfl⟩
 have hq : ((z : Int) != 0) = false := by rw [hz0]; rfl
 have hz' := hide hz0
 obtain ⟨nv,hnv0⟩ : ∃ nv,nv = V.length := ⟨_,rfl⟩
 have hnv := hide hnv0
 have hn8 := hide (show nv ≤ 8 by omega)
 clear hg hl hlb hz0 hnv0
 have hP := hide (Sp.new w)
 refine callsIn_wide.1 (callsIn_of_wp_marks (n := 0) Tryz.func18 rfl trivial (wpIn_wide.2 ?_))
 simp only [Tryz.ntmps18,List.size_toArray,List.length_cons,List.length_nil,Nat.reduceAdd,Nat.reduceSub,Array.replicate_succ,Array.replicate_zero,List.push_toArray,List.append_toArray,List.nil_append,List.cons_append]
 try dsimp only
 repeat ((fail_if_success (with_reducible refine wp_reg (id := 0) ?_)); (first | go_values | go_skip | go_step | go_guarded | go_upon | go_in | go_back | fail))
 with_reducible refine wp_reg (id := 0) ?_
 iterate 2
  refine wpO_want rfl ?_
  go_simp
 refine wpO_done ?_
 try go_frame
 try dsimp only
 repeat ((fail_if_success (with_reducible refine wp_reg (id := 1) ?_)); (first | go_values | go_skip | go_step | go_guarded | go_upon | go_in | go_back | fail))
 with_reducible refine wp_reg (id := 1) ?_
 refine wpO_want rfl ?_
 go_simp
 refine (unhide hP).buildO 1 24 #[.pointer (some ⟨g,0,none⟩)] rfl (by go_simp) ?_
 intro bp y1 hQ
 replace hP : Hid (Sp w [] w [] [(bp,24, #[.pointer (some ⟨g,0,none⟩)])] [] y1) := hide hQ
 clear hQ
 try go_frame
 refine wpO_want rfl ?_
 go_simp
 refine (asked1 bp (some ⟨g,0,none⟩) 0 z y1 ((unhide hP).get 0 rfl) (AskIs.good ((unhide hg').ext (unhide hP).extf) (unhide hl')) (unhide hz')).mono ?_
 rintro _ y2 ⟨rfl,hxc⟩
 refine ⟨_,rfl, ?_⟩
 replace hP : Hid (Sp w [] w [] [(bp,24, #[.pointer (some ⟨g,0,none⟩)])] [] y2) := hide ((unhide hP).ext hxc)
 clear hxc
 refine wpO_want rfl ?_
 go_simp
 refine wpO_done ?_
 try go_frame
 replace hP : Hid (Sp w [] w [] [] [] y2) := hide ((unhide hP).sub (List.sublist_append_left _ ([(bp,24, #[.pointer (some ⟨g,0,none⟩)])] : List Cl)) (List.Sublist.refl _))
 try dsimp only
 repeat ((fail_if_success (with_reducible refine wp_reg (id := 2) ?_)); (first | go_values | go_skip | go_step | go_guarded | go_upon | go_in | go_back | fail))
 with_reducible refine wp_reg (id := 2) ?_
 iterate 2
  refine wpO_want rfl ?_
  go_simp
 refine wpO_done ?_
 try go_frame
 clear hq
 try dsimp only
 repeat ((fail_if_success (with_reducible refine wp_reg (id := 4) ?_)); (first | go_values | go_skip | go_step | go_guarded | go_upon | go_in | go_back | fail))
 with_reducible refine wp_reg (id := 4) ?_
 refine (unhide hP).allocO 42 #[.slice none 0 0] rfl (by go_simp) ?_
 intro bo y3 hQ
 replace hP : Hid (Sp w [] w [] [(bo,42, #[.slice none 0 0])] [] y3) := hide hQ
 clear hQ
 refine wpO_done ?_
 try go_frame
 try dsimp only
 repeat ((fail_if_success (with_reducible refine wp_reg (id := 5) ?_)); (first | go_values | go_skip | go_step | go_guarded | go_upon | go_in | go_back | fail))
 with_reducible refine wp_reg (id := 5) ?_
 iterate 3
  refine wpO_want rfl ?_
  go_simp
 refine wpO_want rfl ?_
 go_simp
 have hst : St w.heap.size (autL bo none 0 0) (ssR none 0 0 []) y3 := (unhide hP).st.nil 31 1
 have hj : AutJ bo [] (stT (autL bo none 0 0) (ssR none 0 0 [])) y3 := ⟨none,0,0,[],rfl,rfl,(fun p hp => by cases hp),hst.down,rfl⟩
 have hbo := hide (show w.heap.size ≤ bo from hst.ge bo (by simp [stT,autL]))
 have hT0 : stT (autL bo none 0 0) (ssR none 0 0 []) = [bo] := rfl
 rw [hT0] at hj
 have hx := hide (unhide hP).extf
 have hca := maps_any (aut_tell bo nv (unhide hn8)) g bv be g bv be V V E E y3 [] [bo] ((unhide hg').ext (unhide hx)) ((unhide hg').ext (unhide hx)) (unhide hnv) (unhide hn8) (unhide hl') (unhide hlb') (unhide hlb') hj (fun x hm hb => by
  have h1 := unhide hlt
  have h2 := unhide hbo
  rw [List.mem_singleton] at hb
  subst hb
  simp only [List.mem_cons,List.not_mem_nil,or_false] at hm
  omega) (by rw [List.length_nil,Nat.zero_add]; exact maps_len (by rw [idsV_len]; exact unhide hl'))
 refine Calls.mono hca ?_
 clear hca hj hst hT0
 rintro _ W9 ⟨rfl,T9,hj,hk9,hin9⟩
 rw [List.nil_append] at hj
 obtain ⟨Ao,no,co,Jn,h1,h2,h3,h4,rfl⟩ := hj
 have hx9 : Ext w W9 := (unhide hx).of_new hk9 (fun x hm => by rw [List.mem_singleton] at hm; subst hm; exact unhide hbo)
 have hup : St w.heap.size (autL bo Ao no co) (ssR Ao no co Jn) W9 := h4.up fun x hm => by
  rcases hin9 x hm with h | h
  ·rw [List.mem_singleton] at h; subst h; exact unhide hbo
  ·exact Nat.le_trans (Below.size (unhide hx)) h
 have h1' := hide h1
 have h2' := hide h2
 have h3' := hide h3
 have hP := hide (Sp.ofSt hup hx9)
 unfold autL ssR at hP
 obtain ⟨T8,hT8⟩ : ∃ T,T = stT (autL bo Ao no co) (ssR Ao no co Jn) := ⟨_,rfl⟩
 unfold autL ssR at hT8
 rw [← hT8] at hP
 refine ⟨_,rfl, ?_⟩
 clear h1 h2 h3 h4 hk9 hin9 hup hx9 hT8 hx
 refine wpO_done ?_
 try go_frame
 try dsimp only
 repeat ((fail_if_success (with_reducible refine wp_reg (id := 6) ?_)); (first | go_values | go_skip | go_step | go_guarded | go_upon | go_in | go_back | fail))
 with_reducible refine wp_reg (id := 6) ?_
 refine wpO_val rfl (load_V (v := .slice Ao no co) rfl rfl (by simp [go_sem]) (((unhide hP).get 0 rfl).cell 0)) ?_
 go_frame
 iterate 2
  refine wpO_want rfl ?_
  go_simp
 refine wpO_done ?_
 try go_frame
 go_wp2_with fail
 refine Sp.leaves0 ?_
 exact ⟨_,results_tmp2 (t := 2) (u := 3) rfl _ _ _,Ao,no,co,Jn,rfl,⟨unhide h1',unhide h2',unhide h3',(unhide hP).st.sub (List.nil_sublist _) (List.Sublist.refl _)⟩,(unhide hP).extf⟩
end Go.Proofs.YtbpeemhfjgcnaaaGreat
namespace Go.Proofs.YtbpeemhfjgcnaaaGreat
open Go Go.RowKit Go.Shelf
attribute [local go_sem] qUpon lUpon
attribute [local irreducible] wpO wpX wpQL
set_option maxRecDepth 100000 in
set_option maxHeartbeats 16000000 in
theorem cmp08_any (A B : Option Addr) (L M : List Int) (n m cA cB : Nat) (w : World) (hA : SlAt encI 1 w A L) (hB : SlAt encI 1 w B M) (hn : n = L.length) (hm : m = M.length) (hl : n ≤ 100000) (hl2 : m ≤ 100000) :
  Calls Tryz.prog 17 #[.slice A n cA, .slice B m cB] w fun e w' => e = .returned (.int .i64 (lcmp L M)) ∧ Ext w w' := by
 have hA' := hide hA
 have hB' := hide hB
 have hn' := hide hn
 have hm' := hide hm
 have hl' := hide hl
 have hl2' := hide hl2
 clear hA hB hn hm hl hl2
 have hP := hide (Sp.new w)
 refine callsIn_wide.1 (callsIn_of_wp_marks (n := 0) Tryz.func17 rfl trivial (wpIn_wide.2 ?_))
 simp only [Tryz.ntmps17,List.size_toArray,List.length_cons,List.length_nil,Nat.reduceAdd,Nat.reduceSub,Array.replicate_succ,Array.replicate_zero,List.push_toArray,List.append_toArray,List.nil_append,List.cons_append]
 try dsimp only
 repeat ((fail_if_success (with_reducible refine wp_reg (id := 0) ?_)); (first | go_values | go_skip | go_step | go_guarded | go_upon | go_in | go_back | fail))
 with_reducible refine wp_reg (id := 0) ?_
 refine wpO_want rfl ?_
 go_simp
 refine wpO_done ?_
 try go_frame
 try dsimp only
 repeat ((fail_if_success (with_reducible refine wp_reg (id := 1) ?_)); (first | go_values | go_skip | go_step | go_guarded | go_upon | go_in | go_back | fail))
 with_reducible refine wp_reg (id := 1) ?_
 refine wpO_want rfl ?_
 go_simp
 refine wpO_done ?_
 try go_frame
 go_wp2_with fail
 obtain ⟨I0_2,hI0_20⟩ : ∃ I : Nat → Act → World → Prop,I = fun fi a' wr => ∃ (i : Nat),a'.tmps.size = 46 ∧ a'.tmps.getD 0 undef = .slice A n cA ∧ a'.tmps.getD 1 undef = .slice B m cB ∧ a'.tmps.getD 4 undef = .int .i64 0 ∧ a'.tmps.getD 5 undef = .int .i64 (i : Nat) ∧ a'.defers = [] ∧ i ≤ n ∧ i ≤ m ∧ lcmp (L.drop i) (M.drop i) = lcmp L M ∧ Sp w [] w [] [] [] wr ∧ fi = n - i := ⟨_,rfl⟩
 have hI0_2 := hide hI0_20
 clear hI0_20
 refine wp_loop_ix I0_2 (n - 0) ?_ ?_
 ·rw [unhide hI0_2]; exact ⟨0,rfl,rfl,rfl,rfl,rfl,rfl,Nat.zero_le _,Nat.zero_le _,rfl,unhide hP,rfl⟩
 ·rintro fi ⟨tm,dfs⟩ wr hrel
  rw [unhide hI0_2] at hrel
  obtain ⟨i,hsz,e0,e1,e4,e5,hdf,hin,him,hlc,hPr,hfm⟩ := hrel
  obtain ⟨us,rfl⟩ : ∃ us : Nat → Value,tm = #[us 0,us 1,us 2,us 3,us 4,us 5,us 6,us 7,us 8,us 9,us 10,us 11,us 12,us 13,us 14,us 15,us 16,us 17,us 18,us 19,us 20,us 21,us 22,us 23,us 24,us 25,us 26,us 27,us 28,us 29,us 30,us 31,us 32,us 33,us 34,us 35,us 36,us 37,us 38,us 39,us 40,us 41,us 42,us 43,us 44,us 45] := ⟨fun i => tm.getD i undef,arr_fn hsz⟩
  have h0 : us 0 = .slice A n cA := e0
  have h1 : us 1 = .slice B m cB := e1
  have h4 : us 4 = .int .i64 0 := e4
  have h5 : us 5 = .int .i64 (i : Nat) := e5
  have hdf2 : dfs = [] := hdf
  subst hdf2
  clear hdf hsz e0 e1 e4 e5
  simp only [h0,h1,h4,h5]
  clear h0 h1 h4 h5
  clear hP
  have hP := hide hPr
  have hfm' := hide hfm
  have hlc' := hide hlc
  have hAr := hide ((unhide hA').ext (unhide hP).extf)
  have hBr := hide ((unhide hB').ext (unhide hP).extf)
  clear hPr hfm hlc
  by_cases hlt : i < n
  ·skip
   have hil : (i : Int) < (n : Int) := by omega
   have hiL : i < L.length := by have := unhide hn'; omega
   have hib : (i : Int) ≤ 100000 := by have := unhide hl'; omega
   by_cases hlm : i < m
   ·skip
    have hil2 : (i : Int) < (m : Int) := by omega
    have hiM : i < M.length := by have := unhide hm'; omega
    obtain ⟨b,off,rfl,c0⟩ := atI (unhide hAr) hiL
    obtain ⟨b2,off2,rfl,d0⟩ := atI (unhide hBr) hiM
    have hself := Ext.refl wr
    have hdr := hide (lcmp_drop hiL hiM)
    generalize L[i] = x at *
    generalize M[i] = y at *
    try dsimp only
    repeat ((fail_if_success (with_reducible refine wp_reg (id := 2) ?_)); (first | go_values | go_skip | go_step | go_guarded | go_upon | go_in | go_back | fail))
    with_reducible refine wp_reg (id := 2) ?_
    iterate 10
     refine wpO_want rfl ?_
     go_simp
    refine wpO_done ?_
    try go_frame
    go_wp2_with fail
    by_cases hxy : x < y
    ·skip
     refine wp_region_ext (P := Tryz.prog) [0,1,2,3,4,5,6,7,8] [] 0 #[true,true,true,true,true,true,true,true,true] (by kernel_rfl) (by kernel_rfl) rfl (by rfl) ?_
     iterate 9
      first
      | (refine ql_skip rfl (by rfl) ?_)
      | (refine ql_want (v := ?_) rfl (by rfl) (fun W hW => ?_) ?_; rotate_left; (go_simp; (first | done | rfl)))
      try go_frame
     refine wpQL_nil (fun y1 hxq => ?_)
     replace hP : Hid (Sp w [] w [] [] [] y1) := hide ((unhide hP).ext hxq)
     replace c0 := fun (W : World) (hW : Ext y1 W) => c0 W (hxq.trans hW)
     replace d0 := fun (W : World) (hW : Ext y1 W) => d0 W (hxq.trans hW)
     clear hself hxq
     have hself := Ext.refl y1
     refine wpX_done (by kernel_rfl) ?_
     try go_frame
     clear c0 d0 hself
     try dsimp only
     repeat ((fail_if_success (with_reducible refine wp_reg (id := 5) ?_)); (first | go_values | go_skip | go_step | go_guarded | go_upon | go_in | go_back | fail))
     with_reducible refine wp_reg (id := 5) ?_
     refine wpO_want rfl ?_
     go_simp
     refine wpO_done ?_
     try go_frame
     go_wp2_with fail
     have hdr2 := unhide hdr
     have hcv : cmpI x y = -1 := by unfold cmpI; rw [if_pos hxy]
     rw [hcv,if_neg (by decide),unhide hlc'] at hdr2
     refine Sp.leaves0 ?_
     exact ⟨_,results_tmp rfl _ _ _,by rw [hdr2]; rfl,(unhide hP).extf⟩
    ·skip
     refine wp_region_ext (P := Tryz.prog) [0,1,2,3,4,5,6,7,8] [] 0 #[true,true,true,true,true,true,true,true,true] (by kernel_rfl) (by kernel_rfl) rfl (by rfl) ?_
     iterate 9
      first
      | (refine ql_skip rfl (by rfl) ?_)
      | (refine ql_want (v := ?_) rfl (by rfl) (fun W hW => ?_) ?_; rotate_left; (go_simp; (first | done | rfl)))
      try go_frame
     refine wpQL_nil (fun y1 hxq => ?_)
     replace hP : Hid (Sp w [] w [] [] [] y1) := hide ((unhide hP).ext hxq)
     replace c0 := fun (W : World) (hW : Ext y1 W) => c0 W (hxq.trans hW)
     replace d0 := fun (W : World) (hW : Ext y1 W) => d0 W (hxq.trans hW)
     clear hself hxq
     have hself := Ext.refl y1
     refine wpX_done (by kernel_rfl) ?_
     try go_frame
     go_wp2_with fail
     by_cases hyx : y < x
     ·skip
      refine wp_region_ext (P := Tryz.prog) [0,1,2,3,4,5,6,7,8] [] 0 #[true,true,true,true,true,true,true,true,true] (by kernel_rfl) (by kernel_rfl) rfl (by rfl) ?_
      iterate 9
       first
       | (refine ql_skip rfl (by rfl) ?_)
       | (refine ql_want (v := ?_) rfl (by rfl) (fun W hW => ?_) ?_; rotate_left; (go_simp; (first | done | rfl)))
       try go_frame
      refine wpQL_nil (fun y2 hxq => ?_)
      replace hP : Hid (Sp w [] w [] [] [] y2) := hide ((unhide hP).ext hxq)
      replace c0 := fun (W : World) (hW : Ext y2 W) => c0 W (hxq.trans hW)
      replace d0 := fun (W : World) (hW : Ext y2 W) => d0 W (hxq.trans hW)
      clear hself hxq
      have hself := Ext.refl y2
      refine wpX_done (by kernel_rfl) ?_
      try go_frame
      clear c0 d0 hself
      try dsimp only
      repeat ((fail_if_success (with_reducible refine wp_reg (id := 7) ?_)); (first | go_values | go_skip | go_step | go_guarded | go_upon | go_in | go_back | fail))
      with_reducible refine wp_reg (id := 7) ?_
      refine wpO_want rfl ?_
      go_simp
      refine wpO_done ?_
      try go_frame
      go_wp2_with fail
      have hdr2 := unhide hdr
      have hcv : cmpI x y = 1 := by unfold cmpI; rw [if_neg (by omega),if_pos hyx]
      rw [hcv,if_neg (by decide),unhide hlc'] at hdr2
      refine Sp.leaves0 ?_
      exact ⟨_,results_tmp rfl _ _ _,by rw [hdr2]; rfl,(unhide hP).extf⟩
     ·skip
      refine wp_region_ext (P := Tryz.prog) [0,1,2,3,4,5,6,7,8] [] 0 #[true,true,true,true,true,true,true,true,true] (by kernel_rfl) (by kernel_rfl) rfl (by rfl) ?_
      iterate 9
       first
       | (refine ql_skip rfl (by rfl) ?_)
       | (refine ql_want (v := ?_) rfl (by rfl) (fun W hW => ?_) ?_; rotate_left; (go_simp; (first | done | rfl)))
       try go_frame
      refine wpQL_nil (fun y2 hxq => ?_)
      replace hP : Hid (Sp w [] w [] [] [] y2) := hide ((unhide hP).ext hxq)
      replace c0 := fun (W : World) (hW : Ext y2 W) => c0 W (hxq.trans hW)
      replace d0 := fun (W : World) (hW : Ext y2 W) => d0 W (hxq.trans hW)
      clear hself hxq
      have hself := Ext.refl y2
      refine wpX_done (by kernel_rfl) ?_
      try go_frame
      clear c0 d0 hself
      have hcv := hide (show cmpI x y = 0 by unfold cmpI; rw [if_neg (by omega),if_neg (by omega)])
      clear hxy hyx
      go_wp2_with fail
      have hdr2 := unhide hdr
      rw [if_pos (unhide hcv)] at hdr2
      refine ⟨n - (i + 1), ?_,by have := unhide hfm'; omega⟩
      rw [unhide hI0_2]
      exact ⟨i + 1,(by first | rfl | trivial),(by first | rfl | trivial),(by first | rfl | trivial),(by first | rfl | trivial),(by first | rfl | (show _ = Value.int _ _; go_num) | go_num),(by first | rfl | trivial),by omega,by omega,by rw [← hdr2]; exact unhide hlc',unhide hP,rfl⟩
   ·skip
    have hil2 : ¬ (i : Int) < (m : Int) := by omega
    have hmn : ¬ (n : Int) < (m : Int) := by omega
    have hnm : (m : Int) < (n : Int) := by omega
    have hdr := hide (lcmp_left hiL (show M.length ≤ i by have := unhide hm'; omega))
    try dsimp only
    repeat ((fail_if_success (with_reducible refine wp_reg (id := 2) ?_)); (first | go_values | go_skip | go_step | go_guarded | go_upon | go_in | go_back | fail))
    with_reducible refine wp_reg (id := 2) ?_
    iterate 10
     refine wpO_want rfl ?_
     go_simp
    refine wpO_done ?_
    try go_frame
    try dsimp only
    repeat ((fail_if_success (with_reducible refine wp_reg (id := 8) ?_)); (first | go_values | go_skip | go_step | go_guarded | go_upon | go_in | go_back | fail))
    with_reducible refine wp_reg (id := 8) ?_
    iterate 5
     refine wpO_want rfl ?_
     go_simp
    refine wpO_done ?_
    try go_frame
    try dsimp only
    repeat ((fail_if_success (with_reducible refine wp_reg (id := 10) ?_)); (first | go_values | go_skip | go_step | go_guarded | go_upon | go_in | go_back | fail))
    with_reducible refine wp_reg (id := 10) ?_
    iterate 5
     refine wpO_want rfl ?_
     go_simp
    refine wpO_done ?_
    try go_frame
    try dsimp only
    repeat ((fail_if_success (with_reducible refine wp_reg (id := 11) ?_)); (first | go_values | go_skip | go_step | go_guarded | go_upon | go_in | go_back | fail))
    with_reducible refine wp_reg (id := 11) ?_
    refine wpO_want rfl ?_
    go_simp
    refine wpO_done ?_
    try go_frame
    go_wp2_with fail
    have hdr2 := unhide hdr
    rw [unhide hlc'] at hdr2
    refine Sp.leaves0 ?_
    exact ⟨_,results_tmp rfl _ _ _,by rw [hdr2]; rfl,(unhide hP).extf⟩
  ·skip
   have hil : ¬ (i : Int) < (n : Int) := by omega
   obtain rfl : n = i := by omega
   have hdr := hide (lcmp_over (M := M) (show L.length = n from (unhide hn').symm))
   clear hlt hin
   by_cases hm2 : n < m
   ·skip
    have hge : (n : Int) < (m : Int) := by omega
    try dsimp only
    repeat ((fail_if_success (with_reducible refine wp_reg (id := 2) ?_)); (first | go_values | go_skip | go_step | go_guarded | go_upon | go_in | go_back | fail))
    with_reducible refine wp_reg (id := 2) ?_
    iterate 5
     refine wpO_want rfl ?_
     go_simp
    refine wpO_out (by rfl) ?_
    try go_frame
    refine wpO_out (by rfl) ?_
    try go_frame
    refine wpO_out (by rfl) ?_
    try go_frame
    refine wpO_out (by rfl) ?_
    try go_frame
    refine wpO_want rfl ?_
    go_simp
    refine wpO_done ?_
    try go_frame
    try dsimp only
    repeat ((fail_if_success (with_reducible refine wp_reg (id := 8) ?_)); (first | go_values | go_skip | go_step | go_guarded | go_upon | go_in | go_back | fail))
    with_reducible refine wp_reg (id := 8) ?_
    iterate 5
     refine wpO_want rfl ?_
     go_simp
    refine wpO_done ?_
    try go_frame
    try dsimp only
    repeat ((fail_if_success (with_reducible refine wp_reg (id := 9) ?_)); (first | go_values | go_skip | go_step | go_guarded | go_upon | go_in | go_back | fail))
    with_reducible refine wp_reg (id := 9) ?_
    refine wpO_want rfl ?_
    go_simp
    refine wpO_done ?_
    try go_frame
    go_wp2_with fail
    have hdr2 := unhide hdr
    rw [← unhide hm',if_pos hm2,unhide hlc'] at hdr2
    refine Sp.leaves0 ?_
    exact ⟨_,results_tmp rfl _ _ _,by rw [hdr2]; rfl,(unhide hP).extf⟩
   ·skip
    have hge : ¬ (n : Int) < (m : Int) := by omega
    have hge2 : ¬ (m : Int) < (n : Int) := by omega
    try dsimp only
    repeat ((fail_if_success (with_reducible refine wp_reg (id := 2) ?_)); (first | go_values | go_skip | go_step | go_guarded | go_upon | go_in | go_back | fail))
    with_reducible refine wp_reg (id := 2) ?_
    iterate 5
     refine wpO_want rfl ?_
     go_simp
    refine wpO_out (by rfl) ?_
    try go_frame
    refine wpO_out (by rfl) ?_
    try go_frame
    refine wpO_out (by rfl) ?_
    try go_frame
    refine wpO_out (by rfl) ?_
    try go_frame
    refine wpO_want rfl ?_
    go_simp
    refine wpO_done ?_
    try go_frame
    try dsimp only
    repeat ((fail_if_success (with_reducible refine wp_reg (id := 8) ?_)); (first | go_values | go_skip | go_step | go_guarded | go_upon | go_in | go_back | fail))
    with_reducible refine wp_reg (id := 8) ?_
    iterate 5
     refine wpO_want rfl ?_
     go_simp
    refine wpO_done ?_
    try go_frame
    try dsimp only
    repeat ((fail_if_success (with_reducible refine wp_reg (id := 10) ?_)); (first | go_values | go_skip | go_step | go_guarded | go_upon | go_in | go_back | fail))
    with_reducible refine wp_reg (id := 10) ?_
    iterate 5
     refine wpO_want rfl ?_
     go_simp
    refine wpO_done ?_
    try go_frame
    try dsimp only
    repeat ((fail_if_success (with_reducible refine wp_reg (id := 12) ?_)); (first | go_values | go_skip | go_step | go_guarded | go_upon | go_in | go_back | fail))
    with_reducible refine wp_reg (id := 12) ?_
    refine wpO_want rfl ?_
    go_simp
    refine wpO_done ?_
    try go_frame
    go_wp2_with fail
    have hdr2 := unhide hdr
    rw [← unhide hm',if_neg hm2,unhide hlc'] at hdr2
    refine Sp.leaves0 ?_
    exact ⟨_,results_tmp rfl _ _ _,by rw [hdr2]; rfl,(unhide hP).extf⟩
end Go.Proofs.YtbpeemhfjgcnaaaGreat
