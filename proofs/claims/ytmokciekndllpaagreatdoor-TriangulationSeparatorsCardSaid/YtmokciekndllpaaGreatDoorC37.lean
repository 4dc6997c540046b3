/- Parts of a proof, laid together. Each part says its own conditions. -/
import Derived.Test.YtmokciekndllpaaGreatDoorC36
namespace Go.Proofs.YtmokciekndllpaaGreatDoor
open Go Go.RowKit Go.Shelf
attribute [local go_sem] qUpon lUpon
attribute [local irreducible] wpO wpX wpQL
theorem sortS_any (base : Nat) (v : Value) (xs S : List Nat) (w : World) (hown : w.ownsRow base 25 16 v xs.length (xs.flatMap encS)) (hp : S.Perm xs) (hS : S.Pairwise ltS) (hsz : xs.length ≤ 10000000) :
  Calls Tryz.prog 58 #[v, .func (.func 23) #[] #[]] w fun e w' => e = .returned (.tuple #[]) ∧ w'.ownsRow base 25 16 v xs.length (S.flatMap encS) ∧ w.grownBy w' v.ownBlock := by
 have h := sortRow_any Tryz.sortS 16 (by omega) Tryz.isAgg25 Tryz.sizeOf25 encS (fun _ => rfl) one_encS (fun x y => cmpW x y 16) swoS 23 (Go.Proofs.enters_of Tryz.func23 (by kernel_rfl) rfl) (fun x y W => cmpw_any x y W)
  base 25 v xs S w hown hp (hS.imp fun h => (ltOf_S _ _).2 h) (by omega)
 exact h
theorem Sp.sorted {wf w W W' : World} {T0 : List Nat} {ds : List Deferred} {L : List Cl} {Rs : List Rw} (h : Sp wf T0 w ds L Rs W) (i : Nat) {T k n : Nat} {v : Value} {xs xs' : List Value} (hk : k ≠ 0) (hi : Rs[i]? = some (T,k,v,n,xs)) (hown : W'.ownsRow wf.heap.size T k v n xs') (hg : W.grownBy W' v.ownBlock) : Sp wf T0 w ds L (Rs.set i (T,k,v,n,xs')) W' := h.push i hk hi (Ext.refl W) hown hg (.inl rfl)
theorem lowN_id {c k : Nat} (h : c < 2 ^ (64 * k)) : lowN c k = c := Nat.mod_eq_of_lt h
theorem InR.low {c : Nat} (h : InR c) {k : Nat} (hk : 64 * k = 1024) : lowN c k = c := lowN_id (h.lt hk)
theorem lt_sorted {l : List Nat} (hR : ∀ c ∈ l,InR c) (h : l.Pairwise (· < ·)) : l.Pairwise ltS := List.Pairwise.imp_of_mem (fun {a b} ha hb hab => by
 unfold ltS
 rw [(hR a ha).low rfl,(hR b hb).low rfl]
 exact hab) h
def msA (V : List (Int × Thing)) (E : List ((Int × Int) × Thing)) (most : Int) : List Nat × Int := if most < ((sepL V E).length : Int) then ([],8) else (sepL V E,0)
def MsPost (w : World) (r : List Nat × Int) (e : Ending) (w' : World) : Prop := ∃ A c,e = .returned (.tuple #[.slice A r.1.length c, .int .i64 r.2]) ∧ w'.ownsRow w.heap.size 25 16 (.slice A r.1.length c) r.1.length (r.1.flatMap encS) ∧ Ext w w'
theorem MsPost.mk {w w' : World} {r : List Nat × Int} {A : Option Addr} {n c : Nat} {err : Int} (hn : n = r.1.length) (he : err = r.2) (h : w'.ownsRow w.heap.size 25 16 (.slice A n c) n (r.1.flatMap encS)) (hx : Ext w w') : MsPost w r (.returned (.tuple #[.slice A n c, .int .i64 err])) w' := ⟨A,c,by rw [hn,he],by rw [hn] at h; exact h,hx⟩
theorem sepL_R {V : List (Int × Thing)} {E : List ((Int × Int) × Thing)} (hi : GInv V E) : ∀ c ∈ sepL V E,InR c := fun _ hc => ((mem_sepL hi).1 hc).1
set_option maxRecDepth 100000 in
set_option maxHeartbeats 16000000 in
theorem minsep_any (g : Nat) (V : List (Int × Thing)) (E : List ((Int × Int) × Thing)) (most : Int) (w : World) (hi : GInv V E) (hg : GL w (some ⟨g,0,none⟩) V E) (hT : Tab w) (hV : V.length ≤ 9) :
  Calls Tryz.prog 15 #[.pointer (some ⟨g,0,none⟩), .int .i64 most] w (MsPost w (msA V E most)) := by
 have hi' := hide hi
 have hg' := hide hg
 have hT' := hide hT
 have hV' := hide hV
 clear hi hg hT hV
 have hP := hide (Sp.new w)
 refine callsIn_wide.1 (callsIn_of_wp_marks (n := 0) Tryz.func15 rfl trivial (wpIn_wide.2 ?_))
 simp only [Tryz.ntmps15,List.size_toArray,List.length_cons,List.length_nil,Nat.reduceAdd,Nat.reduceSub,Array.replicate_succ,Array.replicate_zero,List.push_toArray,List.append_toArray,List.nil_append,List.cons_append]
 try dsimp only
 repeat ((fail_if_success (with_reducible refine wp_reg (id := 0) ?_)); (first | go_values | go_skip | go_step | go_guarded | go_upon | go_in | go_back | fail))
 with_reducible refine wp_reg (id := 0) ?_
 refine (unhide hP).allocO 26 #[.pointer (some ⟨g,0,none⟩)] rfl (run_box (v := .pointer (some ⟨g,0,none⟩)) rfl rfl) ?_
 intro r2 y1 hQ
 replace hP : Hid (Sp w [] w [] [(r2,26, #[.pointer (some ⟨g,0,none⟩)])] [] y1) := hide hQ
 clear hQ
 iterate 2
  refine wpO_want rfl ?_
  go_simp
 refine wpO_done ?_
 try go_frame
 try dsimp only
 repeat ((fail_if_success (with_reducible refine wp_reg (id := 1) ?_)); (first | go_values | go_skip | go_step | go_guarded | go_upon | go_in | go_back | fail))
 with_reducible refine wp_reg (id := 1) ?_
 refine wpO_val rfl (load_V (v := .pointer (some ⟨g,0,none⟩)) rfl rfl (by simp [go_sem]) (((unhide hP).get 0 rfl).cell 0)) ?_
 go_frame
 refine wpO_want rfl ?_
 go_simp
 refine wpO_done ?_
 try go_frame
 try dsimp only
 repeat ((fail_if_success (with_reducible refine wp_reg (id := 3) ?_)); (first | go_values | go_skip | go_step | go_guarded | go_upon | go_in | go_back | fail))
 with_reducible refine wp_reg (id := 3) ?_
 refine (unhide hP).mapNewO 96 0 rfl (run_makeMapO rfl) ?_
 intro mb y2 hQ
 replace hP : Hid (Sp w [] w [] [(r2,26, #[.pointer (some ⟨g,0,none⟩)])] [(96,0, .map (some mb),0,[])] y2) := hide hQ
 clear hQ
 go_frame
 refine (unhide hP).allocO 96 #[.map none] rfl (by go_simp) ?_
 intro r6 y3 hQ
 replace hP : Hid (Sp w [] w [] [(r2,26, #[.pointer (some ⟨g,0,none⟩)]),(r6,96, #[.map none])] [(96,0, .map (some mb),0,[])] y3) := hide hQ
 clear hQ
 refine (unhide hP).setO 1 #[.map (some mb)] rfl rfl (fun hb => run_store_row (v := .map (some mb)) rfl rfl rfl (by simp [go_sem]) hb rfl (by simp [Value.cells,Value.oneCell'])) ?_
 intro y4 hQ
 replace hP : Hid (Sp w [] w [] [(r2,26, #[.pointer (some ⟨g,0,none⟩)]),(r6,96, #[.map (some mb)])] [(96,0, .map (some mb),0,[])] y4) := hide hQ
 clear hQ
 refine wpO_done ?_
 try go_frame
 try dsimp only
 repeat ((fail_if_success (with_reducible refine wp_reg (id := 4) ?_)); (first | go_values | go_skip | go_step | go_guarded | go_upon | go_in | go_back | fail))
 with_reducible refine wp_reg (id := 4) ?_
 refine (unhide hP).allocO 34 #[.slice none 0 0] rfl (by go_simp) ?_
 intro r7 y5 hQ
 replace hP : Hid (Sp w [] w [] [(r2,26, #[.pointer (some ⟨g,0,none⟩)]),(r6,96, #[.map (some mb)]),(r7,34, #[.slice none 0 0])] [(96,0, .map (some mb),0,[])] y5) := hide hQ
 clear hQ
 refine wpO_done ?_
 try go_frame
 replace hP : Hid (Sp w [] w [] [(r2,26, #[.pointer (some ⟨g,0,none⟩)]),(r6,96, #[.map (some mb)]),(r7,34, #[.slice none 0 0])] [(96,0, .map (some mb),0,mapXs ekS evY ([] : List (SetK × Bool))),(25,16, .slice none 0 0,0,([] : List Nat).flatMap encS)] y5) := hide ((unhide hP).nil 25 16)
 try dsimp only
 repeat ((fail_if_success (with_reducible refine wp_reg (id := 5) ?_)); (first | go_values | go_skip | go_step | go_guarded | go_upon | go_in | go_back | fail))
 with_reducible refine wp_reg (id := 5) ?_
 refine wpO_want rfl ?_
 go_simp
 refine (unhide hP).allocO 98 #[.nilFunc] rfl (by go_simp) ?_
 intro r8 y6 hQ
 replace hP : Hid (Sp w [] w [] [(r2,26, #[.pointer (some ⟨g,0,none⟩)]),(r6,96, #[.map (some mb)]),(r7,34, #[.slice none 0 0]),(r8,98, #[.nilFunc])] [(96,0, .map (some mb),0,mapXs ekS evY ([] : List (SetK × Bool))),(25,16, .slice none 0 0,0,([] : List Nat).flatMap encS)] y6) := hide hQ
 clear hQ
 refine (unhide hP).setO 3 #[.func (.func 51) #[] #[.pointer (some ⟨r2,0,none⟩), .pointer (some ⟨r6,0,none⟩), .pointer (some ⟨r7,0,none⟩)]] rfl rfl (fun hb => run_store_row (v := .func (.func 51) #[] #[.pointer (some ⟨r2,0,none⟩), .pointer (some ⟨r6,0,none⟩), .pointer (some ⟨r7,0,none⟩)]) rfl rfl rfl (by simp [go_sem]) hb rfl (by simp [Value.cells,Value.oneCell'])) ?_
 intro y7 hQ
 replace hP : Hid (Sp w [] w [] [(r2,26, #[.pointer (some ⟨g,0,none⟩)]),(r6,96, #[.map (some mb)]),(r7,34, #[.slice none 0 0]),(r8,98, #[.func (.func 51) #[] #[.pointer (some ⟨r2,0,none⟩), .pointer (some ⟨r6,0,none⟩), .pointer (some ⟨r7,0,none⟩)]])] [(96,0, .map (some mb),0,mapXs ekS evY ([] : List (SetK × Bool))),(25,16, .slice none 0 0,0,([] : List Nat).flatMap encS)] y7) := hide hQ
 clear hQ
 refine wpO_done ?_
 try go_frame
 try dsimp only
 repeat ((fail_if_success (with_reducible refine wp_reg (id := 6) ?_)); (first | go_values | go_skip | go_step | go_guarded | go_upon | go_in | go_back | fail))
 with_reducible refine wp_reg (id := 6) ?_
 refine wpO_val rfl (load_V (v := .pointer (some ⟨g,0,none⟩)) rfl rfl (by simp [go_sem]) (((unhide hP).get 0 rfl).cell 0)) ?_
 go_frame
 refine wpO_want rfl ?_
 go_simp
 refine (vsetG (some ⟨g,0,none⟩) V E _ ((unhide hg').ext (unhide hP).extf)).mono ?_
 rintro _ y8 ⟨rfl,hxc⟩
 refine ⟨_,rfl, ?_⟩
 replace hP : Hid (Sp w [] w [] [(r2,26, #[.pointer (some ⟨g,0,none⟩)]),(r6,96, #[.map (some mb)]),(r7,34, #[.slice none 0 0]),(r8,98, #[.func (.func 51) #[] #[.pointer (some ⟨r2,0,none⟩), .pointer (some ⟨r6,0,none⟩), .pointer (some ⟨r7,0,none⟩)]])] [(96,0, .map (some mb),0,mapXs ekS evY ([] : List (SetK × Bool))),(25,16, .slice none 0 0,0,([] : List Nat).flatMap encS)] y8) := hide ((unhide hP).ext hxc)
 clear hxc
 refine wpO_want rfl ?_
 go_simp
 refine (all_ext (vS V) _).mono ?_
 rintro _ y9 ⟨ba,rfl,hBa0,hxc⟩
 refine ⟨_,rfl, ?_⟩
 replace hP : Hid (Sp w [] w [] [(r2,26, #[.pointer (some ⟨g,0,none⟩)]),(r6,96, #[.map (some mb)]),(r7,34, #[.slice none 0 0]),(r8,98, #[.func (.func 51) #[] #[.pointer (some ⟨r2,0,none⟩), .pointer (some ⟨r6,0,none⟩), .pointer (some ⟨r7,0,none⟩)]])] [(96,0, .map (some mb),0,mapXs ekS evY ([] : List (SetK × Bool))),(25,16, .slice none 0 0,0,([] : List Nat).flatMap encS)] y9) := hide ((unhide hP).ext hxc)
 have hBa := hide hBa0
 clear hxc hBa0
 refine wpO_done ?_
 try go_frame
 go_wp2_with fail
 refine wp_rngS (gf := 109) (lb := #[.pointer (some ⟨ba,0,none⟩)]) (unhide hP) rfl (enters_of Tryz.func109 (by kernel_rfl) rfl) (ex := [0]) ((unhide hP).tab (unhide hT')) (all_iter (vS V) ba y9 (unhide hBa) ((unhide hT').ext (unhide hP).extf)) (fun _ => rfl)
  (fun pre L' Rs' => ∃ A n c M X,n = List.length X ∧ MkOk M X ∧ Fnd V E X ∧ HasV V E pre X ∧ L' = [(r2,26, #[.pointer (some ⟨g,0,none⟩)]),(r6,96, #[.map (some mb)]),(r7,34, #[.slice A n c]),(r8,98, #[.func (.func 51) #[] #[.pointer (some ⟨r2,0,none⟩), .pointer (some ⟨r6,0,none⟩), .pointer (some ⟨r7,0,none⟩)]])] ∧ Rs' = [(96,0, .map (some mb),0,mapXs ekS evY M),(25,16, .slice A n c,n,X.flatMap encS)])
  (fun _ _ _ => False)
  (fun tm _ v a1 _ => a1 = ⟨(tm.setIfInBounds 19 (.int .i64 v)).setIfInBounds 9 (.int .i64 v),[]⟩)
  (fun _ _ _ _ _ h _ => h) ⟨none,0,0,[],[],rfl,MkOk.nil,Fnd.nil,(fun v hv => by cases hv),rfl,rfl⟩ ?_ ?_ ?_ ?_
 ·intro T' v W' K hlt' hsz hK
  have hK' := hide hK
  have hlt2 := hide hlt'
  have hsz2 := hide hsz
  clear hK hlt' hsz
  rw [zip1]
  simp only [List.setIfInBounds_toArray,List.set_cons_succ,List.set_cons_zero]
  try dsimp only
  repeat ((fail_if_success (with_reducible refine wpI_reg (id := 7) (by kernel_rfl) ?_)); (first | go_values | gi_step | gi_guarded | gi_upon | gi_in | gi_back | fail))
  with_reducible refine wpI_reg (id := 7) (by kernel_rfl) ?_
  refine wpO_want rfl ?_
  go_simp
  refine wpO_done ?_
  try go_frame
  exact unhide hK' _ _ rfl (Ext.refl _)
 ·rintro l pre v a1 L' Rs' W' ⟨A,n,c,M,X,hn0,hM0,hF0,hH0,rfl,rfl⟩ hB0 rfl hpx hl hkW htW
  simp only [List.setIfInBounds_toArray,List.set_cons_succ,List.set_cons_zero]
  have hv' := hide (hpx.subset (by simp) : v ∈ toL (vS V))
  have hn := hide hn0
  have hM := hide hM0
  have hF := hide hF0
  have hH := hide hH0
  have hB : Hid (Sp w (stT [(r2,26, #[.pointer (some ⟨g,0,none⟩)]),(r6,96, #[.map (some mb)]),(r7,34, #[.slice A n c]),(r8,98, #[.func (.func 51) #[] #[.pointer (some ⟨r2,0,none⟩), .pointer (some ⟨r6,0,none⟩), .pointer (some ⟨r7,0,none⟩)]])] [(96,0, .map (some mb),0,mapXs ekS evY M),(25,16, .slice A n c,n,X.flatMap encS)]) W' [] [(r2,26, #[.pointer (some ⟨g,0,none⟩)]),(r6,96, #[.map (some mb)]),(r7,34, #[.slice A n c]),(r8,98, #[.func (.func 51) #[] #[.pointer (some ⟨r2,0,none⟩), .pointer (some ⟨r6,0,none⟩), .pointer (some ⟨r7,0,none⟩)]])] [(96,0, .map (some mb),0,mapXs ekS evY M),(25,16, .slice A n c,n,X.flatMap encS)] W') := hide hB0
  clear hB0 hpx hl hkW htW hn0 hM0 hF0 hH0
  gi_wp2_with fail
  have hself := Keep.refl [] W'
  refine wpI_regionK (P := Tryz.prog) [] [0,1,2,3,4,5] [6] 1 #[true,true,true,true,true,true,false] (by kernel_rfl) (by kernel_rfl) (by kernel_rfl) rfl (by rfl) ?_
  refine ql_want (v := .func (.func 51) #[] #[.pointer (some ⟨r2,0,none⟩), .pointer (some ⟨r6,0,none⟩), .pointer (some ⟨r7,0,none⟩)]) rfl (by rfl) (fun W hW => qUpon_ofX (load_V rfl rfl (by simp [go_sem]) ((unhide hB).cellK 3 0 rfl rfl (by simp) W hW))) ?_
  go_frame
  refine ql_want (v := .pointer (some ⟨g,0,none⟩)) rfl (by rfl) (fun W hW => qUpon_ofX (load_V rfl rfl (by simp [go_sem]) ((unhide hB).cellK 0 0 rfl rfl (by simp) W hW))) ?_
  go_frame
  iterate 1
   refine ql_want (v := ?_) rfl (by rfl) (fun W hW => ?_) ?_
   rotate_left
   ·go_simp
    first | done | rfl
   go_frame
  refine ql_want (v := .agg (setC (nearS v E))) rfl (by rfl) (fun W hW => ?_) ?_
  ·go_simp
   refine (nearG (some ⟨g,0,none⟩) V E v W ((unhide hg').ext ((unhide hB).extf.trans ((Ext.refl _).of_new hW (by simp))))).mono ?_
   rintro _ _ ⟨h1,h2⟩
   exact ⟨_,h1,rfl,h2⟩
  go_frame
  iterate 1
   refine ql_want (v := ?_) rfl (by rfl) (fun W hW => ?_) ?_
   rotate_left
   ·go_simp
    first | done | rfl
   go_frame
  refine ql_want (v := .agg (setC (withS (nearS v E) v))) rfl (by rfl) (fun W hW => ?_) ?_
  ·go_simp
   refine (with_any (nearS v E) v W).mono ?_
   rintro _ _ ⟨h1,h2⟩
   exact ⟨_,h1,rfl,h2⟩
  go_frame
  refine wpQL_nil (fun y10 hxq => ?_)
  replace hB : Hid (Sp w (stT [(r2,26, #[.pointer (some ⟨g,0,none⟩)]),(r6,96, #[.map (some mb)]),(r7,34, #[.slice A n c]),(r8,98, #[.func (.func 51) #[] #[.pointer (some ⟨r2,0,none⟩), .pointer (some ⟨r6,0,none⟩), .pointer (some ⟨r7,0,none⟩)]])] [(96,0, .map (some mb),0,mapXs ekS evY M),(25,16, .slice A n c,n,X.flatMap encS)]) W' [] [(r2,26, #[.pointer (some ⟨g,0,none⟩)]),(r6,96, #[.map (some mb)]),(r7,34, #[.slice A n c]),(r8,98, #[.func (.func 51) #[] #[.pointer (some ⟨r2,0,none⟩), .pointer (some ⟨r6,0,none⟩), .pointer (some ⟨r7,0,none⟩)]])] [(96,0, .map (some mb),0,mapXs ekS evY M),(25,16, .slice A n c,n,X.flatMap encS)] y10) := hide ((unhide hB).ext hxq)
  clear hxq
  clear hself
  refine lx_one (i := 6) (by kernel_rfl) rfl (by rfl) #[true,true,true,true,true,true,true] (by rfl) ?_
  go_simp
  have hsi := fun p hp => seed_in (unhide hi') (unhide hv') p hp
  have hca := left_any w r2 r6 r7 mb (some ⟨g,0,none⟩) V E (withS (nearS v E) v) X M A n c y10 ((unhide hB).st.sub (List.sublist_append_left _ ([(r8,98, #[.func (.func 51) #[] #[.pointer (some ⟨r2,0,none⟩), .pointer (some ⟨r6,0,none⟩), .pointer (some ⟨r7,0,none⟩)]])] : List Cl)) (List.Sublist.refl _)) (unhide hB).extf (unhide hi') (unhide hg') (unhide hT') (unhide hn) (unhide hM) (fun ps hp => Nat.le_trans (((unhide hF).left (fun p hq => hsi p (hp p hq))).len (unhide hV')) (by decide))
  refine hca.mono ?_
  clear hca
  rintro _ z9 ⟨rfl,A3,n3,c3,M3,hn9,hM9,hs9,hk9,ht9⟩
  obtain ⟨X3,hX3⟩ : ∃ X3,X3 = leftS E X (partS V E (withS (nearS v E) v)) := ⟨_,rfl⟩
  have hF3 := hide (show Fnd V E X3 by rw [hX3]; exact (unhide hF).left hsi)
  have hH3 := hide (show HasV V E (pre ++ [v]) X3 by rw [hX3]; exact (unhide hH).next v)
  rw [← hX3] at hn9 hM9 hs9 ht9
  have hn3 := hide hn9
  have hM3 := hide hM9
  refine ⟨_,rfl,fun y11 hxd => ?_⟩
  replace hB : Hid (Sp w (stT [(r2,26, #[.pointer (some ⟨g,0,none⟩)]),(r6,96, #[.map (some mb)]),(r7,34, #[.slice A n c]),(r8,98, #[.func (.func 51) #[] #[.pointer (some ⟨r2,0,none⟩), .pointer (some ⟨r6,0,none⟩), .pointer (some ⟨r7,0,none⟩)]])] [(96,0, .map (some mb),0,mapXs ekS evY M),(25,16, .slice A n c,n,X.flatMap encS)]) W' [] [(r2,26, #[.pointer (some ⟨g,0,none⟩)]),(r6,96, #[.map (some mb)]),(r7,34, #[.slice A3 n3 c3]),(r8,98, #[.func (.func 51) #[] #[.pointer (some ⟨r2,0,none⟩), .pointer (some ⟨r6,0,none⟩), .pointer (some ⟨r7,0,none⟩)]])] [(96,0, .map (some mb),0,mapXs ekS evY M3),(25,16, .slice A3 n3 c3,n3,X3.flatMap encS)] y11) := hide ((Sp.frame (L := msL r2 r6 r7 mb (some ⟨g,0,none⟩) A n c) (Rs := msR mb A n c M X) (L2 := [(r8,98, #[.func (.func 51) #[] #[.pointer (some ⟨r2,0,none⟩), .pointer (some ⟨r6,0,none⟩), .pointer (some ⟨r7,0,none⟩)]])]) (R2 := []) (unhide hB) hs9 hk9 ht9).ext hxd)
  clear hxd hn9 hM9 hs9 hk9 ht9 hX3 hsi
  try go_frame
  refine wpX_done (by kernel_rfl) ?_
  try go_frame
  gi_wp2_with fail
  exact ⟨_,_,⟨A3,n3,c3,M3,X3,unhide hn3,unhide hM3,unhide hF3,unhide hH3,rfl,rfl⟩,unhide hB⟩
 ·rintro D L' Rs' W' ⟨A,n,c,M,X,hn0,hM0,hF0,hH0,rfl,rfl⟩ hkW hP0
  generalize ({ target := .collected D,args := #[] } :: [] : List Deferred) = ds2 at hP0 ⊢
  have hn := hide hn0
  have hM := hide hM0
  have hF := hide hF0
  have hH := hide hH0
  clear hkW hP hBa hn0 hM0 hF0 hH0
  have hP : Hid (Sp w [] w ds2 [(r2,26, #[.pointer (some ⟨g,0,none⟩)]),(r6,96, #[.map (some mb)]),(r7,34, #[.slice A n c]),(r8,98, #[.func (.func 51) #[] #[.pointer (some ⟨r2,0,none⟩), .pointer (some ⟨r6,0,none⟩), .pointer (some ⟨r7,0,none⟩)]])] [(96,0, .map (some mb),0,mapXs ekS evY M),(25,16, .slice A n c,n,X.flatMap encS)] W') := hide hP0
  clear hP0
  try dsimp only
  repeat ((fail_if_success (with_reducible refine wp_reg (id := 9) ?_)); (first | go_values | go_skip | go_step | go_guarded | go_upon | go_in | go_back | fail))
  with_reducible refine wp_reg (id := 9) ?_
  refine (unhide hP).allocO 3 #[.int .i64 0] rfl (by go_simp) ?_
  intro r10 y17 hQ
  replace hP : Hid (Sp w [] w ds2 [(r2,26, #[.pointer (some ⟨g,0,none⟩)]),(r6,96, #[.map (some mb)]),(r7,34, #[.slice A n c]),(r8,98, #[.func (.func 51) #[] #[.pointer (some ⟨r2,0,none⟩), .pointer (some ⟨r6,0,none⟩), .pointer (some ⟨r7,0,none⟩)]]),(r10,3, #[.int .i64 0])] [(96,0, .map (some mb),0,mapXs ekS evY M),(25,16, .slice A n c,n,X.flatMap encS)] y17) := hide hQ
  clear hQ
  refine (unhide hP).setO 4 #[.int .i64 0] rfl rfl (fun hb => run_store_row (v := .int .i64 0) rfl rfl rfl (by simp [go_sem]) hb rfl (by simp [Value.cells,Value.oneCell'])) ?_
  intro y18 hQ
  replace hP : Hid (Sp w [] w ds2 [(r2,26, #[.pointer (some ⟨g,0,none⟩)]),(r6,96, #[.map (some mb)]),(r7,34, #[.slice A n c]),(r8,98, #[.func (.func 51) #[] #[.pointer (some ⟨r2,0,none⟩), .pointer (some ⟨r6,0,none⟩), .pointer (some ⟨r7,0,none⟩)]]),(r10,3, #[.int .i64 0])] [(96,0, .map (some mb),0,mapXs ekS evY M),(25,16, .slice A n c,n,X.flatMap encS)] y18) := hide hQ
  clear hQ
  refine wpO_done ?_
  try go_frame
  go_wp2_with fail
  obtain ⟨I18_4,hI18_40⟩ : ∃ I : Nat → Act → World → Prop,I = fun fi a' wr => ∃ (i : Nat), ∃ (b10 : Nat), ∃ (A : Option Addr), ∃ (n : Nat), ∃ (c : Nat), ∃ (M : List (SetK × Bool)), ∃ (X : List Nat),a'.tmps.size = 63 ∧ a'.tmps.getD 1 undef = .int .i64 most ∧ a'.tmps.getD 2 undef = .pointer (some ⟨r2,0,none⟩) ∧ a'.tmps.getD 6 undef = .pointer (some ⟨r6,0,none⟩) ∧ a'.tmps.getD 7 undef = .pointer (some ⟨r7,0,none⟩) ∧ a'.tmps.getD 8 undef = .pointer (some ⟨r8,0,none⟩) ∧ a'.tmps.getD 10 undef = .pointer (some ⟨b10,0,none⟩) ∧ n = X.length ∧ MkOk M X ∧ Fnd V E X ∧ HasV V E (toL (vS V)) X ∧ Dne V E i X ∧ i ≤ X.length ∧ (Sp w [] w a'.defers [(r2,26, #[.pointer (some ⟨g,0,none⟩)]),(r6,96, #[.map (some mb)]),(r7,34, #[.slice A n c]),(r8,98, #[.func (.func 51) #[] #[.pointer (some ⟨r2,0,none⟩), .pointer (some ⟨r6,0,none⟩), .pointer (some ⟨r7,0,none⟩)]]),(b10,3, #[.int .i64 (i : Nat)])] [(96,0, .map (some mb),0,mapXs ekS evY M),(25,16, .slice A n c,n,X.flatMap encS)] wr) ∧ fi = 600 - i := ⟨_,rfl⟩
  have hI18_4 := hide hI18_40
  clear hI18_40
  refine wp_loop_ix I18_4 (600 - 0) ?_ ?_
  ·rw [unhide hI18_4]; exact ⟨0,r10,A,n,c,M,X,rfl,rfl,rfl,rfl,rfl,rfl,rfl,unhide hn,unhide hM,unhide hF,unhide hH,Dne.zero X,Nat.zero_le _,unhide hP,rfl⟩
  ·rintro fi ⟨tm,ds⟩ wr hrel
   rw [unhide hI18_4] at hrel
   obtain ⟨i,b10,A,n,c,M,X,hsz,e1,e2,e6,e7,e8,e10,hn0,hM0,hF0,hH0,hD0,hi0,hPr,hfm⟩ := hrel
   obtain ⟨us,rfl⟩ : ∃ us : Nat → Value,tm = #[us 0,us 1,us 2,us 3,us 4,us 5,us 6,us 7,us 8,us 9,us 10,us 11,us 12,us 13,us 14,us 15,us 16,us 17,us 18,us 19,us 20,us 21,us 22,us 23,us 24,us 25,us 26,us 27,us 28,us 29,us 30,us 31,us 32,us 33,us 34,us 35,us 36,us 37,us 38,us 39,us 40,us 41,us 42,us 43,us 44,us 45,us 46,us 47,us 48,us 49,us 50,us 51,us 52,us 53,us 54,us 55,us 56,us 57,us 58,us 59,us 60,us 61,us 62] := ⟨fun i => tm.getD i undef,arr_fn hsz⟩
   have h1 : us 1 = .int .i64 most := e1
   have h2 : us 2 = .pointer (some ⟨r2,0,none⟩) := e2
   have h6 : us 6 = .pointer (some ⟨r6,0,none⟩) := e6
   have h7 : us 7 = .pointer (some ⟨r7,0,none⟩) := e7
   have h8 : us 8 = .pointer (some ⟨r8,0,none⟩) := e8
   have h10 : us 10 = .pointer (some ⟨b10,0,none⟩) := e10
   dsimp only at hPr
   clear hsz e1 e2 e6 e7 e8 e10
   simp only [h1,h2,h6,h7,h8,h10]
   clear h1 h2 h6 h7 h8 h10
   clear hP hn hM hF hH
   have hP := hide hPr
   have hfm' := hide hfm
   have hn := hide hn0
   have hM := hide hM0
   have hF := hide hF0
   have hH := hide hH0
   have hD := hide hD0
   have hXl := hide (hF0.len (unhide hV'))
   clear hPr hfm hn0 hM0 hF0 hH0 hD0 hi0
   by_cases hlt : i < n
   ·skip
    have hil : (i : Int) < (n : Int) := by omega
    have hlt' := hide hlt
    clear hlt
    try dsimp only
    repeat ((fail_if_success (with_reducible refine wp_reg (id := 10) ?_)); (first | go_values | go_skip | go_step | go_guarded | go_upon | go_in | go_back | fail))
    with_reducible refine wp_reg (id := 10) ?_
    refine wpO_val rfl (load_V (v := .int .i64 (i : Nat)) rfl rfl (by simp [go_sem]) (((unhide hP).get 4 rfl).cell 0)) ?_
    go_frame
    refine wpO_val rfl (load_V (v := .slice A n c) rfl rfl (by simp [go_sem]) (((unhide hP).get 2 rfl).cell 0)) ?_
    go_frame
    iterate 2
     refine wpO_want rfl ?_
     go_simp
    refine wpO_val rfl (run_move rfl rfl) ?_
    go_frame
    clear hil
    by_cases hle : (n : Int) ≤ most
    ·skip
     refine wpO_val rfl (load_V (v := .slice A n c) rfl rfl (by simp [go_sem]) (((unhide hP).get 2 rfl).cell 0)) ?_
     go_frame
     refine wpO_want rfl ?_
     go_simp
     refine wpO_val rfl (run_move rfl rfl) ?_
     go_frame
     iterate 2
      refine wpO_want rfl ?_
      go_simp
     refine wpO_done ?_
     try go_frame
     clear hle
     have hiX : i < X.length := by rw [← unhide hn]; exact unhide hlt'
     have hil : (i : Int) < (n : Int) := by have := unhide hlt'; omega
     have hsl : SlAt encS 16 wr A X := own_at (enc := encS) (by have h := (unhide hP).row 1 rfl; rw [unhide hn] at h; exact h) encS_len
     obtain ⟨b9,o9,rfl,hlt9,hst9⟩ := hsl.set hiX
     obtain ⟨t,ht0⟩ : ∃ t,t = X[i] := ⟨_,rfl⟩
     rw [← ht0] at hst9
     have hst := hide hst9
     have hti := hide (Exists.intro hiX ht0.symm : ∃ h : i < X.length,X[i] = t)
     have hts := hide (show t ∈ sepL V E from (unhide hF).sub _ (by rw [ht0]; exact List.getElem_mem hiX))
     clear hiX hsl hlt9 hst9 ht0
     try dsimp only
     repeat ((fail_if_success (with_reducible refine wp_reg (id := 12) ?_)); (first | go_values | go_skip | go_step | go_guarded | go_upon | go_in | go_back | fail))
     with_reducible refine wp_reg (id := 12) ?_
     refine wpO_val rfl (load_V (v := .slice (some ⟨b9,o9,none⟩) n c) rfl rfl (by simp [go_sem]) (((unhide hP).get 2 rfl).cell 0)) ?_
     go_frame
     refine wpO_val rfl (load_V (v := .int .i64 (i : Nat)) rfl rfl (by simp [go_sem]) (((unhide hP).get 4 rfl).cell 0)) ?_
     go_frame
     refine wpO_want rfl ?_
     go_simp
     clear hil
     refine wpO_val rfl (load_SetR (N := t) rfl rfl (fun j v hv => unhide hst [] _ (Keep.refl [] wr) (by simp) j v hv)) ?_
     try go_frame
     refine wpO_want rfl ?_
     go_simp
     refine (all_ext t _).mono ?_
     rintro _ y19 ⟨bi,rfl,hBa0,hxc⟩
     refine ⟨_,rfl, ?_⟩
     replace hP : Hid (Sp w [] w ds [(r2,26, #[.pointer (some ⟨g,0,none⟩)]),(r6,96, #[.map (some mb)]),(r7,34, #[.slice (some ⟨b9,o9,none⟩) n c]),(r8,98, #[.func (.func 51) #[] #[.pointer (some ⟨r2,0,none⟩), .pointer (some ⟨r6,0,none⟩), .pointer (some ⟨r7,0,none⟩)]]),(b10,3, #[.int .i64 (i : Nat)])] [(96,0, .map (some mb),0,mapXs ekS evY M),(25,16, .slice (some ⟨b9,o9,none⟩) n c,n,X.flatMap encS)] y19) := hide ((unhide hP).ext hxc)
     have hBa := hide hBa0
     clear hxc hBa0
     refine wpO_done ?_
     try go_frame
     clear hst
     go_wp2_with fail
     refine wp_rngS (gf := 109) (lb := #[.pointer (some ⟨bi,0,none⟩)]) (unhide hP) rfl (enters_of Tryz.func109 (by kernel_rfl) rfl) (ex := [0]) ((unhide hP).tab (unhide hT')) (all_iter t bi y19 (unhide hBa) ((unhide hT').ext (unhide hP).extf)) (fun _ => rfl)
      (fun pre L' Rs' => ∃ A2 n2 c2 M2 X2,n2 = List.length X2 ∧ MkOk M2 X2 ∧ Fnd V E X2 ∧ X <+: X2 ∧ HasZ V E t pre X2 ∧ L' = [(r2,26, #[.pointer (some ⟨g,0,none⟩)]),(r6,96, #[.map (some mb)]),(r7,34, #[.slice A2 n2 c2]),(r8,98, #[.func (.func 51) #[] #[.pointer (some ⟨r2,0,none⟩), .pointer (some ⟨r6,0,none⟩), .pointer (some ⟨r7,0,none⟩)]]),(b10,3, #[.int .i64 (i : Nat)])] ∧ Rs' = [(96,0, .map (some mb),0,mapXs ekS evY M2),(25,16, .slice A2 n2 c2,n2,X2.flatMap encS)])
      (fun _ _ _ => False)
      (fun tm _ v a1 _ => a1 = ⟨(tm.setIfInBounds 44 (.int .i64 v)).setIfInBounds 11 (.int .i64 v),[]⟩)
      (fun _ _ _ _ _ h _ => h) ⟨_,n,c,M,X,unhide hn,unhide hM,unhide hF,List.prefix_refl _,(fun v hv => by cases hv),rfl,rfl⟩ ?_ ?_ ?_ ?_
     ·intro T' v W' K hlt' hsz hK
      have hK' := hide hK
      have hlt2 := hide hlt'
      have hsz2 := hide hsz
      clear hK hlt' hsz
      rw [zip1]
      simp only [List.setIfInBounds_toArray,List.set_cons_succ,List.set_cons_zero]
      try dsimp only
      repeat ((fail_if_success (with_reducible refine wpI_reg (id := 13) (by kernel_rfl) ?_)); (first | go_values | gi_step | gi_guarded | gi_upon | gi_in | gi_back | fail))
      with_reducible refine wpI_reg (id := 13) (by kernel_rfl) ?_
      refine wpO_want rfl ?_
      go_simp
      refine wpO_done ?_
      try go_frame
      exact unhide hK' _ _ rfl (Ext.refl _)
     ·rintro l pre v a1 L' Rs' W' ⟨A2,n2,c2,M2,X2,hn0,hM0,hF0,hX0,hH0,rfl,rfl⟩ hB0 rfl hpx hl hkW htW
      simp only [List.setIfInBounds_toArray,List.set_cons_succ,List.set_cons_zero]
      obtain ⟨hiX,hXt⟩ := unhide hti
      have hiX2 : i < X2.length := Nat.lt_of_lt_of_le hiX hX0.length_le
      have hsl : SlAt encS 16 W' A2 X2 := own_at (enc := encS) (by have h := hB0.row 1 rfl; rw [hn0] at h; exact h) encS_len
      obtain ⟨b9',o9',rfl,hlt9,hst9⟩ := hsl.set hiX2
      rw [pre_get hX0 hiX hiX2,hXt] at hst9
      have hst := hide hst9
      have hil : (i : Int) < (n2 : Int) := by omega
      have hv' := hide (hpx.subset (by simp) : v ∈ toL t)
      have hn2 := hide hn0
      have hM2 := hide hM0
      have hF2 := hide hF0
      have hX2 := hide hX0
      have hH2 := hide hH0
      clear hpx hl hkW htW hn0 hM0 hF0 hX0 hH0 hsl hlt9 hst9 hiX hXt hiX2
      have hB : Hid (Sp w (stT [(r2,26, #[.pointer (some ⟨g,0,none⟩)]),(r6,96, #[.map (some mb)]),(r7,34, #[.slice (some ⟨b9',o9',none⟩) n2 c2]),(r8,98, #[.func (.func 51) #[] #[.pointer (some ⟨r2,0,none⟩), .pointer (some ⟨r6,0,none⟩), .pointer (some ⟨r7,0,none⟩)]]),(b10,3, #[.int .i64 (i : Nat)])] [(96,0, .map (some mb),0,mapXs ekS evY M2),(25,16, .slice (some ⟨b9',o9',none⟩) n2 c2,n2,X2.flatMap encS)]) W' [] [(r2,26, #[.pointer (some ⟨g,0,none⟩)]),(r6,96, #[.map (some mb)]),(r7,34, #[.slice (some ⟨b9',o9',none⟩) n2 c2]),(r8,98, #[.func (.func 51) #[] #[.pointer (some ⟨r2,0,none⟩), .pointer (some ⟨r6,0,none⟩), .pointer (some ⟨r7,0,none⟩)]]),(b10,3, #[.int .i64 (i : Nat)])] [(96,0, .map (some mb),0,mapXs ekS evY M2),(25,16, .slice (some ⟨b9',o9',none⟩) n2 c2,n2,X2.flatMap encS)] W') := hide hB0
      clear hB0
      gi_wp2_with fail
      have hself := Keep.refl [] W'
      refine wpI_regionK (P := Tryz.prog) [] [0,1,2,3,4,5,6,7,8] [9] 1 #[true,true,true,true,true,true,true,true,true,false] (by kernel_rfl) (by kernel_rfl) (by kernel_rfl) rfl (by rfl) ?_
      refine ql_want (v := .func (.func 51) #[] #[.pointer (some ⟨r2,0,none⟩), .pointer (some ⟨r6,0,none⟩), .pointer (some ⟨r7,0,none⟩)]) rfl (by rfl) (fun W hW => qUpon_ofX (load_V rfl rfl (by simp [go_sem]) ((unhide hB).cellK 3 0 rfl rfl (by simp) W hW))) ?_
      go_frame
      refine ql_want (v := .slice (some ⟨b9',o9',none⟩) n2 c2) rfl (by rfl) (fun W hW => qUpon_ofX (load_V rfl rfl (by simp [go_sem]) ((unhide hB).cellK 2 0 rfl rfl (by simp) W hW))) ?_
      go_frame
      refine ql_want (v := .int .i64 (i : Nat)) rfl (by rfl) (fun W hW => qUpon_ofX (load_V rfl rfl (by simp [go_sem]) ((unhide hB).cellK 4 0 rfl rfl (by simp) W hW))) ?_
      go_frame
      iterate 1
       refine ql_want (v := ?_) rfl (by rfl) (fun W hW => ?_) ?_
       rotate_left
       ·go_simp
        first | done | rfl
       go_frame
      refine ql_want (v := .agg (setC t)) rfl (by rfl) (fun W hW => qUpon_ofX (load_SetR (N := t) rfl rfl (fun j v hv => unhide hst [] _ hW (by simp) j v hv))) ?_
      go_frame
      refine ql_want (v := .pointer (some ⟨g,0,none⟩)) rfl (by rfl) (fun W hW => qUpon_ofX (load_V rfl rfl (by simp [go_sem]) ((unhide hB).cellK 0 0 rfl rfl (by simp) W hW))) ?_
      go_frame
      iterate 1
       refine ql_want (v := ?_) rfl (by rfl) (fun W hW => ?_) ?_
       rotate_left
       ·go_simp
        first | done | rfl
       go_frame
      refine ql_want (v := .agg (setC (nearS v E))) rfl (by rfl) (fun W hW => ?_) ?_
      ·go_simp
       refine (nearG (some ⟨g,0,none⟩) V E v W ((unhide hg').ext ((unhide hB).extf.trans ((Ext.refl _).of_new hW (by simp))))).mono ?_
       rintro _ _ ⟨h1,h2⟩
       exact ⟨_,h1,rfl,h2⟩
      go_frame
      refine ql_want (v := .agg (setC (t ||| nearS v E))) rfl (by rfl) (fun W hW => ?_) ?_
      ·go_simp
       refine (union_any t (nearS v E) W).mono ?_
       rintro _ _ ⟨h1,h2⟩
       exact ⟨_,h1,rfl,h2⟩
      go_frame
      refine wpQL_nil (fun y20 hxq => ?_)
      replace hB : Hid (Sp w (stT [(r2,26, #[.pointer (some ⟨g,0,none⟩)]),(r6,96, #[.map (some mb)]),(r7,34, #[.slice (some ⟨b9',o9',none⟩) n2 c2]),(r8,98, #[.func (.func 51) #[] #[.pointer (some ⟨r2,0,none⟩), .pointer (some ⟨r6,0,none⟩), .pointer (some ⟨r7,0,none⟩)]]),(b10,3, #[.int .i64 (i : Nat)])] [(96,0, .map (some mb),0,mapXs ekS evY M2),(25,16, .slice (some ⟨b9',o9',none⟩) n2 c2,n2,X2.flatMap encS)]) W' [] [(r2,26, #[.pointer (some ⟨g,0,none⟩)]),(r6,96, #[.map (some mb)]),(r7,34, #[.slice (some ⟨b9',o9',none⟩) n2 c2]),(r8,98, #[.func (.func 51) #[] #[.pointer (some ⟨r2,0,none⟩), .pointer (some ⟨r6,0,none⟩), .pointer (some ⟨r7,0,none⟩)]]),(b10,3, #[.int .i64 (i : Nat)])] [(96,0, .map (some mb),0,mapXs ekS evY M2),(25,16, .slice (some ⟨b9',o9',none⟩) n2 c2,n2,X2.flatMap encS)] y20) := hide ((unhide hB).ext hxq)
      clear hxq
      clear hself hil hst
      refine lx_one (i := 9) (by kernel_rfl) rfl (by rfl) #[true,true,true,true,true,true,true,true,true,true] (by rfl) ?_
      go_simp
      have hsi := fun p hp => step_in (unhide hi') (unhide hts) (unhide hv') p hp
      have hca := left_any w r2 r6 r7 mb (some ⟨g,0,none⟩) V E (t ||| nearS v E) X2 M2 (some ⟨b9',o9',none⟩) n2 c2 y20 ((unhide hB).st.sub (List.sublist_append_left _ ([(r8,98, #[.func (.func 51) #[] #[.pointer (some ⟨r2,0,none⟩), .pointer (some ⟨r6,0,none⟩), .pointer (some ⟨r7,0,none⟩)]]),(b10,3, #[.int .i64 (i : Nat)])] : List Cl)) (List.Sublist.refl _)) (unhide hB).extf (unhide hi') (unhide hg') (unhide hT') (unhide hn2) (unhide hM2) (fun ps hp => Nat.le_trans (((unhide hF2).left (fun p hq => hsi p (hp p hq))).len (unhide hV')) (by decide))
      refine hca.mono ?_
      clear hca
      rintro _ z9 ⟨rfl,A3,n3,c3,M3,hn9,hM9,hs9,hk9,ht9⟩
      obtain ⟨X3,hX3⟩ : ∃ X3,X3 = leftS E X2 (partS V E (t ||| nearS v E)) := ⟨_,rfl⟩
      have hF3 := hide (show Fnd V E X3 by rw [hX3]; exact (unhide hF2).left hsi)
      have hH3 := hide (show HasZ V E t (pre ++ [v]) X3 by rw [hX3]; exact (unhide hH2).next v)
      have hXX := hide (show X <+: X3 by rw [hX3]; exact (unhide hX2).trans (left_pre _ _))
      rw [← hX3] at hn9 hM9 hs9 ht9
      have hn3 := hide hn9
      have hM3 := hide hM9
      refine ⟨_,rfl,fun y21 hxd => ?_⟩
      replace hB : Hid (Sp w (stT [(r2,26, #[.pointer (some ⟨g,0,none⟩)]),(r6,96, #[.map (some mb)]),(r7,34, #[.slice (some ⟨b9',o9',none⟩) n2 c2]),(r8,98, #[.func (.func 51) #[] #[.pointer (some ⟨r2,0,none⟩), .pointer (some ⟨r6,0,none⟩), .pointer (some ⟨r7,0,none⟩)]]),(b10,3, #[.int .i64 (i : Nat)])] [(96,0, .map (some mb),0,mapXs ekS evY M2),(25,16, .slice (some ⟨b9',o9',none⟩) n2 c2,n2,X2.flatMap encS)]) W' [] [(r2,26, #[.pointer (some ⟨g,0,none⟩)]),(r6,96, #[.map (some mb)]),(r7,34, #[.slice A3 n3 c3]),(r8,98, #[.func (.func 51) #[] #[.pointer (some ⟨r2,0,none⟩), .pointer (some ⟨r6,0,none⟩), .pointer (some ⟨r7,0,none⟩)]]),(b10,3, #[.int .i64 (i : Nat)])] [(96,0, .map (some mb),0,mapXs ekS evY M3),(25,16, .slice A3 n3 c3,n3,X3.flatMap encS)] y21) := hide ((Sp.frame (L := msL r2 r6 r7 mb (some ⟨g,0,none⟩) (some ⟨b9',o9',none⟩) n2 c2) (Rs := msR mb (some ⟨b9',o9',none⟩) n2 c2 M2 X2) (L2 := [(r8,98, #[.func (.func 51) #[] #[.pointer (some ⟨r2,0,none⟩), .pointer (some ⟨r6,0,none⟩), .pointer (some ⟨r7,0,none⟩)]]),(b10,3, #[.int .i64 (i : Nat)])]) (R2 := []) (unhide hB) hs9 hk9 ht9).ext hxd)
      clear hxd hn9 hM9 hs9 hk9 ht9 hX3 hsi
      try go_frame
      refine wpX_done (by kernel_rfl) ?_
      try go_frame
      gi_wp2_with fail
      exact ⟨_,_,⟨A3,n3,c3,M3,X3,unhide hn3,unhide hM3,unhide hF3,unhide hXX,unhide hH3,rfl,rfl⟩,unhide hB⟩
     ·rintro D L' Rs' W' ⟨A2,n2,c2,M2,X2,hn0,hM0,hF0,hX0,hH0,rfl,rfl⟩ hkW hP0
      generalize ({ target := .collected D,args := #[] } :: ds : List Deferred) = ds3 at hP0 ⊢
      obtain ⟨hiX,hXt⟩ := unhide hti
      have hn2 := hide hn0
      have hM2 := hide hM0
      have hF2 := hide hF0
      have hHV := hide ((unhide hH).up hX0)
      have hD2 := hide ((unhide hD).next hX0 hiX (by rw [hXt]; exact hH0))
      have hi2 := hide (show i + 1 ≤ X2.length from Nat.le_trans hiX hX0.length_le)
      have hib := hide (show i + 1 ≤ 513 by have := unhide hXl; omega)
      clear hkW hP hBa hn0 hM0 hF0 hX0 hH0 hiX hXt
      have hP : Hid (Sp w [] w ds3 [(r2,26, #[.pointer (some ⟨g,0,none⟩)]),(r6,96, #[.map (some mb)]),(r7,34, #[.slice A2 n2 c2]),(r8,98, #[.func (.func 51) #[] #[.pointer (some ⟨r2,0,none⟩), .pointer (some ⟨r6,0,none⟩), .pointer (some ⟨r7,0,none⟩)]]),(b10,3, #[.int .i64 (i : Nat)])] [(96,0, .map (some mb),0,mapXs ekS evY M2),(25,16, .slice A2 n2 c2,n2,X2.flatMap encS)] W') := hide hP0
      clear hP0
      try dsimp only
      repeat ((fail_if_success (with_reducible refine wp_reg (id := 15) ?_)); (first | go_values | go_skip | go_step | go_guarded | go_upon | go_in | go_back | fail))
      with_reducible refine wp_reg (id := 15) ?_
      refine wpO_val rfl (load_V (v := .int .i64 (i : Nat)) rfl rfl (by simp [go_sem]) (((unhide hP).get 4 rfl).cell 0)) ?_
      go_frame
      refine wpO_done ?_
      try go_frame
      try dsimp only
      repeat ((fail_if_success (with_reducible refine wp_reg (id := 16) ?_)); (first | go_values | go_skip | go_step | go_guarded | go_upon | go_in | go_back | fail))
      with_reducible refine wp_reg (id := 16) ?_
      refine (unhide hP).allocO 3 #[.int .i64 0] rfl (by go_simp) ?_
      intro b11 y31 hQ
      replace hP : Hid (Sp w [] w ds3 [(r2,26, #[.pointer (some ⟨g,0,none⟩)]),(r6,96, #[.map (some mb)]),(r7,34, #[.slice A2 n2 c2]),(r8,98, #[.func (.func 51) #[] #[.pointer (some ⟨r2,0,none⟩), .pointer (some ⟨r6,0,none⟩), .pointer (some ⟨r7,0,none⟩)]]),(b10,3, #[.int .i64 (i : Nat)]),(b11,3, #[.int .i64 0])] [(96,0, .map (some mb),0,mapXs ekS evY M2),(25,16, .slice A2 n2 c2,n2,X2.flatMap encS)] y31) := hide hQ
      clear hQ
      refine (unhide hP).setO 5 #[.int .i64 (i : Nat)] rfl rfl (fun hb => run_store_row (v := .int .i64 (i : Nat)) rfl rfl rfl (by simp [go_sem]) hb rfl (by simp [Value.cells,Value.oneCell'])) ?_
      intro y32 hQ
      replace hP : Hid (Sp w [] w ds3 [(r2,26, #[.pointer (some ⟨g,0,none⟩)]),(r6,96, #[.map (some mb)]),(r7,34, #[.slice A2 n2 c2]),(r8,98, #[.func (.func 51) #[] #[.pointer (some ⟨r2,0,none⟩), .pointer (some ⟨r6,0,none⟩), .pointer (some ⟨r7,0,none⟩)]]),(b10,3, #[.int .i64 (i : Nat)]),(b11,3, #[.int .i64 (i : Nat)])] [(96,0, .map (some mb),0,mapXs ekS evY M2),(25,16, .slice A2 n2 c2,n2,X2.flatMap encS)] y32) := hide hQ
      clear hQ
      refine wpO_done ?_
      try go_frame
      replace hP : Hid (Sp w [] w ds3 [(r2,26, #[.pointer (some ⟨g,0,none⟩)]),(r6,96, #[.map (some mb)]),(r7,34, #[.slice A2 n2 c2]),(r8,98, #[.func (.func 51) #[] #[.pointer (some ⟨r2,0,none⟩), .pointer (some ⟨r6,0,none⟩), .pointer (some ⟨r7,0,none⟩)]]),(b11,3, #[.int .i64 (i : Nat)])] [(96,0, .map (some mb),0,mapXs ekS evY M2),(25,16, .slice A2 n2 c2,n2,X2.flatMap encS)] y32) := hide ((unhide hP).sub (.cons_cons _ (.cons_cons _ (.cons_cons _ (.cons_cons _ (.cons _ (.refl _)))))) (.refl _))
      have hw1 : IntKind.i64.wrap ((i : Int) + 1) = ((i + 1 : Nat) : Int) := by have := unhide hib; rw [IntWalk.i64_in _ (by omega)]; omega
      try dsimp only
      repeat ((fail_if_success (with_reducible refine wp_reg (id := 11) ?_)); (first | go_values | go_skip | go_step | go_guarded | go_upon | go_in | go_back | fail))
      with_reducible refine wp_reg (id := 11) ?_
      refine wpO_val rfl (load_V (v := .int .i64 (i : Nat)) rfl rfl (by simp [go_sem]) (((unhide hP).get 4 rfl).cell 0)) ?_
      go_frame
      refine wpO_want rfl ?_
      go_simp
      clear hw1
      refine (unhide hP).setO 4 #[.int .i64 ((i + 1 : Nat) : Int)] rfl rfl (fun hb => run_store_row (v := .int .i64 ((i + 1 : Nat) : Int)) rfl rfl rfl (by simp [go_sem]) hb rfl (by simp [Value.cells,Value.oneCell'])) ?_
      intro y33 hQ
      replace hP : Hid (Sp w [] w ds3 [(r2,26, #[.pointer (some ⟨g,0,none⟩)]),(r6,96, #[.map (some mb)]),(r7,34, #[.slice A2 n2 c2]),(r8,98, #[.func (.func 51) #[] #[.pointer (some ⟨r2,0,none⟩), .pointer (some ⟨r6,0,none⟩), .pointer (some ⟨r7,0,none⟩)]]),(b11,3, #[.int .i64 ((i + 1 : Nat) : Int)])] [(96,0, .map (some mb),0,mapXs ekS evY M2),(25,16, .slice A2 n2 c2,n2,X2.flatMap encS)] y33) := hide hQ
      clear hQ
      refine wpO_done ?_
      try go_frame
      go_wp2_with fail
      refine ⟨600 - (i + 1), ?_,by have := unhide hfm'; have := unhide hib; omega⟩
      rw [unhide hI18_4]
      exact ⟨i + 1,b11,A2,n2,c2,M2,X2,(by first | rfl | trivial),(by first | rfl | trivial),(by first | rfl | trivial),(by first | rfl | trivial),(by first | rfl | trivial),(by first | rfl | trivial),(by first | rfl | trivial),unhide hn2,unhide hM2,unhide hF2,unhide hHV,unhide hD2,unhide hi2,unhide hP,rfl⟩
     ·intro D c L' Rs' W' h
      exact h.elim
    ·skip
     have hgt : most < (n : Int) := by omega
     refine wpO_val rfl (load_V (v := .slice A n c) rfl rfl (by simp [go_sem]) (((unhide hP).get 2 rfl).cell 0)) ?_
     go_frame
     refine wpO_want rfl ?_
     go_simp
     refine wpO_val rfl (run_move rfl rfl) ?_
     go_frame
     iterate 2
      refine wpO_want rfl ?_
      go_simp
     refine wpO_done ?_
     try go_frame
     clear hle
     have hgt' := hide hgt
     have hng : (n : Int) > most := hgt
     try dsimp only
     repeat ((fail_if_success (with_reducible refine wp_reg (id := 17) ?_)); (first | go_values | go_skip | go_step | go_guarded | go_upon | go_in | go_back | fail))
     with_reducible refine wp_reg (id := 17) ?_
     refine wpO_val rfl (load_V (v := .slice A n c) rfl rfl (by simp [go_sem]) (((unhide hP).get 2 rfl).cell 0)) ?_
     go_frame
     refine wpO_want rfl ?_
     go_simp
     refine wpO_val rfl (run_move rfl rfl) ?_
     go_frame
     refine wpO_want rfl ?_
     go_simp
     refine wpO_done ?_
     try go_frame
     clear hgt hng
     try dsimp only
     repeat ((fail_if_success (with_reducible refine wp_reg (id := 18) ?_)); (first | go_values | go_skip | go_step | go_guarded | go_upon | go_in | go_back | fail))
     with_reducible refine wp_reg (id := 18) ?_
     iterate 2
      refine wpO_want rfl ?_
      go_simp
     refine wpO_done ?_
     try go_frame
     go_wp2_with fail
     have hre : msA V E most = ([],8) := by
      unfold msA
      have h1 := (unhide hF).le
      have h2 := unhide hn
      have h3 := unhide hgt'
      rw [if_pos (by omega)]
     refine (unhide hP).leaves ?_
     intro w' hx hst
     rw [hre]
     exact ⟨_,results_tmp2 (t := 4) (u := 5) rfl _ _ _,MsPost.mk rfl rfl (World.ownsRow_nil _ _ _ _) hx⟩
   ·skip
    have hil : ¬ (i : Int) < (n : Int) := by omega
    try dsimp only
    repeat ((fail_if_success (with_reducible refine wp_reg (id := 10) ?_)); (first | go_values | go_skip | go_step | go_guarded | go_upon | go_in | go_back | fail))
    with_reducible refine wp_reg (id := 10) ?_
    refine wpO_val rfl (load_V (v := .int .i64 (i : Nat)) rfl rfl (by simp [go_sem]) (((unhide hP).get 4 rfl).cell 0)) ?_
    go_frame
    refine wpO_val rfl (load_V (v := .slice A n c) rfl rfl (by simp [go_sem]) (((unhide hP).get 2 rfl).cell 0)) ?_
    go_frame
    iterate 2
     refine wpO_want rfl ?_
     go_simp
    refine wpO_val rfl (run_move rfl rfl) ?_
    go_frame
    clear hil
    refine wpO_out (by rfl) ?_
    go_frame
    refine wpO_out (by rfl) ?_
    go_frame
    refine wpO_out (by rfl) ?_
    go_frame
    refine wpO_out (by rfl) ?_
    go_frame
    refine wpO_want rfl ?_
    go_simp
    refine wpO_done ?_
    try go_frame
    by_cases hle : (n : Int) ≤ most
    ·skip
     have hng : ¬ (n : Int) > most := by omega
     have hni := hide hlt
     have hle' := hide hle
     have hre := hide (show (sepL V E).Perm X from found_all (unhide hi') (unhide hF) (unhide hH) (unhide hD) (by have := unhide hn; omega))
     obtain ⟨sl,hsl⟩ : ∃ l,l = sepL V E := ⟨_,rfl⟩
     have hso := hide (show sl.Pairwise ltS by rw [hsl]; exact lt_sorted (sepL_R (unhide hi')) (sepL_sorted (unhide hi')))
     have hms := hide (show msA V E most = (sl,0) by
      unfold msA
      have h1 := (unhide hre).length_eq
      have h2 := unhide hn
      rw [if_neg (by omega),hsl])
     rw [← hsl] at hre
     clear hsl hlt
     try dsimp only
     repeat ((fail_if_success (with_reducible refine wp_reg (id := 17) ?_)); (first | go_values | go_skip | go_step | go_guarded | go_upon | go_in | go_back | fail))
     with_reducible refine wp_reg (id := 17) ?_
     refine wpO_val rfl (load_V (v := .slice A n c) rfl rfl (by simp [go_sem]) (((unhide hP).get 2 rfl).cell 0)) ?_
     go_frame
     refine wpO_want rfl ?_
     go_simp
     refine wpO_val rfl (run_move rfl rfl) ?_
     go_frame
     refine wpO_want rfl ?_
     go_simp
     refine wpO_done ?_
     try go_frame
     clear hle hng
     try dsimp only
     repeat ((fail_if_success (with_reducible refine wp_reg (id := 19) ?_)); (first | go_values | go_skip | go_step | go_guarded | go_upon | go_in | go_back | fail))
     with_reducible refine wp_reg (id := 19) ?_
     refine wpO_val rfl (load_V (v := .slice A n c) rfl rfl (by simp [go_sem]) (((unhide hP).get 2 rfl).cell 0)) ?_
     go_frame
     refine wpO_want rfl ?_
     go_simp
     have hca := sortS_any w.heap.size (.slice A n c) X sl wr (by have h := (unhide hP).row 1 rfl; rw [unhide hn] at h ⊢; exact h) (unhide hre) (unhide hso) (by have := unhide hXl; omega)
     refine hca.mono ?_
     clear hca
     rintro _ y19 ⟨rfl,ho,hgr⟩
     refine ⟨_,rfl, ?_⟩
     rw [← unhide hn] at ho
     replace hP := hide ((unhide hP).sorted 1 (by decide) rfl ho hgr)
     replace hP : Hid (Sp w [] w ds [(r2,26, #[.pointer (some ⟨g,0,none⟩)]),(r6,96, #[.map (some mb)]),(r7,34, #[.slice A n c]),(r8,98, #[.func (.func 51) #[] #[.pointer (some ⟨r2,0,none⟩), .pointer (some ⟨r6,0,none⟩), .pointer (some ⟨r7,0,none⟩)]]),(b10,3, #[.int .i64 (i : Nat)])] [(96,0, .map (some mb),0,mapXs ekS evY M),(25,16, .slice A n c,n,sl.flatMap encS)] y19) := hP
     clear ho hgr
     try go_frame
     refine wpO_done ?_
     try go_frame
     try dsimp only
     repeat ((fail_if_success (with_reducible refine wp_reg (id := 20) ?_)); (first | go_values | go_skip | go_step | go_guarded | go_upon | go_in | go_back | fail))
     with_reducible refine wp_reg (id := 20) ?_
     refine wpO_val rfl (load_V (v := .slice A n c) rfl rfl (by simp [go_sem]) (((unhide hP).get 2 rfl).cell 0)) ?_
     go_frame
     iterate 2
      refine wpO_want rfl ?_
      go_simp
     refine wpO_done ?_
     try go_frame
     go_wp2_with fail
     refine (unhide hP).leaves ?_
     intro w' hx hst
     rw [unhide hms]
     exact ⟨_,results_tmp2 (t := 4) (u := 5) rfl _ _ _,MsPost.mk (by rw [unhide hn]; exact (unhide hre).length_eq.symm) rfl (hst.row 1 rfl) hx⟩
    ·skip
     have hgt : most < (n : Int) := by omega
     clear hle hlt
     have hgt' := hide hgt
     have hng : (n : Int) > most := hgt
     try dsimp only
     repeat ((fail_if_success (with_reducible refine wp_reg (id := 17) ?_)); (first | go_values | go_skip | go_step | go_guarded | go_upon | go_in | go_back | fail))
     with_reducible refine wp_reg (id := 17) ?_
     refine wpO_val rfl (load_V (v := .slice A n c) rfl rfl (by simp [go_sem]) (((unhide hP).get 2 rfl).cell 0)) ?_
     go_frame
     refine wpO_want rfl ?_
     go_simp
     refine wpO_val rfl (run_move rfl rfl) ?_
     go_frame
     refine wpO_want rfl ?_
     go_simp
     refine wpO_done ?_
     try go_frame
     clear hgt hng
     try dsimp only
     repeat ((fail_if_success (with_reducible refine wp_reg (id := 18) ?_)); (first | go_values | go_skip | go_step | go_guarded | go_upon | go_in | go_back | fail))
     with_reducible refine wp_reg (id := 18) ?_
     iterate 2
      refine wpO_want rfl ?_
      go_simp
     refine wpO_done ?_
     try go_frame
     go_wp2_with fail
     have hre : msA V E most = ([],8) := by
      unfold msA
      have h1 := (unhide hF).le
      have h2 := unhide hn
      have h3 := unhide hgt'
      rw [if_pos (by omega)]
     refine (unhide hP).leaves ?_
     intro w' hx hst
     rw [hre]
     exact ⟨_,results_tmp2 (t := 4) (u := 5) rfl _ _ _,MsPost.mk rfl rfl (World.ownsRow_nil _ _ _ _) hx⟩
 ·intro D c L' Rs' W' h
  exact h.elim
end Go.Proofs.YtmokciekndllpaaGreatDoor
