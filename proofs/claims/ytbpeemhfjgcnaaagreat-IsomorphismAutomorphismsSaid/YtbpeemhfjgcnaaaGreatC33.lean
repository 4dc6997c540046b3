/- Parts of a proof, laid together. Each part says its own conditions. -/
import Derived.Test.YtbpeemhfjgcnaaaGreatC28
import Derived.Test.YtbpeemhfjgcnaaaGreatC31
namespace Go.Proofs.YtbpeemhfjgcnaaaGreat
open Go Go.RowKit Go.Shelf
attribute [local go_sem] qUpon lUpon
attribute [local irreducible] wpO wpX wpQL
theorem place_any {b2 b3 b4 b5 nv cv fd : Nat} {Av : Option Addr} {V ws : List (Int × Thing)} {caps : Array Value} {J : List (List Int) → List Nat → World → Prop} (hC : Tell fd caps none nv J) (hnv : nv = ws.length) (hl : nv ≤ 8) (hnd : (ws.map (·.1)).Nodup) (hth : ∀ p ∈ ws,thV V p.1 = p.2) : ∀ (f n : Nat),n + f = nv →
  ∀ (told : List (List Int)) (T : List Nat) (w : World) (A : Option Addr) (c : Nat) (xs : List Int) (u : Nat),PlH J (FxN b2 b3 b4 b5 Av nv cv ws fd caps) (tfN b2 b3 b4 b5 Av) told T (.slice A n c) n xs w → n = xs.length → UsedI ws u xs → u < 256 → Calls Tryz.prog 75 #[.slice A n c, .int .i64 u, .pointer (some ⟨b2,0,none⟩), .pointer (some ⟨b3,0,none⟩), .pointer (some ⟨b4,0,none⟩), .pointer (some ⟨b5,0,none⟩)] w (PlPost J T (.slice A n c) n xs w (told ++ extL V [] (ws.map (·.1)) V [] (ws.map (·.1)) f xs)) := by
 intro f
 induction f with
 | zero =>
  intro n hnf told T w A c xs u h hn _ _
  have h1 := place_end (b2 := b2) (b3 := b3) (b4 := b4) (b5 := b5) (cv := cv) (Av := Av) hC hnv told T w A n c xs u h hn (by omega)
  rw [show (#[Value.slice A n c, .int .i64 u] ++ #[.pointer (some ⟨b2,0,none⟩), .pointer (some ⟨b3,0,none⟩), .pointer (some ⟨b4,0,none⟩), .pointer (some ⟨b5,0,none⟩)] : Array Value) = #[.slice A n c, .int .i64 u, .pointer (some ⟨b2,0,none⟩), .pointer (some ⟨b3,0,none⟩), .pointer (some ⟨b4,0,none⟩), .pointer (some ⟨b5,0,none⟩)] from rfl] at h1
  exact h1
 | succ f ih =>
  intro n hnf told T w A c xs u h hn hu hu8
  exact place_level hC hnv hl hnd hth n f hnf (ih (n + 1) (by omega)) told T w A c xs u h hn hu hu8
def NumPost (J : List (List Int) → List Nat → World → Prop) (T : List Nat) (V : List (Int × Thing)) (w : World) (told : List (List Int)) (e : Ending) (w' : World) : Prop := e = .returned (.tuple #[]) ∧ ∃ (ws : List (Int × Thing)) (T' : List Nat),ws.Perm V ∧ ws.Pairwise (fun a b : Int × Thing => tlt b.2 a.2 = false) ∧ J (told ++ numbL V (ws.map (·.1))) T' w' ∧ Keep T w w' ∧ ∀ x ∈ T',x ∈ T ∨ w.heap.size ≤ x
set_option maxRecDepth 100000 in
set_option maxHeartbeats 16000000 in
theorem numberings_any {fd : Nat} {caps : Array Value} {J : List (List Int) → List Nat → World → Prop} {nv : Nat} (hC : Tell fd caps none nv J) (A : Option Addr) (V : List (Int × Thing)) (E : List ((Int × Int) × Thing)) (cA : Nat) (w : World) (told : List (List Int)) (T : List Nat) (hA : SlAt encV 3 w A V) (hi : GInv V E) (hn : nv = V.length) (hl : nv ≤ 8) (hj : J told T w) :
  Calls Tryz.prog 40 #[.slice A nv cA, .func (.func fd) #[] caps] w (NumPost J T V w told) := by
 have hC' := hide hC
 have hA' := hide hA
 have hi' := hide hi
 have hn' := hide hn
 have hl' := hide hl
 have hj' := hide hj
 have hTw := hide (hC.lt _ _ _ hj)
 clear hC hA hi hn hl hj
 have hP := hide (Sp.new w)
 refine callsIn_wide.1 (callsIn_of_wp_marks (n := 0) Tryz.func40 rfl trivial (wpIn_wide.2 ?_))
 simp only [Tryz.ntmps40,List.size_toArray,List.length_cons,List.length_nil,Nat.reduceAdd,Nat.reduceSub,Array.replicate_succ,Array.replicate_zero,List.push_toArray,List.append_toArray,List.nil_append,List.cons_append]
 try dsimp only
 repeat ((fail_if_success (with_reducible refine wp_reg (id := 0) ?_)); (first | go_values | go_skip | go_step | go_guarded | go_upon | go_in | go_back | fail))
 with_reducible refine wp_reg (id := 0) ?_
 refine (unhide hP).allocO 82 #[.slice A nv cA] rfl (run_box (v := .slice A nv cA) rfl rfl) ?_
 intro r2 y1 hQ
 replace hP : Hid (Sp w [] w [] [(r2,82, #[.slice A nv cA])] [] y1) := hide hQ
 clear hQ
 refine (unhide hP).allocO 95 #[.func (.func fd) #[] caps] rfl (run_box (v := .func (.func fd) #[] caps) rfl rfl) ?_
 intro r3 y2 hQ
 replace hP : Hid (Sp w [] w [] [(r2,82, #[.slice A nv cA]),(r3,95, #[.func (.func fd) #[] caps])] [] y2) := hide hQ
 clear hQ
 refine wpO_done ?_
 try go_frame
 try dsimp only
 repeat ((fail_if_success (with_reducible refine wp_reg (id := 1) ?_)); (first | go_values | go_skip | go_step | go_guarded | go_upon | go_in | go_back | fail))
 with_reducible refine wp_reg (id := 1) ?_
 refine wpO_val rfl (load_V (v := .slice A nv cA) rfl rfl (by simp [go_sem]) (((unhide hP).get 0 rfl).cell 0)) ?_
 go_frame
 refine wpO_want rfl ?_
 go_simp
 refine (cloneV_any A V nv cA y2 ((unhide hA').ext (unhide hP).extf) (unhide hn') (by have := unhide hl'; omega)).mono ?_
 rintro _ y3 ⟨A1,n1,c1,rfl,hn1,ho1,hxc⟩
 obtain rfl : nv = n1 := by rw [hn1]; exact unhide hn'
 refine ⟨_,rfl, ?_⟩
 replace hP : Hid (Sp w [] w [] [(r2,82, #[.slice A nv cA]),(r3,95, #[.func (.func fd) #[] caps])] [(81,3, .slice A1 nv c1,nv,V.flatMap encV)] y3) := hide ((unhide hP).addRow hxc ho1)
 clear hxc ho1 hn1
 refine (unhide hP).setO 0 #[.slice A1 nv c1] rfl rfl (fun hb => run_store_row (v := .slice A1 nv c1) rfl rfl rfl (by simp [go_sem]) hb rfl (by simp [Value.cells,Value.oneCell'])) ?_
 intro y4 hQ
 replace hP : Hid (Sp w [] w [] [(r2,82, #[.slice A1 nv c1]),(r3,95, #[.func (.func fd) #[] caps])] [(81,3, .slice A1 nv c1,nv,V.flatMap encV)] y4) := hide hQ
 clear hQ
 refine wpO_done ?_
 try go_frame
 try dsimp only
 repeat ((fail_if_success (with_reducible refine wp_reg (id := 2) ?_)); (first | go_values | go_skip | go_step | go_guarded | go_upon | go_in | go_back | fail))
 with_reducible refine wp_reg (id := 2) ?_
 refine (unhide hP).allocO 134 #[.nilFunc] rfl (by go_simp) ?_
 intro r4 y5 hQ
 replace hP : Hid (Sp w [] w [] [(r2,82, #[.slice A1 nv c1]),(r3,95, #[.func (.func fd) #[] caps]),(r4,134, #[.nilFunc])] [(81,3, .slice A1 nv c1,nv,V.flatMap encV)] y5) := hide hQ
 clear hQ
 refine (unhide hP).setO 2 #[.func (.func 71) #[] #[]] rfl rfl (fun hb => run_store_row (v := .func (.func 71) #[] #[]) rfl rfl rfl (by simp [go_sem]) hb rfl (by simp [Value.cells,Value.oneCell'])) ?_
 intro y6 hQ
 replace hP : Hid (Sp w [] w [] [(r2,82, #[.slice A1 nv c1]),(r3,95, #[.func (.func fd) #[] caps]),(r4,134, #[.func (.func 71) #[] #[]])] [(81,3, .slice A1 nv c1,nv,V.flatMap encV)] y6) := hide hQ
 clear hQ
 refine wpO_done ?_
 try go_frame
 try dsimp only
 repeat ((fail_if_success (with_reducible refine wp_reg (id := 3) ?_)); (first | go_values | go_skip | go_step | go_guarded | go_upon | go_in | go_back | fail))
 with_reducible refine wp_reg (id := 3) ?_
 refine wpO_val rfl (load_V (v := .slice A1 nv c1) rfl rfl (by simp [go_sem]) (((unhide hP).get 0 rfl).cell 0)) ?_
 go_frame
 refine wpO_val rfl (load_V (v := .func (.func 71) #[] #[]) rfl rfl (by simp [go_sem]) (((unhide hP).get 2 rfl).cell 0)) ?_
 go_frame
 refine wpO_want rfl ?_
 go_simp
 refine (stableF_any w.heap.size A1 V nv c1 y6 ((unhide hP).row 0 rfl) (unhide hn') (unhide hl')).mono ?_
 rintro _ y7 ⟨rfl,ys,hyp,hys,hown,hg⟩
 refine ⟨_,rfl, ?_⟩
 replace hP : Hid (Sp w [] w [] [(r2,82, #[.slice A1 nv c1]),(r3,95, #[.func (.func fd) #[] caps]),(r4,134, #[.func (.func 71) #[] #[]])] [(81,3, .slice A1 nv c1,nv,ys.flatMap encV)] y7) := hide ((unhide hP).push 0 (by decide) rfl (Ext.refl y6) hown hg (.inl rfl))
 have hyp' := hide hyp
 have hys' := hide hys
 clear hown hg hyp hys
 refine wpO_done ?_
 try go_frame
 try dsimp only
 repeat ((fail_if_success (with_reducible refine wp_reg (id := 4) ?_)); (first | go_values | go_skip | go_step | go_guarded | go_upon | go_in | go_back | fail))
 with_reducible refine wp_reg (id := 4) ?_
 refine (unhide hP).allocO 136 #[.nilFunc] rfl (by go_simp) ?_
 intro r5 y8 hQ
 replace hP : Hid (Sp w [] w [] [(r2,82, #[.slice A1 nv c1]),(r3,95, #[.func (.func fd) #[] caps]),(r4,134, #[.func (.func 71) #[] #[]]),(r5,136, #[.nilFunc])] [(81,3, .slice A1 nv c1,nv,ys.flatMap encV)] y8) := hide hQ
 clear hQ
 refine wpO_done ?_
 try go_frame
 try dsimp only
 repeat ((fail_if_success (with_reducible refine wp_reg (id := 5) ?_)); (first | go_values | go_skip | go_step | go_guarded | go_upon | go_in | go_back | fail))
 with_reducible refine wp_reg (id := 5) ?_
 refine wpO_want rfl ?_
 go_simp
 refine (unhide hP).setO 3 #[.func (.func 75) #[] #[.pointer (some ⟨r2,0,none⟩), .pointer (some ⟨r3,0,none⟩), .pointer (some ⟨r4,0,none⟩), .pointer (some ⟨r5,0,none⟩)]] rfl rfl (fun hb => run_store_row (v := .func (.func 75) #[] #[.pointer (some ⟨r2,0,none⟩), .pointer (some ⟨r3,0,none⟩), .pointer (some ⟨r4,0,none⟩), .pointer (some ⟨r5,0,none⟩)]) rfl rfl rfl (by simp [go_sem]) hb rfl (by simp [Value.cells,Value.oneCell'])) ?_
 intro y9 hQ
 replace hP : Hid (Sp w [] w [] [(r2,82, #[.slice A1 nv c1]),(r3,95, #[.func (.func fd) #[] caps]),(r4,134, #[.func (.func 71) #[] #[]]),(r5,136, #[.func (.func 75) #[] #[.pointer (some ⟨r2,0,none⟩), .pointer (some ⟨r3,0,none⟩), .pointer (some ⟨r4,0,none⟩), .pointer (some ⟨r5,0,none⟩)]])] [(81,3, .slice A1 nv c1,nv,ys.flatMap encV)] y9) := hide hQ
 clear hQ
 refine wpO_done ?_
 try go_frame
 try dsimp only
 repeat ((fail_if_success (with_reducible refine wp_reg (id := 6) ?_)); (first | go_values | go_skip | go_step | go_guarded | go_upon | go_in | go_back | fail))
 with_reducible refine wp_reg (id := 6) ?_
 refine wpO_val rfl (load_V (v := .func (.func 75) #[] #[.pointer (some ⟨r2,0,none⟩), .pointer (some ⟨r3,0,none⟩), .pointer (some ⟨r4,0,none⟩), .pointer (some ⟨r5,0,none⟩)]) rfl rfl (by simp [go_sem]) (((unhide hP).get 3 rfl).cell 0)) ?_
 go_frame
 refine wpO_want rfl ?_
 go_simp
 have hyl := hide (show nv = ys.length by rw [(unhide hyp').length_eq]; exact unhide hn')
 have hx := hide (unhide hP).extf
 have hge : ∀ x,x ∈ tfN r2 r3 r4 r5 A1 → w.heap.size ≤ x ∧ x < y9.heap.size := fun x hm => by
  have hmem : x ∈ stT [(r2,82, #[.slice A1 nv c1]),(r3,95, #[.func (.func fd) #[] caps]),(r4,134, #[.func (.func 71) #[] #[]]),(r5,136, #[.func (.func 75) #[] #[.pointer (some ⟨r2,0,none⟩), .pointer (some ⟨r3,0,none⟩), .pointer (some ⟨r4,0,none⟩), .pointer (some ⟨r5,0,none⟩)]])] [(81,3, .slice A1 nv c1,nv,ys.flatMap encV)] := by
   simp only [tfN,List.mem_cons] at hm
   rcases hm with rfl | rfl | rfl | rfl | hm
   ·exact List.mem_append.2 (.inl (by simp))
   ·exact List.mem_append.2 (.inl (by simp))
   ·exact List.mem_append.2 (.inl (by simp))
   ·exact List.mem_append.2 (.inl (by simp))
   ·refine List.mem_append.2 (.inr ?_)
    cases A1 with
    | none => simp [blkA] at hm
    | some a => simpa [rwT,rwB,blkA,Value.ownBlock] using hm
  exact ⟨(unhide hP).st.ge x hmem,(unhide hP).st.lt x hmem⟩
 have hge' := hide hge
 have hH := hide (show PlH J (FxN r2 r3 r4 r5 A1 nv c1 ys fd caps) (tfN r2 r3 r4 r5 A1) told T (.slice none 0 0) 0 [] y9 from
  ⟨⟨(unhide hP).get 0 rfl,(unhide hP).get 1 rfl,(unhide hP).get 2 rfl,(unhide hP).get 3 rfl,own_at (by have h := (unhide hP).row 0 rfl; rw [unhide hyl] at h; exact h) (fun _ => rfl)⟩,
   (unhide hC').keep _ _ _ _ [] (unhide hj') ((unhide hx).keep []) (by simp),World.ownsRow_nil _ _ _ _,
   fun x hm => ⟨(unhide hge' x hm).2,fun hT => by have := unhide hTw x hT; have := (unhide hge' x hm).1; omega⟩,fun x hm => by cases hm⟩)
 have hnd := hide (show (ys.map (·.1)).Nodup from (List.Perm.map (fun p : Int × Thing => p.1) (unhide hyp')).nodup_iff.2 (unhide hi').idsN)
 have hth := hide (show ∀ p ∈ ys,thV V p.1 = p.2 from fun p hp => th_mem (unhide hi') ((unhide hyp').mem_iff.1 hp))
 have hca := hide (place_any (V := V) (unhide hC') (unhide hyl) (unhide hl') (unhide hnd) (unhide hth) nv 0 (Nat.zero_add _) told T y9 none 0 [] 0 (unhide hH) rfl (fun i hi => by simp) (by decide))
 refine Calls.mono (unhide hca) ?_
 rintro _ W9 ⟨rfl,hp9⟩
 refine ⟨_,rfl, ?_⟩
 have hfin : NumPost J T V w told (.returned (.tuple #[])) W9 := by
  obtain ⟨T',h1,h2⟩ := hp9.j
  refine ⟨rfl,ys,T',unhide hyp',unhide hys', ?_, ?_,fun x hm => ?_⟩
  ·unfold numbL
   rw [List.length_map, ← unhide hyl]
   exact h1
  ·have hk := hp9.keep
   simp only [Value.ownBlock,Option.toList,List.append_nil] at hk
   exact ((unhide hx).keep T).trans hk
  ·rcases h2 x hm with h3 | h3
   ·exact .inl h3
   ·exact .inr (Nat.le_trans (Below.size (unhide hx)) h3)
 have hfin' := hide hfin
 clear hfin hp9 hca hH hge hge'
 refine wpO_done ?_
 try go_frame
 go_wp2_with fail
 refine Sp.leaves0 ?_
 exact ⟨_,results_none rfl _ _ _,unhide hfin'⟩
end Go.Proofs.YtbpeemhfjgcnaaaGreat
