/- Parts of a proof, laid together. Each part says its own conditions. -/
import Derived.Test.YtmokciekndllpaaGreatDoorC30
import Derived.Test.YtmokciekndllpaaGreatDoorC26
import Derived.Test.YtmokciekndllpaaGreatDoorC20
import Derived.Test.YtmokciekndllpaaGreatDoorC17
import Derived.Test.YtmokciekndllpaaGreatDoorC25
import Derived.WalkMore
namespace Go.Proofs.YtmokciekndllpaaGreatDoor
open Go Go.RowKit Go.Shelf
attribute [local go_sem] qUpon lUpon
set_option maxRecDepth 100000 in
set_option maxHeartbeats 8000000 in
theorem clique_any (og : Option Addr) (V : List (Int × Thing)) (E : List ((Int × Int) × Thing)) (r : Nat) (w : World) (hg : GL w og V E) (hT : Tab w) :
  Calls Tryz.prog 97 #[.pointer og, .agg (setC r)] w fun e w' => e = .returned (.bool (cliqueS E r)) ∧ Ext w w' := by
 have hg' := hide hg
 have hT' := hide hT
 have hTl := hide hT.lt
 have hBp := hide (((Blk.new w 26 #[.pointer og]).ext (ext_self1 _ (.cells (setC r) 25))).ext (ext_self1 _ (.cells #[.bool false] 4)))
 have hBs := hide ((Blk.new (w.alloc (.cells #[.pointer og] 26)) 25 (setC r)).ext (ext_self1 _ (.cells #[.bool false] 4)))
 have hBr := hide (Blk.new ((w.alloc (.cells #[.pointer og] 26)).alloc (.cells (setC r) 25)) 4 #[.bool false])
 have hx1 := hide (ext_self3 w (.cells #[.pointer og] 26) (.cells (setC r) 25) (.cells #[.bool false] 4))
 simp only [World.size_alloc] at hBs hBr
 clear hg hT
 refine callsIn_wide.1 (callsIn_of_wp_marks (n := 0) Tryz.func97 rfl trivial (wpIn_wide.2 ?_))
 simp only [Tryz.ntmps97,List.size_toArray,List.length_cons,List.length_nil,Nat.reduceAdd,Nat.reduceSub,Array.replicate_succ,Array.replicate_zero,List.push_toArray,List.append_toArray,List.nil_append,List.cons_append]
 try dsimp only
 repeat ((fail_if_success (with_reducible refine wp_reg (id := 1) ?_)); (first | go_values | go_skip | go_step | go_guarded | go_upon | go_in | go_back | fail))
 with_reducible refine wp_reg (id := 1) ?_
 generalize ((w.alloc (.cells #[.pointer og] 26)).alloc (.cells (setC r) 25)).alloc (.cells #[.bool false] 4) = w2 at *
 refine wpO_val rfl (load_SetR (N := r) rfl rfl (unhide hBs).whole) ?_
 refine wpO_want rfl ?_
 go_simp
 refine (all_any r w2).mono ?_
 rintro e w3 ⟨rfl,rfl⟩
 refine ⟨_,rfl, ?_⟩
 refine wpO_done ?_
 try go_frame
 have hBa := hide (Blk.new w2 25 (setC r))
 have hx3 := hide ((unhide hx1).trans (ext_self1 w2 (.cells (setC r) 25)))
 have hBp3 := hide ((unhide hBp).ext (ext_self1 w2 (.cells (setC r) 25)))
 have hBs3 := hide ((unhide hBs).ext (ext_self1 w2 (.cells (setC r) 25)))
 have hBr3 := hide ((unhide hBr).ext (ext_self1 w2 (.cells (setC r) 25)))
 have hg3 := hide ((unhide hg').ext (unhide hx3))
 have hT3 := hide ((unhide hT').ext (unhide hx3))
 have hz3 := hide (Below.size (unhide hx3))
 clear hBp hBs hBr hx1 hg' hT'
 generalize w2.heap.size = bs at *
 generalize w2.alloc (.cells (setC r) 25) = w3 at *
 generalize hbr : w.heap.size + 1 + 1 = br at *
 generalize hbq : w.heap.size + 1 = bq at *
 have hbrw := hide (show w.heap.size ≤ br by omega)
 clear hbr hbq
 go_wp2_with fail
 refine wp_range (gf := 109) (lb := #[.pointer (some ⟨bs,0,none⟩)]) rfl (enters_of Tryz.func109 (by kernel_rfl) rfl) (ex := [0]) (by have := (unhide hT3).lt; simp; omega)
  (all_iter r bs w3 (unhide hBa) (unhide hT3)) (fun _ => rfl)
  (fun pre W => (∀ v ∈ pre,subS (withoutS r v) (nearS v E) = true) ∧ Ext w3 W) (fun c _ W => c = .ret ∧ cliqueS E r = false ∧ Blk W br 4 #[.bool false] ∧ Keep [br] w3 W)
  (fun tm pre u a1 W => ((∀ v ∈ pre,subS (withoutS r v) (nearS v E) = true) ∧ Ext w3 W) ∧ a1 = ⟨(tm.setIfInBounds 8 (.int .i64 u)).setIfInBounds 5 (.int .i64 u),[]⟩)
  (fun pre A1 A2 h hk => ⟨h.1,h.2.of_new hk (fun z hz => by rw [mem_privs] at hz; omega)⟩)
  (fun c pre A1 A2 h hk => ⟨h.1,h.2.1,h.2.2.1.keep hk (by have := (unhide hBr3).lt; rw [mem_privs]; omega),h.2.2.2.of_new hk (fun z hz => by rw [mem_privs] at hz; right; omega)⟩)
  (fun pre u a1 A1 A2 h hk => ⟨⟨h.1.1,h.1.2.of_new hk (fun z hz => by rw [mem_privs] at hz; omega)⟩,h.2⟩)
  ⟨by simp,Ext.refl _⟩ ?_ ?_ ?_ ?_
 ·intro pre u W K hI hpre hsz hK
  have hK' := hide hK
  clear hK
  rw [zip1]
  simp only [List.setIfInBounds_toArray,List.set_cons_succ,List.set_cons_zero]
  try dsimp only
  repeat ((fail_if_success (with_reducible refine wpI_reg (id := 2) (by kernel_rfl) ?_)); (first | go_values | gi_step | gi_guarded | gi_upon | gi_in | gi_back | fail))
  with_reducible refine wpI_reg (id := 2) (by kernel_rfl) ?_
  refine wpO_want rfl ?_
  go_simp
  refine wpO_done ?_
  try go_frame
  exact unhide hK' _ _ ⟨hI,rfl⟩ (Same.refl _ _) (Nat.le_refl _)
 ·rintro pre u a1 W ⟨⟨hok,hxW⟩,rfl⟩ hpre hsz _
  simp only [List.setIfInBounds_toArray,List.set_cons_succ,List.set_cons_zero]
  have hmem : u ∈ toL r := hpre.subset (by simp)
  have hok' := hide hok
  have hmem' := hide hmem
  have hxW' := hide hxW
  have hsz' := hide hsz
  have hT0 := hide ((unhide hT3).lt)
  have hgW := hide ((unhide hg3).ext hxW)
  have hBsW := hide ((unhide hBs3).ext hxW)
  have hBrW := hide ((unhide hBr3).ext hxW)
  have c0 := ((unhide hBp3).ext hxW).cells 0 (v := .pointer og) rfl
  obtain ⟨q,hq⟩ : ∃ q,subS (withoutS r u) (nearS u E) = q := ⟨_,rfl⟩
  have hq' := hide hq
  have hself := Ext.refl W
  clear hok hmem hxW hsz hpre hq
  gi_wp2_with fail
  refine wpI_region_ext (P := Tryz.prog) [0,1,2,3,4,5,6,7] [] 0 #[true,true,true,true,true,true,true,true] (by kernel_rfl) (by kernel_rfl) (by kernel_rfl) rfl (by rfl) ?_
  refine ql_want (v := .agg (setC (r))) rfl (by rfl) (fun W hW => qUpon_of (load_SetR rfl (by rfl) (((unhide hBsW).ext hW).whole))) ?_
  go_frame
  iterate 1
   refine ql_want (v := ?_) rfl (by rfl) (fun W hW => ?_) ?_
   rotate_left
   ·go_simp
    first | done | rfl
   go_frame
  refine ql_want (v := .agg (setC (withoutS r u))) rfl (by rfl) (fun W hW => ?_) ?_
  ·go_simp
   refine (without_S r u W).mono ?_
   rintro _ _ ⟨h1,h2⟩
   exact ⟨_,h1,rfl,h2⟩
  go_frame
  iterate 2
   refine ql_want (v := ?_) rfl (by rfl) (fun W hW => ?_) ?_
   rotate_left
   ·go_simp
    first | done | rfl
   go_frame
  refine ql_want (v := .agg (setC (nearS u E))) rfl (by rfl) (fun W hW => ?_) ?_
  ·go_simp
   refine (nearG og V E u W ((unhide hgW).ext hW)).mono ?_
   rintro _ _ ⟨h1,h2⟩
   exact ⟨_,h1,rfl,h2⟩
  go_frame
  refine ql_want (v := .bool q) rfl (by rfl) (fun W hW => ?_) ?_
  ·go_simp
   refine (sub_any (withoutS r u) (nearS u E) W).mono ?_
   rw [unhide hq']
   rintro _ _ ⟨h1,h2⟩
   exact ⟨_,h1,rfl,h2⟩
  go_frame
  iterate 1
   refine ql_want (v := ?_) rfl (by rfl) (fun W hW => ?_) ?_
   rotate_left
   ·go_simp
    first | done | rfl
   go_frame
  refine wpQL_nil (fun w5 hx5 => ?_)
  refine wpX_done (by kernel_rfl) ?_
  try go_frame
  have hx5' := hide hx5
  clear c0 hself hx5
  cases q
  ·have hBr5 := ((unhide hBrW).ext (unhide hx5'))
   try dsimp only
   repeat ((fail_if_success (with_reducible refine wpI_reg (id := 4) (by kernel_rfl) ?_)); (first | go_values | gi_step | gi_guarded | gi_upon | gi_in | gi_back | fail))
   with_reducible refine wpI_reg (id := 4) (by kernel_rfl) ?_
   refine wpO_skip rfl (run_store_row (v := .bool false) rfl rfl rfl (by simp [go_sem]) hBr5 rfl (by simp [Value.cells,Value.oneCell'])) (wpO_done ?_)
   try go_frame
   simp only [Value.cells]
   have hBn := hBr5.row #[.bool false]
   have hkn := Keep.setRow w5 br #[.bool false]
   gi_wp2_with fail
   have hsz5 := Below.size (unhide hx5')
   refine ⟨by have := hkn.size; omega, ?_,rfl, ?_,hBn,((((unhide hxW').keep []).trans ((unhide hx5').keep [])).mono (by simp)).trans hkn⟩
   ·refine Same.of_keep ((((unhide hx5').keep []).mono (S' := [br]) (by simp)).trans hkn) fun z hz => ?_
    rw [List.mem_singleton]
    have h1 := (unhide hBr3).lt
    have h2 := unhide hT0
    have h3 := unhide hbrw
    have h4 := unhide hsz'
    rcases List.mem_append.1 hz with hz | hz
    ·rw [mem_privs] at hz; omega
    ·rw [List.mem_singleton] at hz
     subst hz
     exact ⟨by omega,fun e => by have := unhide hTl; omega⟩
   ·rw [Bool.eq_false_iff]
    intro h
    have := List.all_eq_true.1 h u (unhide hmem')
    rw [unhide hq'] at this
    cases this
  ·gi_wp2_with fail
   refine ⟨Below.size (unhide hx5'), ?_,fun v hv => ?_,(unhide hxW').trans (unhide hx5')⟩
   ·refine Same.of_keep ((unhide hx5').keep []) fun z hz => ?_
    have h2 := unhide hT0
    have h4 := unhide hsz'
    rcases List.mem_append.1 hz with hz | hz
    ·rw [mem_privs] at hz; exact ⟨by omega,by simp⟩
    ·rw [List.mem_singleton] at hz; exact ⟨by omega,by simp⟩
   ·rcases List.mem_append.1 hv with hv | hv
    ·exact unhide hok' v hv
    ·rw [List.mem_singleton] at hv
     rw [hv]
     exact unhide hq'
 ·intro W hI hDf
  have hres : cliqueS E r = true := List.all_eq_true.2 hI.1
  have hBrW := (unhide hBr3).ext hI.2
  have hxW' := hide ((unhide hx3).trans hI.2)
  have hD' := hide hDf
  have hBrW' := hide hBrW
  have hres' := hide hres
  clear hI hDf hBrW hres
  try dsimp only
  repeat ((fail_if_success (with_reducible refine wp_reg (id := 5) ?_)); (first | go_values | go_skip | go_step | go_guarded | go_upon | go_in | go_back | fail))
  with_reducible refine wp_reg (id := 5) ?_
  refine wpO_skip rfl (run_store_row (v := .bool true) rfl rfl rfl (by simp [go_sem]) (unhide hBrW') rfl (by simp [Value.cells,Value.oneCell'])) (wpO_done ?_)
  try go_frame
  simp only [Value.cells]
  have hBn := (unhide hBrW').row #[.bool true]
  have hkn := Keep.setRow W br #[.bool true]
  have hD2 := (hkn.block w3.heap.size (Array.getElem?_eq_some_iff.1 (unhide hD')).1 (by have := (unhide hBr3).lt; simp; omega)).trans (unhide hD')
  go_wp2_with fail
  have hL := load_bool (W.setRow br #[.bool true]) br true (hBn.cell 0)
  refine leaves_marks (B := w.heap.size) _ _ (.cons (unhide hz3) hD2 (by simp) (.nil _)) ?_
  rintro w' ⟨S,hS,hkS⟩
  have hS3 : ∀ z ∈ S,z = w3.heap.size := fun z hz => by
   obtain ⟨d,hd,e⟩ := hS z hz
   rw [List.mem_singleton] at hd
   subst hd
   injection e with e
   exact e.symm
  have hlb := (unhide hBr3).lt
  refine ⟨_,ret_cell1 rfl rfl (load_bool w' br true ((hBn.keep hkS (fun hm => by have := hS3 _ hm; omega)).cell 0)),by rw [unhide hres'], ?_⟩
  exact ((unhide hxW').of_new hkn (fun z hz => by rw [List.mem_singleton] at hz; subst hz; exact unhide hbrw)).of_new hkS (fun z hz => by have := hS3 z hz; have := unhide hz3; omega)
 ·rintro c pre W ⟨rfl,hres,hB,hk⟩ hDf
  go_wp2_with fail
  have hL := load_bool W br false (hB.cell 0)
  refine leaves_marks (B := w.heap.size) _ _ (.cons (unhide hz3) hDf (by simp) (.nil _)) ?_
  rintro w' ⟨S,hS,hkS⟩
  have hS3 : ∀ z ∈ S,z = w3.heap.size := fun z hz => by
   obtain ⟨d,hd,e⟩ := hS z hz
   rw [List.mem_singleton] at hd
   subst hd
   injection e with e
   exact e.symm
  have hlb := (unhide hBr3).lt
  refine ⟨_,ret_cell1 rfl rfl (load_bool w' br false ((hB.keep hkS (fun hm => by have := hS3 _ hm; omega)).cell 0)),by rw [hres], ?_⟩
  exact ((unhide hx3).of_new hk (fun z hz => by rw [List.mem_singleton] at hz; subst hz; exact unhide hbrw)).of_new hkS (fun z hz => by have := hS3 z hz; have := unhide hz3; omega)
set_option maxRecDepth 100000 in
set_option maxHeartbeats 1000000 in
theorem simple_any (og : Option Addr) (V : List (Int × Thing)) (E : List ((Int × Int) × Thing)) (id : Int) (left : Nat) (w : World) (hg : GL w og V E) (hT : Tab w) :
  Calls Tryz.prog 84 #[.pointer og, .int .i64 id, .agg (setC left)] w fun e w' => e = .returned (.bool (simpleS E id left)) ∧ Ext w w' := by
 have hx1 := hide (ext_self1 w (.cells (setC left) 25))
 have hBl := hide (Blk.new w 25 (setC left))
 have hg' := hide (hg.ext (unhide hx1))
 have hT' := hide (hT.ext (unhide hx1))
 clear hg hT
 go_enter Tryz.func84,Tryz.ntmps84
 have hself := Ext.refl (w.alloc (.cells (setC left) 25))
 go_wp2_with fail
 generalize w.alloc (.cells (setC left) 25) = w1 at *
 refine wp_region_ext (P := Tryz.prog) [0,1,2,3,4,5,6,7] [] 0 #[true,true,true,true,true,true,true,true] (by kernel_rfl) (by kernel_rfl) rfl (by rfl) ?_
 iterate 3
  refine ql_want (v := ?_) rfl (by rfl) (fun W hW => ?_) ?_
  rotate_left
  ·go_simp
   first | done | rfl
  go_frame
 refine ql_want (v := .agg (setC (nearS id E))) rfl (by rfl) (fun W hW => ?_) ?_
 ·go_simp
  refine (nearG og V E id W ((unhide hg').ext hW)).mono ?_
  rintro _ _ ⟨h1,h2⟩
  exact ⟨_,h1,rfl,h2⟩
 go_frame
 refine ql_want (v := .agg (setC (left))) rfl (by rfl) (fun W hW => qUpon_of (load_SetR rfl (by rfl) (((unhide hBl).ext hW).whole))) ?_
 go_frame
 refine ql_want (v := .agg (setC (nearS id E &&& left))) rfl (by rfl) (fun W hW => ?_) ?_
 ·go_simp
  refine (inter_any (nearS id E) left W).mono ?_
  rintro _ _ ⟨h1,h2⟩
  exact ⟨_,h1,rfl,h2⟩
 go_frame
 refine ql_want (v := .bool (simpleS E id left)) rfl (by rfl) (fun W hW => ?_) ?_
 ·go_simp
  refine (clique_any og V E (nearS id E &&& left) W ((unhide hg').ext hW) ((unhide hT').ext hW)).mono ?_
  rintro _ _ ⟨h1,h2⟩
  exact ⟨_,h1,rfl,h2⟩
 go_frame
 iterate 1
  refine ql_want (v := ?_) rfl (by rfl) (fun W hW => ?_) ?_
  rotate_left
  ·go_simp
   first | done | rfl
  go_frame
 refine wpQL_nil (fun w5 hx5 => ?_)
 refine wpX_done (by kernel_rfl) ?_
 try go_frame
 have hx5' := hide ((unhide hx1).trans hx5)
 clear hself hx5
 go_wp2_with fail
 go_ret
 exact ⟨rfl,unhide hx5'⟩
end Go.Proofs.YtmokciekndllpaaGreatDoor
namespace Go.Proofs.YtmokciekndllpaaGreatDoor
open Go Go.RowKit Go.Shelf
attribute [local go_sem] qUpon lUpon
def PoPost (w : World) (o : Option (List Int)) (e : Ending) (w' : World) : Prop := ∃ A c,e = .returned (.tuple #[.slice A (o.getD []).length c, .bool o.isSome]) ∧ w'.ownsRow w.heap.size 3 1 (.slice A (o.getD []).length c) (o.getD []).length ((o.getD []).flatMap encI) ∧ Ext w w'
theorem PoPost.none {w w' : World} (h : Ext w w') : PoPost w none (.returned (.tuple #[.slice none 0 0, .bool false])) w' := ⟨_,_,rfl,World.ownsRow_nil _ _ _ _,h⟩
theorem PoPost.some {w w' : World} {xs : List Int} {A : Option Addr} {n c : Nat} (hn : n = xs.length) (h : w'.ownsRow w.heap.size 3 1 (.slice A xs.length c) xs.length (xs.flatMap encI)) (hx : Ext w w') : PoPost w (some xs) (.returned (.tuple #[.slice A n c, .bool true])) w' := ⟨A,c,by rw [hn]; rfl,h,hx⟩
set_option maxRecDepth 100000 in
theorem find_pre {l pre : List Int} {p : Int → Bool} {u : Int} (h : (pre ++ [u]) <+: l) (hp : ∀ x ∈ pre,p x = false) (hu : p u = true) : l.find? p = some u := by
 obtain ⟨r,rfl⟩ := h
 rw [List.append_assoc,List.find?_append,List.find?_eq_none.2 (fun x hx => by rw [hp x hx]; simp)]
 simp [hu]
theorem poS_nil {E : List ((Int × Int) × Thing)} {N f : Nat} (hf : (toL N).length < f) (h : toL N = []) : poS E f N = some [] := by
 cases f with
 | zero => omega
 | succ f =>
  rw [poS,if_neg (fun k => anyB_iff.1 k h)]
theorem poS_none {E : List ((Int × Int) × Thing)} {N f : Nat} (hf : (toL N).length < f) (hq : eqS N 0 = false) (h : ∀ x ∈ toL N,simpleS E x N = false) : poS E f N = none := by
 have hne : toL N ≠ [] := fun e => by rw [eqS_nil.2 e] at hq; cases hq
 cases f with
 | zero => omega
 | succ f =>
  rw [poS,if_pos (anyB_iff.2 hne),List.find?_eq_none.2 (fun x hx => by rw [h x hx]; simp)]
  rfl
theorem poS_step {E : List ((Int × Int) × Thing)} {N f : Nat} {u : Int} (hf : (toL N).length < f) (hq : eqS N 0 = false) (h : (toL N).find? (fun x => simpleS E x N) = some u) :
  ∃ f',f = f' + 1 ∧ poS E f N = (poS E f' (withoutS N u)).map (u :: ·) ∧ (toL (withoutS N u)).length < (toL N).length := by
 have hne : toL N ≠ [] := fun e => by rw [eqS_nil.2 e] at hq; cases hq
 cases f with
 | zero => omega
 | succ f =>
  refine ⟨f,rfl, ?_, ?_⟩
  ·rw [poS,if_pos (anyB_iff.2 hne),h]
   rfl
  ·have e := toL_without N u
   have hm := List.mem_of_find?_eq_some h
   clear h hf hq
   generalize toL (withoutS N u) = l2 at *
   generalize toL N = l at *
   subst e
   exact out_lt hm
structure PoI (og : Option Addr) (bg bl bo base N : Nat) (xs : List Int) (v : Value) (W : World) : Prop where
 gc : Blk W bg 26 #[.pointer og]
 left : Blk W bl 25 (setC N)
 out : Acc encI 3 42 1 base bo xs v W
def poT (bg bl bo : Nat) (v : Value) : List Nat := bg :: bl :: accT bo v
theorem PoI.keep {og : Option Addr} {bg bl bo base N : Nat} {xs : List Int} {v : Value} {W W' : World} {S : List Nat} (h : PoI og bg bl bo base N xs v W) (hk : Keep S W W') (hS : ∀ x ∈ S,x ∉ poT bg bl bo v) : PoI og bg bl bo base N xs v W' :=
 ⟨h.gc.keep hk (fun hm => hS _ hm (by simp [poT])),h.left.keep hk (fun hm => hS _ hm (by simp [poT])),h.out.keep hk (fun x hx hm => hS x hx (by simp [poT,hm]))⟩
theorem PoI.ext {og : Option Addr} {bg bl bo base N : Nat} {xs : List Int} {v : Value} {W W' : World} (h : PoI og bg bl bo base N xs v W) (hx : Ext W W') : PoI og bg bl bo base N xs v W' := h.keep (hx.keep []) (by simp)
theorem PoI.below {og : Option Addr} {bg bl bo base N : Nat} {xs : List Int} {v : Value} {W : World} (h : PoI og bg bl bo base N xs v W) : ∀ x ∈ poT bg bl bo v,x < W.heap.size := by
 intro x hx
 rcases List.mem_cons.1 hx with rfl | hx
 ·exact h.gc.lt
 rcases List.mem_cons.1 hx with rfl | hx
 ·exact h.left.lt
 ·exact h.out.below x hx
set_option maxRecDepth 100000 in
set_option maxHeartbeats 16000000 in
theorem perfect_any (og : Option Addr) (V : List (Int × Thing)) (E : List ((Int × Int) × Thing)) (w : World) (hg : GL w og V E) (hT : Tab w) :
  Calls Tryz.prog 32 #[.pointer og] w (PoPost w (peoS V E)) := by
 have hg' := hide hg
 have hT' := hide hT
 have hTl := hide hT.lt
 have hBg := hide (Blk.new w 26 #[.pointer og])
 have hx1 := hide (ext_self1 w (.cells #[.pointer og] 26))
 have q0 := (unhide hBg).cells 0 (v := .pointer og) rfl
 have hself := Ext.refl (w.alloc (.cells #[.pointer og] 26))
 clear hg hT
 refine callsIn_wide.1 (callsIn_of_wp_marks (n := 0) Tryz.func32 rfl trivial (wpIn_wide.2 ?_))
 simp only [Tryz.ntmps32,List.size_toArray,List.length_cons,List.length_nil,Nat.reduceAdd,Nat.reduceSub,Array.replicate_succ,Array.replicate_zero,List.push_toArray,List.append_toArray,List.nil_append,List.cons_append]
 go_wp2_with fail
 go_step3
 try dsimp only
 repeat ((fail_if_success (with_reducible refine wp_reg (id := 1) ?_)); (first | go_values | go_skip | go_step | go_guarded | go_upon | go_in | go_back | fail))
 with_reducible refine wp_reg (id := 1) ?_
 generalize w.alloc (.cells #[.pointer og] 26) = w1 at *
 iterate 2
  refine wpO_want rfl ?_
  go_simp
 refine (vsetG og V E w1 ((unhide hg').ext (unhide hx1))).mono ?_
 rintro _ w2 ⟨rfl,hx2⟩
 refine ⟨_,rfl, ?_⟩
 refine wpO_want rfl ?_
 go_simp
 have hB2 := Blk.new w2 25 (setC 0)
 refine wpO_skip rfl (store_SetR (N := vS V) rfl rfl rfl hB2) (wpO_done ?_)
 have hBl := hide (hB2.row (setC (vS V)))
 have hx3 := hide ((((unhide hx1).trans hx2).trans (ext_self1 w2 (.cells (setC 0) 25))).of_new (Keep.setRow _ w2.heap.size (setC (vS V))) (by have := Below.size ((unhide hx1).trans hx2); simp; omega))
 have hBg3 := hide ((((unhide hBg).ext hx2).ext (ext_self1 w2 (.cells (setC 0) 25))).keep (Keep.setRow _ w2.heap.size (setC (vS V))) (by have := (unhide hBg).lt; have := Below.size hx2; rw [List.mem_singleton]; omega))
 have hbl := hide (show w.heap.size < w2.heap.size by have := (unhide hBg).lt; have := Below.size hx2; omega)
 clear hB2 hBg hx1 hx2 q0 hself
 rw [show (#[.int .u64 0, .int .u64 0, .int .u64 0, .int .u64 0, .int .u64 0, .int .u64 0, .int .u64 0, .int .u64 0, .int .u64 0, .int .u64 0, .int .u64 0, .int .u64 0, .int .u64 0, .int .u64 0, .int .u64 0, .int .u64 0] : Array Value) = setC 0 from rfl] at *
 generalize (w2.alloc (.cells (setC 0) 25)).setRow w2.heap.size (setC (vS V)) = w3 at *
 generalize w2.heap.size = bl at *
 have hO := hide (Acc.new (enc := encI) (T := 3) (ST := 42) (k := 1) w3)
 have hx4 := hide ((unhide hx3).trans (ext_self1 w3 (.cells #[.slice none 0 0] 42)))
 have hBl4 := hide ((unhide hBl).ext (ext_self1 w3 (.cells #[.slice none 0 0] 42)))
 have hBg4 := hide ((unhide hBg3).ext (ext_self1 w3 (.cells #[.slice none 0 0] 42)))
 have hbo := hide (show bl < w3.heap.size from (unhide hBl).lt)
 clear hBl hBg3 hx3
 go_wp2_with fail
 go_step3
 go_wp2_with fail
 generalize w3.alloc (.cells #[.slice none 0 0] 42) = w4 at *
 generalize w3.heap.size = bo at *
 generalize hbg : w.heap.size = bg at *
 have hI0 : PoI og bg bl bo (bo + 1) (vS V) [] (.slice none 0 0) w4 := ⟨unhide hBg4,unhide hBl4,unhide hO⟩
 have hR0 : Run w (poT bg bl bo (.slice none 0 0)) [] w4 := Run.new (unhide hx4) (by
  intro x hx
  simp only [poT,accT,Value.ownBlock,Option.toList,List.mem_cons,List.not_mem_nil,or_false] at hx
  have h1 := unhide hbl
  have h2 := unhide hbo
  rcases hx with rfl | rfl | rfl <;> omega) hI0.below
 have hI0' := hide hI0
 have hR0' := hide hR0
 have hblo := hide (show bg < bl ∧ bl < bo from ⟨unhide hbl,unhide hbo⟩)
 clear hI0 hR0 hO hx4 hBl4 hBg4 hbl hbo
 refine wp_loop_ix (fun n a' wr => ∃ (N f : Nat) (xs : List Int) (v : Value),a'.tmps.size = 27 ∧ a'.tmps.getD 1 undef = .pointer (some ⟨bg,0,none⟩) ∧ a'.tmps.getD 4 undef = .pointer (some ⟨bl,0,none⟩) ∧ a'.tmps.getD 5 undef = .pointer (some ⟨bo,0,none⟩) ∧ PoI og bg bl bo (bo + 1) N xs v wr ∧ Run w (poT bg bl bo v) a'.defers wr ∧ n = (toL N).length ∧ (toL N).length < f ∧ xs.length + (toL N).length ≤ 1024 ∧ peoS V E = (poS E f N).map (xs ++ ·)) (toL (vS V)).length ?_ ?_
 ·exact ⟨vS V,1025,[], .slice none 0 0,rfl,rfl,rfl,rfl,unhide hI0',unhide hR0',rfl,Nat.lt_succ_of_le (toL_len_le _),by have := toL_len_le (vS V); simpa using this,by simp [peoS]⟩
 ·clear hI0' hR0'
  rintro n ⟨tm,ds⟩ wr ⟨N,f,xs,v,hsz,e1,e4,e5,hI,hR,rfl,hf,hxl,hpeo⟩
  obtain ⟨us,rfl⟩ : ∃ us : Nat → Value,tm = #[us 0,us 1,us 2,us 3,us 4,us 5,us 6,us 7,us 8,us 9,us 10,us 11,us 12,us 13,us 14,us 15,us 16,us 17,us 18,us 19,us 20,us 21,us 22,us 23,us 24,us 25,us 26] := ⟨fun i => tm.getD i undef,arr_fn hsz⟩
  have h1 : us 1 = .pointer (some ⟨bg,0,none⟩) := e1
  have h4 : us 4 = .pointer (some ⟨bl,0,none⟩) := e4
  have h5 : us 5 = .pointer (some ⟨bo,0,none⟩) := e5
  clear hsz e1 e4 e5
  simp only [h1,h4,h5]
  clear h1 h4 h5
  dsimp only at hR
  have hI' := hide hI
  have hR' := hide hR
  have hf' := hide hf
  have hxl' := hide hxl
  have hpeo' := hide hpeo
  clear hI hR hf hxl hpeo
  obtain ⟨q,hq⟩ : ∃ q,eqS N 0 = q := ⟨_,rfl⟩
  have hq' := hide hq
  have hE := fun w => empty_any N w
  simp only [hq] at hE
  clear hq
  try dsimp only
  repeat ((fail_if_success (with_reducible refine wp_reg (id := 3) ?_)); (first | go_values | go_skip | go_step | go_guarded | go_upon | go_in | go_back | fail))
  with_reducible refine wp_reg (id := 3) ?_
  refine wpO_val rfl (load_SetR (N := N) rfl rfl (unhide hI').left.whole) ?_
  refine wpO_want rfl ?_
  go_simp
  refine (hE wr).mono ?_
  rintro _ w5 ⟨rfl,hx5⟩
  refine ⟨_,rfl, ?_⟩
  refine wpO_want rfl ?_
  go_simp
  refine wpO_done ?_
  try go_frame
  have hI5 := hide ((unhide hI').ext hx5)
  have hR5 := hide ((unhide hR').stepE hx5)
  clear hI' hR' hx5 hE
  cases q
  ·-- not empty
   try dsimp only
   repeat ((fail_if_success (with_reducible refine wp_reg (id := 4) ?_)); (first | go_values | go_skip | go_step | go_guarded | go_upon | go_in | go_back | fail))
   with_reducible refine wp_reg (id := 4) ?_
   refine wpO_val rfl (load_SetR (N := N) rfl rfl (unhide hI5).left.whole) ?_
   refine wpO_want rfl ?_
   go_simp
   refine (all_any N w5).mono ?_
   rintro e w6 ⟨rfl,rfl⟩
   refine ⟨_,rfl, ?_⟩
   refine wpO_done ?_
   try go_frame
   have hBa := hide (Blk.new w5 25 (setC N))
   have hI6 := hide ((unhide hI5).ext (ext_self1 w5 (.cells (setC N) 25)))
   have hR6 := hide ((unhide hR5).stepE (ext_self1 w5 (.cells (setC N) 25)))
   clear hI5 hR5
   generalize w5.heap.size = ba at *
   generalize w5.alloc (.cells (setC N) 25) = w6 at *
   have hT6 := hide ((unhide hT').ext (unhide hR6).ext)
   have hg6 := hide ((unhide hg').ext (unhide hR6).ext)
   go_wp2_with fail
   refine wp_rng (gf := 109) (lb := #[.pointer (some ⟨ba,0,none⟩)]) rfl (enters_of Tryz.func109 (by kernel_rfl) rfl) (ex := [0]) (T := poT bg bl bo v)
    (by intro b hb; rw [List.mem_singleton] at hb; subst hb; exact ⟨(unhide hT6).lt,fun hm => by have := (unhide hR6).tin _ hm; have := unhide hTl; omega⟩)
    (all_iter N ba w6 (unhide hBa) (unhide hT6)) (fun _ => rfl)
    (fun pre T' W => T' = poT bg bl bo v ∧ PoI og bg bl bo (bo + 1) N xs v W ∧ ∀ x ∈ pre,simpleS E x N = false)
    (fun c T' W => c = .exit 1 ∧ ∃ u v',T' = poT bg bl bo v' ∧ PoI og bg bl bo (bo + 1) (withoutS N u) (xs ++ [u]) v' W ∧ (toL N).find? (fun x => simpleS E x N) = some u)
    (fun tm _ u a1 _ => a1 = ⟨(tm.setIfInBounds 14 (.int .i64 u)).setIfInBounds 6 (.int .i64 u),[]⟩)
    (fun pre T' A B S ⟨h1,h2,h3⟩ hk hS => ⟨h1,h2.keep hk (by rw [← h1]; exact hS),h3⟩)
    (fun c T' A B S ⟨h0,u,v',h1,h2,h3⟩ hk hS => ⟨h0,u,v',h1,h2.keep hk (by rw [← h1]; exact hS),h3⟩)
    (fun pre T' A ⟨h1,h2,_⟩ => by rw [h1]; exact h2.below) (fun _ _ _ _ _ h _ => h) (unhide hI6).below ⟨rfl,unhide hI6,by simp⟩ ?_ ?_ ?_ ?_
   ·intro _ u W K _ hsz hK
    have hK' := hide hK
    clear hK
    rw [zip1]
    simp only [List.setIfInBounds_toArray,List.set_cons_succ,List.set_cons_zero]
    try dsimp only
    repeat ((fail_if_success (with_reducible refine wpI_reg (id := 5) (by kernel_rfl) ?_)); (first | go_values | gi_step | gi_guarded | gi_upon | gi_in | gi_back | fail))
    with_reducible refine wpI_reg (id := 5) (by kernel_rfl) ?_
    refine wpO_want rfl ?_
    go_simp
    refine wpO_done ?_
    try go_frame
    exact unhide hK' _ _ rfl (Ext.refl _)
   ·rintro pre u a1 T' W ⟨rfl,hI,hpre⟩ hkW hTin rfl hpx hsz _
    simp only [List.setIfInBounds_toArray,List.set_cons_succ,List.set_cons_zero]
    have hxW := (unhide hR6).after hkW
    have hgW := hide ((unhide hg').ext hxW)
    have hTW := hide ((unhide hT').ext hxW)
    have hIW := hide hI
    have hpre' := hide hpre
    have hpx' := hide hpx
    have c0 := hI.gc.cells 0 (v := .pointer og) rfl
    have hself := Ext.refl W
    clear hI hpre hpx hkW hTin hsz hxW
    obtain ⟨q,hq⟩ : ∃ q,simpleS E u N = q := ⟨_,rfl⟩
    have hq' := hide hq
    clear hq
    try dsimp only
    repeat ((fail_if_success (with_reducible refine wpI_reg (id := 6) (by kernel_rfl) ?_)); (first | go_values | gi_step | gi_guarded | gi_upon | gi_in | gi_back | fail))
    with_reducible refine wpI_reg (id := 6) (by kernel_rfl) ?_
    iterate 2
     refine wpO_want rfl ?_
     go_simp
    refine wpO_val rfl (load_SetR (N := N) rfl rfl (unhide hIW).left.whole) ?_
    go_frame
    refine wpO_want rfl ?_
    go_simp
    refine (simple_any og V E u N W (unhide hgW) (unhide hTW)).mono ?_
    rw [unhide hq']
    rintro _ w7 ⟨rfl,hx7⟩
    refine ⟨_,rfl, ?_⟩
    refine wpO_done ?_
    try go_frame
    have hI7 := hide ((unhide hIW).ext hx7)
    have hx7' := hide hx7
    clear c0 hself hx7 hIW hgW hTW
    cases q
    ·gi_wp2_with fail
     refine ⟨_,⟨rfl,unhide hI7,fun x hx => ?_⟩,(unhide hx7').keep _, .refl _ _⟩
     rcases List.mem_append.1 hx with hx | hx
     ·exact unhide hpre' x hx
     ·rw [List.mem_singleton] at hx
      rw [hx]
      exact unhide hq'
    ·obtain ⟨A,c,rfl⟩ := own_slice (unhide hI7).out.own
     obtain ⟨n,hn⟩ : ∃ n,n = xs.length := ⟨_,rfl⟩
     rw [← hn] at hI7
     have hn' := hide hn
     clear hn
     obtain ⟨S,hS⟩ : ∃ S,S = (Value.slice A n c).ownBlock.toList := ⟨_,rfl⟩
     have hS' := hide hS
     have hoff := hide (show ∀ x ∈ S,bo + 1 ≤ x ∧ x < w7.heap.size by rw [hS]; exact (unhide hI7).out.own_off)
     clear hS
     have hbS : bo ∉ S := fun hm => by have := unhide hoff bo hm; omega
     have hlS : bl ∉ S := fun hm => by
      have h1 := unhide hoff bl hm
      have h2 := unhide hblo
      omega
     have cb := (unhide hI7).out.cell.cellsK hbS 0 (v := .slice A n c) rfl
     have hsel7 := Keep.refl S w7
     have hlS' := hide hlS
     have hbS' := hide hbS
     clear hbS hlS
     gi_wp2_with fail
     refine wpI_region_cls (P := Tryz.prog) (Keep S w7) ((Keep.refl S w7).drew) [0,1,4,5] [7,8] 5 #[true,true,false,false,true,true,false,false,false] (by kernel_rfl) (by kernel_rfl) (by kernel_rfl) rfl (by rfl) ?_
     iterate 2
      refine ql_want (v := ?_) rfl (by rfl) (fun W hW => ?_) ?_
      rotate_left
      ·go_simp
       first | done | rfl
      go_frame
     refine ql_want (v := .agg (setC N)) rfl (by rfl) (fun W hW => qUpon_eq (load_SetR rfl rfl ((unhide hI7).left.keep hW (unhide hlS')).whole)) ?_
     go_frame
     iterate 1
      refine ql_want (v := ?_) rfl (by rfl) (fun W hW => ?_) ?_
      rotate_left
      ·go_simp
       first | done | rfl
      go_frame
     refine wpQL_nil ?_
     have hx8 := (Ext.refl w7).drew
     generalize w7.drew = w8 at *
     have hI8 := hide ((unhide hI7).ext hx8)
     have hx8' := hide hx8
     clear cb hsel7 hx8
     refine lx_one (i := 2) (by kernel_rfl) rfl (by rfl) #[true,true,true,false,true,true,false,false,false] (by rfl) ?_
     go_simp
     refine ⟨(unhide hx8').keep S |>.trans ((ext_self1 w8 (.cells #[.int .i64 u] 3)).keep S), ?_⟩
     try go_frame
     have hxa := hide (ext_self1 w8 (.cells #[.int .i64 u] 3))
     refine lx_ap1E (i := 3) (enc := encI) (by kernel_rfl) rfl (by rfl) #[true,true,true,true,true,true,false,false,false] (by rfl) infoI Tryz.underlying42 one_encI (fun _ => rfl) (by decide) (by decide) rfl (v := .slice A n c) (m := n) (xs := xs) u (by rfl) (by rfl) (Blk.new w8 3 #[.int .i64 u]) (by have h := own_ext (unhide hI8).out.own (unhide hxa); rw [← unhide hn'] at h; exact h) (by have := unhide hn'; have := unhide hxl'; omega) (Nat.le_trans (unhide hI8).out.le (Below.size (unhide hxa))) ?_
     intro A6 c6 w9 ho9 hg9 hat9
     refine ⟨fun _ => ((((unhide hx8').trans (unhide hxa)).keep S).trans (by rw [unhide hS']; exact Keep.of_grown hg9)), ?_⟩
     try go_frame
     have ho9' := hide ho9
     have hg9' := hide hg9
     have hat9' := hide hat9
     clear ho9 hg9 hat9
     refine lx_one (i := 6) (by kernel_rfl) rfl (by rfl) #[true,true,true,true,true,true,true,false,false] (by rfl) ?_
     go_simp
     refine (without_S N u w9).mono ?_
     rintro _ w10 ⟨rfl,hx10⟩
     refine ⟨_,rfl,⟨((((unhide hx8').trans (unhide hxa)).keep S).trans (by rw [unhide hS']; exact Keep.of_grown (unhide hg9'))).trans (hx10.keep _), ?_⟩⟩
     try go_frame
     obtain ⟨hBo,hA,hk10,ht10⟩ := (unhide hI8).out.push' (ys := xs ++ [u]) (unhide hxa) (unhide ho9') (by rw [unhide hn',List.length_append]; rfl) (unhide hg9') (unhide hat9') hx10
     rw [← unhide hS'] at hk10
     have hBg := (unhide hI8).gc.keep hk10 (fun hm => by have h1 := unhide hoff bg hm; have h2 := unhide hblo; omega)
     have hBl := (unhide hI8).left.keep hk10 (unhide hlS')
     refine lx_skipE (i := 7) (by kernel_rfl) rfl (by rfl) #[true,true,true,true,true,true,true,true,false] (by rfl) (run_store_row (v := .slice A6 (n + 1) c6) rfl (by rfl) (by rfl) (by simp [go_sem]) hBo rfl (by simp [Value.cells,Value.oneCell'])) (fun h => by simp at h) ?_
     try go_frame
     have hBl2 := hBl.keep (Keep.setRow w10 bo (Value.slice A6 (n + 1) c6).cells) (by have h2 := unhide hblo; rw [List.mem_singleton]; omega)
     refine lx_skipE (i := 8) (by kernel_rfl) rfl (by rfl) #[true,true,true,true,true,true,true,true,true] (by rfl) (store_SetR (N := withoutS N u) rfl (by rfl) (by rfl) hBl2) (fun h => by simp at h) ?_
     refine wpX_done (by kernel_rfl) ?_
     try go_frame
     rw [show (Value.slice A6 (n + 1) c6).cells = #[.slice A6 (n + 1) c6] from rfl] at *
     have hfin : PoI og bg bl bo (bo + 1) (withoutS N u) (xs ++ [u]) (.slice A6 (n + 1) c6) ((w10.setRow bo #[.slice A6 (n + 1) c6]).setRow bl (setC (withoutS N u))) :=
      ⟨(hBg.keep (Keep.setRow _ bo _) (by have h2 := unhide hblo; rw [List.mem_singleton]; omega)).keep (Keep.setRow _ bl _) (by have h2 := unhide hblo; rw [List.mem_singleton]; omega),hBl2.row _,
       hA.keep (Keep.setRow _ bl _) (fun x hx hm => by
        rw [List.mem_singleton] at hx
        subst hx
        have h2 := unhide hblo
        rcases List.mem_cons.1 hm with h | h
        ·omega
        ·have := (hA.own_off _ h).1; omega)⟩
     have hkf : Keep (poT bg bl bo (.slice A n c)) w7 ((w10.setRow bo #[.slice A6 (n + 1) c6]).setRow bl (setC (withoutS N u))) :=
      (((((unhide hx8').keep _).trans hk10).mono (fun x hx => by rw [unhide hS'] at hx; exact List.mem_cons_of_mem _ (List.mem_cons_of_mem _ (List.mem_cons_of_mem _ hx)))).trans ((Keep.setRow _ bo _).mono (fun x hx => by rw [List.mem_singleton] at hx; subst hx; simp [poT,accT]))).trans ((Keep.setRow _ bl _).mono (fun x hx => by rw [List.mem_singleton] at hx; subst hx; simp [poT]))
     have htf : tIn (poT bg bl bo (.slice A n c)) W.heap.size (poT bg bl bo (.slice A6 (n + 1) c6)) := fun x hx => by
      have hz := Below.size (unhide hx7')
      have hz8 := Below.size (unhide hx8')
      rcases List.mem_cons.1 hx with rfl | hx
      ·exact .inl (by simp [poT])
      rcases List.mem_cons.1 hx with rfl | hx
      ·exact .inl (by simp [poT])
      rcases ht10 x hx with h | h
      ·exact .inl (List.mem_cons_of_mem _ (List.mem_cons_of_mem _ h))
      ·exact .inr (by omega)
     have hfin' := hide hfin
     have hkf' := hide hkf
     have htf' := hide htf
     clear hfin hkf htf hBo hA hk10 ht10 hBg hBl hBl2 hx10
     gi_wp2_with fail
     refine ⟨_,⟨rfl,u,_,rfl,unhide hfin',find_pre (unhide hpx') (unhide hpre') (unhide hq')⟩, ?_, ?_⟩
     ·rw [← unhide hn']
      exact ((unhide hx7').keep _).trans (unhide hkf')
     ·rw [← unhide hn']
      exact unhide htf'
   ·-- none is simplicial
    rintro T' W ⟨rfl,hI,hall⟩ hkW hTin hD
    have hRW := hide ((unhide hR6).mark hkW hTin hI.below hD)
    have hnone : peoS V E = none := by
     rw [unhide hpeo',poS_none (unhide hf') (unhide hq') hall]; rfl
    have hnone' := hide hnone
    clear hI hall hkW hTin hD hnone
    go_wp2_with fail
    refine (unhide hRW).leaves ?_
    intro w' S _ _ hx
    rw [unhide hnone']
    refine ⟨_,results_tmp2 (t := 2) (u := 3) rfl _ _ _, ?_⟩
    exact PoPost.none hx
   ·-- one is taken
    rintro c T' W ⟨rfl,u,v',rfl,hI,hfind⟩ hkW hTin hD
    have hRW := hide ((unhide hR6).mark hkW hTin hI.below hD)
    have hI' := hide hI
    obtain ⟨f',hf2,hp2,hl2⟩ := poS_step (E := E) (unhide hf') (unhide hq') hfind
    have hp2' := hide hp2
    have hl2' := hide hl2
    have hf2' := hide hf2
    clear hI hfind hkW hTin hD hp2 hl2 hf2
    go_wp2_with fail
    have h1 := unhide hl2'
    have h2 := unhide hf'
    have h3 := unhide hf2'
    have h4 := unhide hxl'
    refine ⟨(toL (withoutS N u)).length,⟨withoutS N u,f',xs ++ [u],v',rfl,rfl,rfl,rfl,unhide hI',unhide hRW,rfl,by omega,by rw [List.length_append,List.length_singleton]; omega, ?_⟩,by omega⟩
    rw [unhide hpeo',unhide hp2',Option.map_map]
    congr 1
    funext l
    simp
  ·-- empty
   have hIE := hide ((unhide hI5).out.slice (fun _ => rfl))
   obtain ⟨A,c,rfl,hsl⟩ := (unhide hI5).out.slice (fun _ => rfl)
   have hown' := hide (unhide hI5).out.own
   have hnil := eqS_nil.1 (unhide hq')
   have hsome : peoS V E = some xs := by
    rw [unhide hpeo',poS_nil (unhide hf') hnil]; simp
   have hsome' := hide hsome
   obtain ⟨n,hn⟩ : ∃ n,n = xs.length := ⟨_,rfl⟩
   have cb := (unhide hI5).out.cell.cells 0 (v := .slice A xs.length c) rfl
   rw [← hn] at cb
   have hn' := hide hn
   have hself := Ext.refl w5
   clear hsl hnil hsome hn hIE
   go_wp2_with fail
   refine (unhide hR5).leaves ?_
   intro w' S hkS hS hx
   rw [unhide hsome']
   refine ⟨_,results_tmp2 (t := 2) (u := 3) rfl _ _ _, ?_⟩
   exact PoPost.some (unhide hn') (own_base_le (own_keep (unhide hown') hkS fun g hg e => hS g hg (by unfold poT accT; rw [e]; simp)) (by have := unhide hblo; omega)) hx
end Go.Proofs.YtmokciekndllpaaGreatDoor
