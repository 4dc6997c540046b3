/- Parts of a proof, laid together. Each part says its own conditions. -/
import Derived.Test.YtmfkkkhddigkfaaGreatDoorR28
import Derived.Test.YtmfkkkhddigkfaaGreatDoorR26
import Derived.Test.YtmfkkkhddigkfaaGreatDoorR25
import Derived.Test.YtmfkkkhddigkfaaGreatDoorR27
import Derived.Test.YtmfkkkhddigkfaaGreatDoorR21
namespace Go.Proofs.YtmfkkkhddigkfaaGreatDoor
open Go
theorem toL_len_le (N : Nat) : (toL N).length ≤ 1024 := by
 have := len_le_sub (toL N) ((List.range 1024).map fun (i : Nat) => (i : Int)) (toL_nodup N) (fun x hx => by
  obtain ⟨h1,h2,_⟩ := mem_toL'.1 hx
  exact List.mem_map.2 ⟨x.toNat,List.mem_range.2 (by omega),by omega⟩)
 simpa using this
theorem mem_or {N M : Nat} {x : Int} : x ∈ toL (N ||| M) ↔ x ∈ toL N ∨ x ∈ toL M := by
 rw [mem_toL',mem_toL',mem_toL',Nat.testBit_or,Bool.or_eq_true]
 constructor
 ·rintro ⟨h1,h2,h3 | h3⟩
  ·exact .inl ⟨h1,h2,h3⟩
  ·exact .inr ⟨h1,h2,h3⟩
 ·rintro (⟨h1,h2,h3⟩ | ⟨h1,h2,h3⟩)
  ·exact ⟨h1,h2, .inl h3⟩
  ·exact ⟨h1,h2, .inr h3⟩
theorem mem_minus {N M : Nat} {x : Int} : x ∈ toL (minusS N M) ↔ x ∈ toL N ∧ x ∉ toL M := by
 rw [mem_toL',mem_toL',mem_toL',minusS_bit,Bool.and_eq_true,Bool.not_eq_true']
 constructor
 ·rintro ⟨h1,h2,h3,h4⟩; exact ⟨⟨h1,h2,h3⟩,fun h => by rw [h.2.2] at h4; cases h4⟩
 ·rintro ⟨⟨h1,h2,h3⟩,h4⟩; exact ⟨h1,h2,h3,by
   cases hb : M.testBit x.toNat
   ·rfl
   ·exact absurd ⟨h1,h2,hb⟩ h4⟩
theorem or_len {N M : Nat} (hd : ∀ x ∈ toL M,x ∉ toL N) : (toL N).length + (toL M).length ≤ (toL (N ||| M)).length := by
 have := len_le_sub (toL N ++ toL M) (toL (N ||| M)) (List.nodup_append.2 ⟨toL_nodup N,toL_nodup M,fun a ha b hb e => hd b hb (e ▸ ha)⟩) (fun x hx => mem_or.2 (by simpa using hx))
 simpa using this
theorem min_least {N : Nat} (h : anyB N = true) : minV N ∈ toL N ∧ ∀ y ∈ toL N,minV N ≤ y := by
 have hs := toL_sorted N
 unfold minV
 cases hl : toL N with
 | nil => exact absurd hl (anyB_iff.1 h)
 | cons a r =>
  rw [hl] at hs
  refine ⟨by simp,fun y hy => ?_⟩
  rcases List.mem_cons.1 hy with rfl | hy
  ·simp
  ·have := (List.pairwise_cons.1 hs).1 y hy
   simp; omega
def midW (w : List Int) : List Int := (w.drop 1).take (w.length - 2)
def mayW (V : List (Int × Thing)) (E : List ((Int × Int) × Thing)) (w : List Int) : Nat := (midW w).foldl (fun N v => minusS N (nearS v E)) (minusS (minusS (vS V) (belS (w[0]?.getD 0 + 1))) (fromS w))
def lastW (V : List (Int × Thing)) (E : List ((Int × Int) × Thing)) (w : List Int) : Nat :=
 if w.length = 2 then minusS (minusS (mayW V E w &&& nearS (w[0]?.getD 0) E) (belS (w[1]?.getD 0 + 1))) (nearS (w[1]?.getD 0) E)
 else minusS (mayW V E w &&& nearS (w[0]?.getD 0) E) (belS (w[1]?.getD 0 + 1))
def nextW (V : List (Int × Thing)) (E : List ((Int × Int) × Thing)) (w : List Int) : Nat := minusS (mayW V E w) (nearS (w[0]?.getD 0) E)
def nearU (E : List ((Int × Int) × Thing)) (N : Nat) : Nat := (toL N).foldl (fun a v => a ||| nearS v E) 0
def shortF (E : List ((Int × Int) × Thing)) (may last : Nat) : Nat → Nat → Nat → Int → Int
 | 0,_,_,_ => 0
 | f + 1,at_,seen,n => if anyB at_ = true then (if anyB (nearU E at_ &&& last) = true then n else shortF E may last f (minusS (nearU E at_ &&& may) (seen ||| at_)) (seen ||| at_) (n + 1)) else 0
def shortS (V : List (Int × Thing)) (E : List ((Int × Int) × Thing)) (w : List Int) : Int :=
 shortF E (nextW V E w) (lastW V E w) 1025 (fromS [w.getLastD 0]) 0 ((w.length : Int) + 1)
def firstF (V : List (Int × Thing)) (E : List ((Int × Int) × Thing)) (s : Int) (st : List Int × Int) (a : Int) : List Int × Int :=
 if (decide (0 < shortS V E [s,a]) && (decide (st.2 = 0) || decide (shortS V E [s,a] < st.2))) = true then ([s,a],shortS V E [s,a]) else st
def firstS (V : List (Int × Thing)) (E : List ((Int × Int) × Thing)) : List Int × Int :=
 (toL (vS V)).foldl (fun st s => (toL (minusS (nearS s E) (belS (s + 1)))).foldl (firstF V E s) st) ([],0)
def longerS (V : List (Int × Thing)) (E : List ((Int × Int) × Thing)) (w : List Int) (few : Int) : Option (List Int) :=
 if (w.length : Int) = few - 1 then (if anyB (lastW V E w &&& nearS (w.getLastD 0) E) = true then some (w ++ [minV (lastW V E w &&& nearS (w.getLastD 0) E)]) else none)
 else ((toL (nextW V E w &&& nearS (w.getLastD 0) E)).find? fun v => decide (shortS V E (w ++ [v]) = few)).map fun v => w ++ [v]
def extendS (V : List (Int × Thing)) (E : List ((Int × Int) × Thing)) (few : Int) : Nat → List Int → Option (List Int)
 | 0,w => some w
 | f + 1,w => if (w.length : Int) < few then (longerS V E w few).bind (extendS V E few f) else some w
def peoS (V : List (Int × Thing)) (E : List ((Int × Int) × Thing)) : Option (List Int) := poS E 1025 (vS V)
def holeS (V : List (Int × Thing)) (E : List ((Int × Int) × Thing)) : List Int × Bool :=
 if (peoS V E).isSome = true then ([],false) else match extendS V E (firstS V E).2 (firstS V E).2.toNat (firstS V E).1 with
  | none => ([],false)
  | some w => (w,true)
def mexF : Nat → Int → List Int → Int
 | 0,c,_ => c
 | f + 1,c,l => if l.contains c = true then mexF f (c + 1) l else c
def mexL (l : List Int) : Int := mexF (l.length + 1) 0 l
def IsMex (l : List Int) (c : Int) : Prop := 0 ≤ c ∧ c ∉ l ∧ ∀ d,0 ≤ d → d < c → d ∈ l
theorem IsMex.uniq {l : List Int} {c d : Int} (h : IsMex l c) (k : IsMex l d) : c = d := by
 rcases Int.lt_trichotomy c d with h1 | h1 | h1
 ·exact absurd (k.2.2 c h.1 h1) h.2.1
 ·exact h1
 ·exact absurd (h.2.2 d k.1 h1) k.2.1
theorem IsMex.congr {l m : List Int} {c : Int} (h : IsMex l c) (k : ∀ x,0 ≤ x → (x ∈ l ↔ x ∈ m)) : IsMex m c :=
 ⟨h.1,fun h1 => h.2.1 ((k c h.1).2 h1),fun d h1 h2 => (k d h1).1 (h.2.2 d h1 h2)⟩
theorem run_len {l : List Int} {n : Nat} (h : ∀ d : Int,0 ≤ d → d < n → d ∈ l) : n ≤ l.length := by
 have := len_le_sub ((List.range n).map fun (i : Nat) => (i : Int)) l (by
  rw [List.nodup_iff_pairwise_ne,List.pairwise_map]
  exact List.nodup_range.imp fun h e => h (by omega)) (fun x hx => by
  obtain ⟨i,hi,rfl⟩ := List.mem_map.1 hx
  exact h i (by omega) (by have := List.mem_range.1 hi; omega))
 simpa using this
theorem mexF_spec (l : List Int) : ∀ (f n : Nat),l.length < f + n → (∀ d : Int,0 ≤ d → d < n → d ∈ l) → IsMex l (mexF f n l)
 | 0,n,hf,h => by
  have := run_len h
  omega
 | f + 1,n,hf,h => by
  rw [mexF]
  split
  ·rename_i hc
   have hc' : (n : Int) ∈ l := by simpa using hc
   have := mexF_spec l f (n + 1) (by omega) (fun d h1 h2 => by
    rcases Int.lt_or_le d n with h3 | h3
    ·exact h d h1 h3
    ·have : d = n := by omega
     rw [this]; exact hc')
   simpa using this
  ·rename_i hc
   exact ⟨by omega,by simpa using hc,h⟩
theorem mex_spec (l : List Int) : IsMex l (mexL l) := mexF_spec l (l.length + 1) 0 (by omega) (fun d h1 h2 => by omega)
def takenS (E : List ((Int × Int) × Thing)) (M : List (Int × Int)) (v : Int) : List Int := (toL (nearS v E)).filterMap (lookM M)
def colStep (E : List ((Int × Int) × Thing)) (s : List (Int × Int) × Int) (v : Int) : List (Int × Int) × Int :=
 (putM s.1 v (mexL (takenS E s.1 v)),max s.2 (mexL (takenS E s.1 v) + 1))
def colS (E : List ((Int × Int) × Thing)) (o : List Int) : List (Int × Int) × Int := o.reverse.foldl (colStep E) ([],0)
def colOut (V : List (Int × Thing)) (E : List ((Int × Int) × Thing)) (o : List Int) : List Int := (toL (vS V)).map fun v => (lookM (colS E o).1 v).getD 0
end Go.Proofs.YtmfkkkhddigkfaaGreatDoor
namespace Go.Proofs.YtmfkkkhddigkfaaGreatDoor
open Go Go.RowKit Go.Shelf
attribute [local go_sem] qUpon lUpon
theorem load_bool (W : World) (b : Nat) (x : Bool) (h : W.cell? ⟨b,0,none⟩ = some (.bool x)) : (loadVar 4 ⟨b,0,none⟩).run Tryz.prog W = .ok (.bool x) W := by
 simp [go_sem,h]
theorem qUpon_of {P : Program} {W : World} {v : Value} {r : Result Next} (h : r = .ok (.value v) W) : qUpon P Ext W v r := by rw [h]; exact ⟨rfl,Ext.refl W⟩
set_option maxRecDepth 100000 in
set_option maxHeartbeats 4000000 in
theorem empty_any (N : Nat) (w : World) : Calls Tryz.prog 40 #[.agg (setC N)] w fun e w' => e = .returned (.bool (eqS N 0)) ∧ Ext w w' := by
 have hB := hide (Blk.new w 51 (setC N))
 have hx := hide (ext_self1 w (.cells (setC N) 51))
 go_enter Tryz.func40,Tryz.ntmps40
 try dsimp only
 repeat ((fail_if_success (with_reducible refine wp_reg (id := 1) ?_)); (first | go_values | go_skip | go_step | go_guarded | go_upon | go_in | go_back | fail))
 with_reducible refine wp_reg (id := 1) ?_
 refine wpO_val rfl (load_SetR rfl rfl (unhide hB).whole) ?_
 refine wpO_want rfl ?_
 go_simp
 refine wpO_val rfl (run_eql_Set (N := N) (M := 0) rfl rfl rfl) ?_
 go_frame
 refine wpO_want rfl ?_
 go_simp
 refine wpO_done ?_
 try go_frame
 go_wp2_with fail
 go_ret
 exact ⟨rfl,unhide hx⟩
set_option maxRecDepth 100000 in
set_option maxHeartbeats 4000000 in
theorem sub_any (N M : Nat) (w : World) : Calls Tryz.prog 64 #[.agg (setC N), .agg (setC M)] w fun e w' => e = .returned (.bool (subS N M)) ∧ Ext w w' := by
 have hB := hide ((Blk.new w 51 (setC N)).ext (ext_self1 _ (.cells (setC M) 51)))
 have hC := hide (Blk.new (w.alloc (.cells (setC N) 51)) 51 (setC M))
 have hx := hide (ext_self2 w (.cells (setC N) 51) (.cells (setC M) 51))
 simp only [World.size_alloc] at hC
 go_enter Tryz.func64,Tryz.ntmps64
 try dsimp only
 repeat ((fail_if_success (with_reducible refine wp_reg (id := 1) ?_)); (first | go_values | go_skip | go_step | go_guarded | go_upon | go_in | go_back | fail))
 with_reducible refine wp_reg (id := 1) ?_
 generalize (w.alloc (.cells (setC N) 51)).alloc (.cells (setC M) 51) = w1 at *
 refine wpO_val rfl (load_SetR (N := N) rfl rfl (unhide hB).whole) ?_
 refine wpO_val rfl (load_SetR (N := M) rfl rfl (unhide hC).whole) ?_
 refine wpO_want rfl ?_
 go_simp
 refine (minus_any N M w1).mono ?_
 rintro e w2 ⟨rfl,hx2⟩
 refine ⟨_,rfl, ?_⟩
 refine wpO_want rfl ?_
 go_simp
 refine (empty_any (minusS N M) w2).mono ?_
 rintro e w3 ⟨rfl,hx3⟩
 refine ⟨_,rfl, ?_⟩
 refine wpO_want rfl ?_
 go_simp
 refine wpO_done ?_
 try go_frame
 have hx3' := hide (((unhide hx).trans hx2).trans hx3)
 clear hx2 hx3
 go_wp2_with fail
 go_ret
 exact ⟨rfl,unhide hx3'⟩
set_option maxRecDepth 100000 in
set_option maxHeartbeats 8000000 in
theorem clique_any (og : Option Addr) (V : List (Int × Thing)) (E : List ((Int × Int) × Thing)) (r : Nat) (w : World) (hg : GL w og V E) (hT : Tab w) :
  Calls Tryz.prog 65 #[.pointer og, .agg (setC r)] w fun e w' => e = .returned (.bool (cliqueS E r)) ∧ Ext w w' := by
 have hg' := hide hg
 have hT' := hide hT
 have hTl := hide hT.lt
 have hBp := hide (((Blk.new w 24 #[.pointer og]).ext (ext_self1 _ (.cells (setC r) 51))).ext (ext_self1 _ (.cells #[.bool false] 4)))
 have hBs := hide ((Blk.new (w.alloc (.cells #[.pointer og] 24)) 51 (setC r)).ext (ext_self1 _ (.cells #[.bool false] 4)))
 have hBr := hide (Blk.new ((w.alloc (.cells #[.pointer og] 24)).alloc (.cells (setC r) 51)) 4 #[.bool false])
 have hx1 := hide (ext_self3 w (.cells #[.pointer og] 24) (.cells (setC r) 51) (.cells #[.bool false] 4))
 simp only [World.size_alloc] at hBs hBr
 clear hg hT
 refine callsIn_wide.1 (callsIn_of_wp_marks (n := 0) Tryz.func65 rfl trivial (wpIn_wide.2 ?_))
 simp only [Tryz.ntmps65,List.size_toArray,List.length_cons,List.length_nil,Nat.reduceAdd,Nat.reduceSub,Array.replicate_succ,Array.replicate_zero,List.push_toArray,List.append_toArray,List.nil_append,List.cons_append]
 try dsimp only
 repeat ((fail_if_success (with_reducible refine wp_reg (id := 1) ?_)); (first | go_values | go_skip | go_step | go_guarded | go_upon | go_in | go_back | fail))
 with_reducible refine wp_reg (id := 1) ?_
 generalize ((w.alloc (.cells #[.pointer og] 24)).alloc (.cells (setC r) 51)).alloc (.cells #[.bool false] 4) = w2 at *
 refine wpO_val rfl (load_SetR (N := r) rfl rfl (unhide hBs).whole) ?_
 refine wpO_want rfl ?_
 go_simp
 refine (all_any r w2).mono ?_
 rintro e w3 ⟨rfl,rfl⟩
 refine ⟨_,rfl, ?_⟩
 refine wpO_done ?_
 try go_frame
 have hBa := hide (Blk.new w2 51 (setC r))
 have hx3 := hide ((unhide hx1).trans (ext_self1 w2 (.cells (setC r) 51)))
 have hBp3 := hide ((unhide hBp).ext (ext_self1 w2 (.cells (setC r) 51)))
 have hBs3 := hide ((unhide hBs).ext (ext_self1 w2 (.cells (setC r) 51)))
 have hBr3 := hide ((unhide hBr).ext (ext_self1 w2 (.cells (setC r) 51)))
 have hg3 := hide ((unhide hg').ext (unhide hx3))
 have hT3 := hide ((unhide hT').ext (unhide hx3))
 have hz3 := hide (Below.size (unhide hx3))
 clear hBp hBs hBr hx1 hg' hT'
 generalize w2.heap.size = bs at *
 generalize w2.alloc (.cells (setC r) 51) = w3 at *
 generalize hbr : w.heap.size + 1 + 1 = br at *
 generalize hbq : w.heap.size + 1 = bq at *
 have hbrw := hide (show w.heap.size ≤ br by omega)
 clear hbr hbq
 go_wp2_with fail
 refine wp_range (gf := 78) (lb := #[.pointer (some ⟨bs,0,none⟩)]) rfl (enters_of Tryz.func78 (by kernel_rfl) rfl) (ex := [0]) (by have := (unhide hT3).lt; simp; omega)
  (all_iter r bs w3 (unhide hBa) (unhide hT3)) (fun _ => rfl)
  (fun pre W => (∀ v ∈ pre,subS (withoutS r v) (nearS v E) = true) ∧ Ext w3 W) (fun c _ W => c = .ret ∧ cliqueS E r = false ∧ Blk W br 4 #[.bool false] ∧ Keep [br] w3 W)
  (fun tm pre u a1 W => ((∀ v ∈ pre,subS (withoutS r v) (nearS v E) = true) ∧ Ext w3 W) ∧ a1 = ⟨(tm.setIfInBounds 8 (.int .i64 u)).setIfInBounds 5 (.int .i64 u),[]⟩)
  (fun pre A1 A2 h hk => ⟨h.1,h.2.of_new hk (fun z hz => by rw [mem_privs] at hz; omega)⟩)
  (fun c pre A1 A2 h hk => ⟨h.1,h.2.1,h.2.2.1.keep hk (by have := (unhide hBr3).lt; rw [mem_privs]; omega),h.2.2.2.of_new hk (fun z hz => by rw [mem_privs] at hz; right; omega)⟩)
  (fun pre u a1 A1 A2 h hk => ⟨⟨h.1.1,h.1.2.of_new hk (fun z hz => by rw [mem_privs] at hz; omega)⟩,h.2⟩)
  ⟨by simp,Ext.refl _⟩ ?_ ?_ ?_ ?_
 ·intro pre u W K hI hpre hsz hK
  have hK' := hide hK
  clear hK
  rw [zip1]
  simp only [List.setIfInBounds_toArray,List.set_cons_succ,List.set_cons_zero]
  try dsimp only
  repeat ((fail_if_success (with_reducible refine wpI_reg (id := 2) (by kernel_rfl) ?_)); (first | go_values | gi_step | gi_guarded | gi_upon | gi_in | gi_back | fail))
  with_reducible refine wpI_reg (id := 2) (by kernel_rfl) ?_
  refine wpO_want rfl ?_
  go_simp
  refine wpO_done ?_
  try go_frame
  exact unhide hK' _ _ ⟨hI,rfl⟩ (Same.refl _ _) (Nat.le_refl _)
 ·rintro pre u a1 W ⟨⟨hok,hxW⟩,rfl⟩ hpre hsz _
  simp only [List.setIfInBounds_toArray,List.set_cons_succ,List.set_cons_zero]
  have hmem : u ∈ toL r := hpre.subset (by simp)
  have hok' := hide hok
  have hmem' := hide hmem
  have hxW' := hide hxW
  have hsz' := hide hsz
  have hT0 := hide ((unhide hT3).lt)
  have hgW := hide ((unhide hg3).ext hxW)
  have hBsW := hide ((unhide hBs3).ext hxW)
  have hBrW := hide ((unhide hBr3).ext hxW)
  have c0 := ((unhide hBp3).ext hxW).cells 0 (v := .pointer og) rfl
  obtain ⟨q,hq⟩ : ∃ q,subS (withoutS r u) (nearS u E) = q := ⟨_,rfl⟩
  have hq' := hide hq
  have hself := Ext.refl W
  clear hok hmem hxW hsz hpre hq
  gi_wp2_with fail
  refine wpI_region_ext (P := Tryz.prog) [0,1,2,3,4,5,6,7] [] 0 #[true,true,true,true,true,true,true,true] (by kernel_rfl) (by kernel_rfl) (by kernel_rfl) rfl (by rfl) ?_
  refine ql_want (v := .agg (setC (r))) rfl (by rfl) (fun W hW => qUpon_of (load_SetR rfl (by rfl) (((unhide hBsW).ext hW).whole))) ?_
  go_frame
  iterate 1
   refine ql_want (v := ?_) rfl (by rfl) (fun W hW => ?_) ?_
   rotate_left
   ·go_simp
    first | done | rfl
   go_frame
  refine ql_want (v := .agg (setC (withoutS r u))) rfl (by rfl) (fun W hW => ?_) ?_
  ·go_simp
   refine (without_S r u W).mono ?_
   rintro _ _ ⟨h1,h2⟩
   exact ⟨_,h1,rfl,h2⟩
  go_frame
  iterate 2
   refine ql_want (v := ?_) rfl (by rfl) (fun W hW => ?_) ?_
   rotate_left
   ·go_simp
    first | done | rfl
   go_frame
  refine ql_want (v := .agg (setC (nearS u E))) rfl (by rfl) (fun W hW => ?_) ?_
  ·go_simp
   refine (nearG og V E u W ((unhide hgW).ext hW)).mono ?_
   rintro _ _ ⟨h1,h2⟩
   exact ⟨_,h1,rfl,h2⟩
  go_frame
  refine ql_want (v := .bool q) rfl (by rfl) (fun W hW => ?_) ?_
  ·go_simp
   refine (sub_any (withoutS r u) (nearS u E) W).mono ?_
   rw [unhide hq']
   rintro _ _ ⟨h1,h2⟩
   exact ⟨_,h1,rfl,h2⟩
  go_frame
  iterate 1
   refine ql_want (v := ?_) rfl (by rfl) (fun W hW => ?_) ?_
   rotate_left
   ·go_simp
    first | done | rfl
   go_frame
  refine wpQL_nil (fun w5 hx5 => ?_)
  refine wpX_done (by kernel_rfl) ?_
  try go_frame
  have hx5' := hide hx5
  clear c0 hself hx5
  cases q
  ·have hBr5 := ((unhide hBrW).ext (unhide hx5'))
   try dsimp only
   repeat ((fail_if_success (with_reducible refine wpI_reg (id := 4) (by kernel_rfl) ?_)); (first | go_values | gi_step | gi_guarded | gi_upon | gi_in | gi_back | fail))
   with_reducible refine wpI_reg (id := 4) (by kernel_rfl) ?_
   refine wpO_skip rfl (run_store_row (v := .bool false) rfl rfl rfl (by simp [go_sem]) hBr5 rfl (by simp [Value.cells,Value.oneCell'])) (wpO_done ?_)
   try go_frame
   simp only [Value.cells]
   have hBn := hBr5.row #[.bool false]
   have hkn := Keep.setRow w5 br #[.bool false]
   gi_wp2_with fail
   have hsz5 := Below.size (unhide hx5')
   refine ⟨by have := hkn.size; omega, ?_,rfl, ?_,hBn,((((unhide hxW').keep []).trans ((unhide hx5').keep [])).mono (by simp)).trans hkn⟩
   ·refine Same.of_keep ((((unhide hx5').keep []).mono (S' := [br]) (by simp)).trans hkn) fun z hz => ?_
    rw [List.mem_singleton]
    have h1 := (unhide hBr3).lt
    have h2 := unhide hT0
    have h3 := unhide hbrw
    have h4 := unhide hsz'
    rcases List.mem_append.1 hz with hz | hz
    ·rw [mem_privs] at hz; omega
    ·rw [List.mem_singleton] at hz
     subst hz
     exact ⟨by omega,fun e => by have := unhide hTl; omega⟩
   ·rw [Bool.eq_false_iff]
    intro h
    have := List.all_eq_true.1 h u (unhide hmem')
    rw [unhide hq'] at this
    cases this
  ·gi_wp2_with fail
   refine ⟨Below.size (unhide hx5'), ?_,fun v hv => ?_,(unhide hxW').trans (unhide hx5')⟩
   ·refine Same.of_keep ((unhide hx5').keep []) fun z hz => ?_
    have h2 := unhide hT0
    have h4 := unhide hsz'
    rcases List.mem_append.1 hz with hz | hz
    ·rw [mem_privs] at hz; exact ⟨by omega,by simp⟩
    ·rw [List.mem_singleton] at hz; exact ⟨by omega,by simp⟩
   ·rcases List.mem_append.1 hv with hv | hv
    ·exact unhide hok' v hv
    ·rw [List.mem_singleton] at hv
     rw [hv]
     exact unhide hq'
 ·intro W hI hDf
  have hres : cliqueS E r = true := List.all_eq_true.2 hI.1
  have hBrW := (unhide hBr3).ext hI.2
  have hxW' := hide ((unhide hx3).trans hI.2)
  have hD' := hide hDf
  have hBrW' := hide hBrW
  have hres' := hide hres
  clear hI hDf hBrW hres
  try dsimp only
  repeat ((fail_if_success (with_reducible refine wp_reg (id := 5) ?_)); (first | go_values | go_skip | go_step | go_guarded | go_upon | go_in | go_back | fail))
  with_reducible refine wp_reg (id := 5) ?_
  refine wpO_skip rfl (run_store_row (v := .bool true) rfl rfl rfl (by simp [go_sem]) (unhide hBrW') rfl (by simp [Value.cells,Value.oneCell'])) (wpO_done ?_)
  try go_frame
  simp only [Value.cells]
  have hBn := (unhide hBrW').row #[.bool true]
  have hkn := Keep.setRow W br #[.bool true]
  have hD2 := (hkn.block w3.heap.size (Array.getElem?_eq_some_iff.1 (unhide hD')).1 (by have := (unhide hBr3).lt; simp; omega)).trans (unhide hD')
  go_wp2_with fail
  have hL := load_bool (W.setRow br #[.bool true]) br true (hBn.cell 0)
  refine leaves_marks (B := w.heap.size) _ _ (.cons (unhide hz3) hD2 (by simp) (.nil _)) ?_
  rintro w' ⟨S,hS,hkS⟩
  have hS3 : ∀ z ∈ S,z = w3.heap.size := fun z hz => by
   obtain ⟨d,hd,e⟩ := hS z hz
   rw [List.mem_singleton] at hd
   subst hd
   injection e with e
   exact e.symm
  have hlb := (unhide hBr3).lt
  refine ⟨_,ret_cell1 rfl rfl (load_bool w' br true ((hBn.keep hkS (fun hm => by have := hS3 _ hm; omega)).cell 0)),by rw [unhide hres'], ?_⟩
  exact ((unhide hxW').of_new hkn (fun z hz => by rw [List.mem_singleton] at hz; subst hz; exact unhide hbrw)).of_new hkS (fun z hz => by have := hS3 z hz; have := unhide hz3; omega)
 ·rintro c pre W ⟨rfl,hres,hB,hk⟩ hDf
  go_wp2_with fail
  have hL := load_bool W br false (hB.cell 0)
  refine leaves_marks (B := w.heap.size) _ _ (.cons (unhide hz3) hDf (by simp) (.nil _)) ?_
  rintro w' ⟨S,hS,hkS⟩
  have hS3 : ∀ z ∈ S,z = w3.heap.size := fun z hz => by
   obtain ⟨d,hd,e⟩ := hS z hz
   rw [List.mem_singleton] at hd
   subst hd
   injection e with e
   exact e.symm
  have hlb := (unhide hBr3).lt
  refine ⟨_,ret_cell1 rfl rfl (load_bool w' br false ((hB.keep hkS (fun hm => by have := hS3 _ hm; omega)).cell 0)),by rw [hres], ?_⟩
  exact ((unhide hx3).of_new hk (fun z hz => by rw [List.mem_singleton] at hz; subst hz; exact unhide hbrw)).of_new hkS (fun z hz => by have := hS3 z hz; have := unhide hz3; omega)
set_option maxRecDepth 100000 in
set_option maxHeartbeats 1000000 in
theorem simple_any (og : Option Addr) (V : List (Int × Thing)) (E : List ((Int × Int) × Thing)) (id : Int) (left : Nat) (w : World) (hg : GL w og V E) (hT : Tab w) :
  Calls Tryz.prog 47 #[.pointer og, .int .i64 id, .agg (setC left)] w fun e w' => e = .returned (.bool (simpleS E id left)) ∧ Ext w w' := by
 have hx1 := hide (ext_self1 w (.cells (setC left) 51))
 have hBl := hide (Blk.new w 51 (setC left))
 have hg' := hide (hg.ext (unhide hx1))
 have hT' := hide (hT.ext (unhide hx1))
 clear hg hT
 go_enter Tryz.func47,Tryz.ntmps47
 have hself := Ext.refl (w.alloc (.cells (setC left) 51))
 go_wp2_with fail
 generalize w.alloc (.cells (setC left) 51) = w1 at *
 refine wp_region_ext (P := Tryz.prog) [0,1,2,3,4,5,6,7] [] 0 #[true,true,true,true,true,true,true,true] (by kernel_rfl) (by kernel_rfl) rfl (by rfl) ?_
 iterate 3
  refine ql_want (v := ?_) rfl (by rfl) (fun W hW => ?_) ?_
  rotate_left
  ·go_simp
   first | done | rfl
  go_frame
 refine ql_want (v := .agg (setC (nearS id E))) rfl (by rfl) (fun W hW => ?_) ?_
 ·go_simp
  refine (nearG og V E id W ((unhide hg').ext hW)).mono ?_
  rintro _ _ ⟨h1,h2⟩
  exact ⟨_,h1,rfl,h2⟩
 go_frame
 refine ql_want (v := .agg (setC (left))) rfl (by rfl) (fun W hW => qUpon_of (load_SetR rfl (by rfl) (((unhide hBl).ext hW).whole))) ?_
 go_frame
 refine ql_want (v := .agg (setC (nearS id E &&& left))) rfl (by rfl) (fun W hW => ?_) ?_
 ·go_simp
  refine (inter_any (nearS id E) left W).mono ?_
  rintro _ _ ⟨h1,h2⟩
  exact ⟨_,h1,rfl,h2⟩
 go_frame
 refine ql_want (v := .bool (simpleS E id left)) rfl (by rfl) (fun W hW => ?_) ?_
 ·go_simp
  refine (clique_any og V E (nearS id E &&& left) W ((unhide hg').ext hW) ((unhide hT').ext hW)).mono ?_
  rintro _ _ ⟨h1,h2⟩
  exact ⟨_,h1,rfl,h2⟩
 go_frame
 iterate 1
  refine ql_want (v := ?_) rfl (by rfl) (fun W hW => ?_) ?_
  rotate_left
  ·go_simp
   first | done | rfl
  go_frame
 refine wpQL_nil (fun w5 hx5 => ?_)
 refine wpX_done (by kernel_rfl) ?_
 try go_frame
 have hx5' := hide ((unhide hx1).trans hx5)
 clear hself hx5
 go_wp2_with fail
 go_ret
 exact ⟨rfl,unhide hx5'⟩
end Go.Proofs.YtmfkkkhddigkfaaGreatDoor
