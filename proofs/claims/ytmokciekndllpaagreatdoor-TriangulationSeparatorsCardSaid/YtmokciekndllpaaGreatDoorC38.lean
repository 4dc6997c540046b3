/- Parts of a proof, laid together. Each part says its own conditions. -/
import Derived.Test.YtmokciekndllpaaGreatDoorC19
import Derived.Test.YtmokciekndllpaaGreatDoorC37
import Derived.Test.YtmokciekndllpaaGreatDoorC35
import Derived.Test.YtmokciekndllpaaGreatDoorC33
import Derived.Test.YtmokciekndllpaaGreatDoorC15
import Derived.Test.YtmokciekndllpaaGreatDoorC24
import Derived.Test.YtmokciekndllpaaGreatDoorC13
import Derived.Test.YtmokciekndllpaaGreatDoorC25
namespace Go.Proofs.YtmokciekndllpaaGreatDoor
open Go Go.RowKit Go.Shelf
section
variable {P : Program}
theorem wpX_qlKA {Q : Act → World → Prop} {l : List Oper} {a : Act} {w : World} (S : List Nat) (anc : Nat → List Nat) (qs ts : List Nat) (n : Nat) (hB : qlB l.toArray qs ts anc = true)
  (h : wpQL P l.toArray Ext (Keep S w) (fun a' => ∀ w',Ext w w' → wpX P l.toArray Ext (Keep S w) (fun j => !ts.contains j) Q n (qlListed l.toArray qs (Array.replicate l.length false)) a' w') qs a) :
  wpX P l.toArray Ext (Keep S w) (fun j => !ts.contains j) Q (n + qs.length) (Array.replicate l.length false) a w.drew := by
 simp only [qlB,Bool.and_eq_true] at hB
 obtain ⟨⟨⟨h1,h2⟩,h3⟩,h4⟩ := hB
 have hsz : l.toArray.size = l.length := by simp
 rw [hsz] at h4
 exact wpX_qlx (P := P) (R := Ext) (C := Keep S w) (ancOk_of h1) (fun j hj => by
  simp only [Bool.not_eq_true',List.contains_eq_mem,decide_eq_false_iff_not]
  intro hin
  have := List.all_eq_true.1 h3 j hin
  simp at this
  omega) h2 Ext.refl (fun _ _ _ => Ext.trans) (fun _ _ h e => h.trans (e.keep _)) n qs _ a w.drew
  (fun j oj _ hl => by
   exfalso
   rcases Nat.lt_or_ge j l.length with hj | hj
   ·simp [hj] at hl
   ·simp [hj] at hl) h4 ((Ext.refl w).drew.keep S) (wpQL_mono (fun a' hk w'' e => hk w'' ((Ext.refl w).drew.trans e)) qs _ h)
theorem wp_regionKA {id : Nat} {Q : Exit → Act → World → Prop} {a : Act} {w : World} {l : List Oper} (S : List Nat) (anc : Nat → List Nat) (qs ts : List Nat) (n : Nat) (listed : Array Bool)
  (hm : P.follows .mixedOrders = true) (hB : qlB l.toArray qs ts anc = true) (hn : n + qs.length = l.length) (hlst : qlListed l.toArray qs (Array.replicate l.length false) = listed)
  (h : wpQL P l.toArray Ext (Keep S w) (fun a' => ∀ w',Ext w w' → wpX P l.toArray Ext (Keep S w) (fun j => !ts.contains j) (fun a w => Q .normal a w) n listed a' w') qs a) : (Code.region id l.toArray true).wp P Q a w := by
 subst hlst
 refine wp_region_any hm ?_
 have := wpX_qlKA (P := P) (Q := fun a w => Q .normal a w) S anc qs ts n hB h
 rw [hn] at this
 have hsz : l.toArray.size = l.length := by simp
 rw [hsz]
 exact wpAny_of_wpX (R := Ext) Ext.refl (fun _ _ h => h) _ _ _ _ this
end
section
variable {P : Program} {C : World → Prop} {safe : Nat → Bool} {Q : Act → World → Prop}
theorem lx_qlRA {R : World → World → Prop} {l : List Oper} {a : Act} {w : World} (C2 : World → Prop) (anc : Nat → List Nat) (qs ts : List Nat) (n m : Nat) (listed listed2 : Array Bool)
  (hB : mqB l.toArray qs ts anc listed = true) (hn : n + qs.length = m) (hlst : qlListed l.toArray qs listed = listed2) (hsub : ∀ w,C2 w → C w)
  (hR : ∀ w,R w w) (hRt : ∀ a b c,R a b → R b c → R a c) (hCR : ∀ w w',C2 w → R w w' → C2 w') (hC : C2 w)
  (h : wpQL P l.toArray R C2 (fun a' => ∀ w',R w w' → wpX P l.toArray R C2 (fun j => !ts.contains j) Q n listed2 a' w') qs a) : wpX P l.toArray R C (fun j => !ts.contains j) Q m listed a w := by
 subst hlst hn
 simp only [mqB,Bool.and_eq_true] at hB
 obtain ⟨⟨⟨⟨h1,h2⟩,h3⟩,h5⟩,h4⟩ := hB
 refine wpX_sub hsub _ _ _ _ (wpX_qlx (ancOk_of h1) (fun j hj => ?_) h2 hR hRt hCR n qs listed a w (closed_of h5) h4 hC h)
 simp only [Bool.not_eq_true',List.contains_eq_mem,decide_eq_false_iff_not]
 intro hin
 have := List.all_eq_true.1 h3 j hin
 simp at this
 simp at hj
 omega
theorem lx_rekeepA {l : List Oper} {a : Act} {W w1 : World} {S : List Nat} (hK : Keep S w1 W) (anc : Nat → List Nat) (qs ts : List Nat) (n m : Nat) (listed listed2 : Array Bool)
  (hB : mqB l.toArray qs ts anc listed = true) (hn : n + qs.length = m) (hlst : qlListed l.toArray qs listed = listed2)
  (h : wpQL P l.toArray Ext (Keep S W) (fun a' => ∀ w',Ext W w' → wpX P l.toArray Ext (Keep S W) (fun j => !ts.contains j) Q n listed2 a' w') qs a) : wpX P l.toArray Ext (Keep S w1) (fun j => !ts.contains j) Q m listed a W :=
 lx_qlRA (Keep S W) anc qs ts n m listed listed2 hB hn hlst (fun _ h => hK.trans h) Ext.refl (fun _ _ _ => Ext.trans) (fun _ _ h e => h.trans (e.keep _)) (Keep.refl _ _) h
end
end Go.Proofs.YtmokciekndllpaaGreatDoor
namespace Go.Proofs.YtmokciekndllpaaGreatDoor
open Go Go.RowKit Go.Shelf
attribute [local go_sem] qUpon lUpon
attribute [local irreducible] wpO wpX wpQL
def k4V : List (Int × Thing) := [((0 : Int),((0 : Int),(0 : Int))),(1,(0,0)),(2,(0,0)),(3,(0,0))]
def k4E0 : List ((Int × Int) × Thing) := [(((0 : Int),(1 : Int)),((0 : Int),(0 : Int))),((1,2),(0,0)),((2,3),(0,0)),((0,3),(0,0))]
def k4E : List ((Int × Int) × Thing) := [(((0 : Int),(1 : Int)),((0 : Int),(0 : Int))),((0,3),(0,0)),((1,2),(0,0)),((2,3),(0,0))]
set_option maxRecDepth 100000 in
theorem k4_err : bErr k4V k4E0 = 0 := by decide +kernel
set_option maxRecDepth 100000 in
theorem k4_bs : bS k4V k4E0 = (k4V,k4E) := by decide +kernel
set_option maxRecDepth 100000 in
theorem k4_ord : msOrd k4V k4E = [2,3,1,0] := by kernel_rfl
set_option maxRecDepth 100000 in
theorem k4_fill : (msFill k4V k4E).map edgeP = [((1,3),(0,0))] := by kernel_rfl
set_option maxRecDepth 100000 in
theorem k4_fln : (msFill k4V k4E).length = 1 := by kernel_rfl
set_option maxRecDepth 100000 in
theorem k4_sep : sepL k4V k4E = [5,10] := by kernel_rfl
theorem k4_msA : msA k4V k4E 9 = ([5,10],0) := by unfold msA; rw [k4_sep]; rfl
set_option maxRecDepth 100000 in
theorem k4_cross : crossS k4V k4E 5 10 = true := by kernel_rfl
set_option maxRecDepth 100000 in
theorem k4_of1 : fromS [0,2] = 5 := by kernel_rfl
set_option maxRecDepth 100000 in
theorem k4_of2 : fromS [1,3] = 10 := by kernel_rfl
theorem k4_eq5 : eqS 5 5 = true := eqS_iff.2 fun _ _ => rfl
theorem k4_eq10 : eqS 10 10 = true := eqS_iff.2 fun _ _ => rfl
theorem SlAt.atZ {α : Type} {enc : α → List Value} {k : Nat} {w : World} {A : Option Addr} {xs : List α} (h : SlAt enc k w A xs) (hne : xs ≠ []) : ∃ b off,A = some ⟨b,off,none⟩ ∧ b < w.heap.size ∧ ∀ (i : Nat) (hi : i < xs.length) W,Keep [] w W → ∀ (j : Nat) v,(enc xs[i])[j]? = some v → W.cell? ⟨b,off + i * k + j,none⟩ = some v := by
 obtain ⟨b,off,hA,hlt,hc⟩ := h hne
 refine ⟨b,off,hA,hlt,fun i hi W hk j v hv => ?_⟩
 rw [World.cell?_of_block (hk.block b hlt (by simp))]
 exact hc i _ (List.getElem?_eq_getElem hi) j v hv
theorem load_EdZ {ρ : Operand → Value} {o : Oper} {x : Operand} {w : World} {b off : Nat} {p q r s : Value} (ho : o.op = .load 61 x) (hx : ρ x = .pointer (some ⟨b,off,none⟩)) (hc : ∀ (j : Nat) v,(#[p,q,r,s] : Array Value)[j]? = some v → w.cell? ⟨b,off + j,none⟩ = some v) : (execOp ρ o).run Tryz.prog w = .ok (.value (.agg #[p,q,r,s])) w :=
 run_load_agg ho hx (by simp [go_sem]) (by simp [go_sem]) hc
set_option maxRecDepth 100000 in
set_option maxHeartbeats 16000000 in
theorem known25_any (w : World) (hT : Tab w) :
  Calls Tryz.prog 14 #[] w fun e w' => e = .returned (.bool true) ∧ Ext w w' := by
 have hT' := hide hT
 clear hT
 have hP := hide (Sp.new w)
 refine callsIn_wide.1 (callsIn_of_wp_marks (n := 0) Tryz.func14 rfl trivial (wpIn_wide.2 ?_))
 simp only [Tryz.ntmps14,List.size_toArray,List.length_nil,Nat.reduceSub,Array.replicate_succ,Array.replicate_zero,List.push_toArray,List.append_toArray,List.nil_append,List.cons_append]
 try dsimp only
 repeat ((fail_if_success (with_reducible refine wp_reg (id := 0) ?_)); (first | go_values | go_skip | go_step | go_guarded | go_upon | go_in | go_back | fail))
 with_reducible refine wp_reg (id := 0) ?_
 refine wpO_want rfl ?_
 go_simp
 refine wpO_done ?_
 try go_frame
 try dsimp only
 repeat ((fail_if_success (with_reducible refine wp_reg (id := 1) ?_)); (first | go_values | go_skip | go_step | go_guarded | go_upon | go_in | go_back | fail))
 with_reducible refine wp_reg (id := 1) ?_
 iterate 4
  refine wpO_want rfl ?_
  go_simp
 refine wpO_val (v := .slice (some ⟨w.heap.size,0,none⟩) 4 4) rfl (w' := w.alloc (.cells (k4V.flatMap encV).toArray 93)) (by go_simp; rfl) ?_
 have hQ := (unhide hP).alloc 93 (k4V.flatMap encV).toArray
 generalize w.alloc (.cells (k4V.flatMap encV).toArray 93) = zw at *
 generalize w.heap.size = bv4 at *
 replace hP : Hid (Sp w [] w [] [(bv4,93,(k4V.flatMap encV).toArray)] [] zw) := hide hQ
 clear hQ
 go_frame
 iterate 4
  refine wpO_want rfl ?_
  go_simp
 refine wpO_val (v := .slice (some ⟨zw.heap.size,0,none⟩) 4 4) rfl (w' := zw.alloc (.cells (k4E0.flatMap encE).toArray 61)) (by go_simp; rfl) ?_
 have hQ := (unhide hP).alloc 61 (k4E0.flatMap encE).toArray
 generalize zw.alloc (.cells (k4E0.flatMap encE).toArray 61) = zzw at *
 generalize zw.heap.size = be4 at *
 replace hP : Hid (Sp w [] w [] [(bv4,93,(k4V.flatMap encV).toArray),(be4,61,(k4E0.flatMap encE).toArray)] [] zzw) := hide hQ
 clear hQ
 go_frame
 refine wpO_want rfl ?_
 go_simp
 have hQv := slat_blk (enc := encV) (k := 3) k4V ((unhide hP).get 0 rfl) rfl (fun _ => rfl) (by decide)
 have hQe := slat_blk (enc := encE) (k := 4) k4E0 ((unhide hP).get 1 rfl) rfl (fun _ => rfl) (by decide)
 refine (build_any (some ⟨bv4,0,none⟩) (some ⟨be4,0,none⟩) k4V k4E0 4 4 _ hQv hQe (fun d hd => by
  simp [k4V] at hd
  rcases hd with rfl | rfl | rfl | rfl <;> (unfold okV i64ok; decide)) (fun d hd => by
  simp [k4E0] at hd
  rcases hd with rfl | rfl | rfl | rfl <;> (unfold okEd i64ok; decide)) (by decide) (by decide)).mono ?_
 clear hQv hQe
 rintro _ y1 h3
 unfold BuildPost at h3
 rw [k4_err,k4_bs] at h3
 obtain ⟨_,g4,bw4,bx4,rfl,hg3,hxc,_,_,_⟩ := h3.resolve_right (fun h => h.1 rfl)
 refine ⟨_,rfl, ?_⟩
 replace hP : Hid (Sp w [] w [] [(bv4,93,(k4V.flatMap encV).toArray),(be4,61,(k4E0.flatMap encE).toArray)] [] y1) := hide ((unhide hP).ext hxc)
 have hi4 := hide hg3.inv
 have hgN := hide (GL.of hg3)
 clear hg3 h3
 have hg4 := hgN
 clear hxc hgN
 generalize htu0 : Value.tuple _ = tu4
 have htu := hide htu0
 clear htu0
 refine wpO_val rfl (run_move rfl rfl) ?_
 go_frame
 refine wpO_val rfl (run_extract (i := 0) (v := .pointer (some ⟨g4,0,none⟩)) rfl (unhide htu).symm rfl) ?_
 go_frame
 refine wpO_val rfl (run_extract (i := 1) (v := .int .i64 0) rfl (unhide htu).symm rfl) ?_
 go_frame
 iterate 2
  refine wpO_want rfl ?_
  go_simp
 refine wpO_done ?_
 try go_frame
 clear htu
 try dsimp only
 repeat ((fail_if_success (with_reducible refine wp_reg (id := 2) ?_)); (first | go_values | go_skip | go_step | go_guarded | go_upon | go_in | go_back | fail))
 with_reducible refine wp_reg (id := 2) ?_
 refine wpO_want rfl ?_
 go_simp
 refine wpO_want rfl ?_
 go_simp
 have hca := mcsm_any (some ⟨g4,0,none⟩) k4V k4E y1 (unhide hi4) (unhide hg4) ((unhide hT').ext (unhide hP).extf) (by decide)
 rw [k4_ord] at hca
 refine hca.mono ?_
 clear hca
 rintro _ y2 ⟨Ao,co,rfl,hs0,hxc⟩
 refine ⟨_,rfl, ?_⟩
 simp only [List.length_cons,List.length_nil,Nat.zero_add,Nat.reduceAdd]
 replace hP : Hid (Sp w [] w [] [(bv4,93,(k4V.flatMap encV).toArray),(be4,61,(k4E0.flatMap encE).toArray)] [] y2) := hide ((unhide hP).ext hxc)
 replace hg4 := hide ((unhide hg4).ext (hxc))
 have hso := hide hs0
 clear hxc hs0
 try go_frame
 refine wpO_want rfl ?_
 go_simp
 refine wpO_done ?_
 try go_frame
 try dsimp only
 repeat ((fail_if_success (with_reducible refine wp_reg (id := 3) ?_)); (first | go_values | go_skip | go_step | go_guarded | go_upon | go_in | go_back | fail))
 with_reducible refine wp_reg (id := 3) ?_
 refine wpO_want rfl ?_
 go_simp
 refine wpO_want rfl ?_
 go_simp
 have hca := fillin_any (some ⟨g4,0,none⟩) k4V k4E y2 (unhide hi4) (unhide hg4) ((unhide hT').ext (unhide hP).extf)
 unfold FIPost at hca
 rw [k4_fill,k4_fln] at hca
 refine hca.mono ?_
 clear hca
 rintro _ y3 ⟨Aa,na,ca,rfl,hna,ho,hxc⟩
 subst hna
 refine ⟨_,rfl, ?_⟩
 replace hP : Hid (Sp w [] w [] [(bv4,93,(k4V.flatMap encV).toArray),(be4,61,(k4E0.flatMap encE).toArray)] [] y3) := hide ((unhide hP).ext hxc)
 replace hg4 := hide ((unhide hg4).ext (hxc))
 replace hso := hide ((unhide hso).ext (hxc))
 have hsa := hide (own_at (enc := encE) (xs := [(((1 : Int),(3 : Int)),((0 : Int),(0 : Int)))]) ho (fun _ => rfl))
 clear hxc ho
 try go_frame
 refine wpO_want rfl ?_
 go_simp
 refine wpO_done ?_
 try go_frame
 try dsimp only
 repeat ((fail_if_success (with_reducible refine wp_reg (id := 4) ?_)); (first | go_values | go_skip | go_step | go_guarded | go_upon | go_in | go_back | fail))
 with_reducible refine wp_reg (id := 4) ?_
 refine wpO_want rfl ?_
 go_simp
 refine wpO_want rfl ?_
 go_simp
 have hca := minsep_any g4 k4V k4E 9 y3 (unhide hi4) (unhide hg4) ((unhide hT').ext (unhide hP).extf) (by decide)
 rw [k4_msA] at hca
 refine hca.mono ?_
 clear hca
 rintro _ y4 ⟨Al,cl,rfl,ho,hxc⟩
 refine ⟨_,rfl, ?_⟩
 simp only [List.length_cons,List.length_nil,Nat.zero_add,Nat.reduceAdd] at ho ⊢
 replace hP : Hid (Sp w [] w [] [(bv4,93,(k4V.flatMap encV).toArray),(be4,61,(k4E0.flatMap encE).toArray)] [] y4) := hide ((unhide hP).ext hxc)
 replace hg4 := hide ((unhide hg4).ext (hxc))
 replace hso := hide ((unhide hso).ext (hxc))
 replace hsa := hide ((unhide hsa).ext (hxc))
 have hsl := hide (own_at (enc := encS) (xs := [5,10]) ho encS_len)
 clear hxc ho
 try go_frame
 generalize htu0 : Value.tuple _ = tu
 have htu := hide htu0
 clear htu0
 refine wpO_val rfl (run_move rfl rfl) ?_
 go_frame
 refine wpO_val rfl (run_extract (i := 0) (v := .slice Al 2 cl) rfl (unhide htu).symm rfl) ?_
 go_frame
 refine wpO_val rfl (run_extract (i := 1) (v := .int .i64 0) rfl (unhide htu).symm rfl) ?_
 go_frame
 iterate 2
  refine wpO_want rfl ?_
  go_simp
 refine wpO_done ?_
 try go_frame
 clear htu
 go_wp2_with fail
 obtain ⟨bo,oo,rfl,_,hco⟩ := (unhide hso).atZ (by simp)
 obtain ⟨ba,oa,rfl,_,hca⟩ := (unhide hsa).atZ (by simp)
 obtain ⟨bl,ol,rfl,_,hcl⟩ := (unhide hsl).atZ (by simp)
 have o0 : ∀ W,Keep [] y4 W → W.cell? ⟨bo,oo,none⟩ = some (.int .i64 2) := fun W hW => hco 0 (by simp) W hW 0 _ rfl
 have o1 : ∀ W,Keep [] y4 W → W.cell? ⟨bo,oo + 1,none⟩ = some (.int .i64 3) := fun W hW => hco 1 (by simp) W hW 0 _ rfl
 have o2 : ∀ W,Keep [] y4 W → W.cell? ⟨bo,oo + 2,none⟩ = some (.int .i64 1) := fun W hW => hco 2 (by simp) W hW 0 _ rfl
 have o3 : ∀ W,Keep [] y4 W → W.cell? ⟨bo,oo + 3,none⟩ = some (.int .i64 0) := fun W hW => hco 3 (by simp) W hW 0 _ rfl
 have ha := hide (show ∀ W,Keep [] y4 W → ∀ (j : Nat) v,(#[.int .i64 1, .int .i64 3, .int .u8 0, .int .i64 0] : Array Value)[j]? = some v → W.cell? ⟨ba,oa + j,none⟩ = some v from fun W hW j v hv => hca 0 (by simp) W hW j v (by rw [← hv]; exact Array.getElem?_toList))
 have hl0 := hide (show ∀ W,Keep [] y4 W → ∀ (j : Nat) v,(setC 5)[j]? = some v → W.cell? ⟨bl,ol + j,none⟩ = some v from fun W hW j v hv => hcl 0 (by simp) W hW j v (by rw [← hv]; exact Array.getElem?_toList))
 have hl1 := hide (show ∀ W,Keep [] y4 W → ∀ (j : Nat) v,(setC 10)[j]? = some v → W.cell? ⟨bl,ol + 16 + j,none⟩ = some v from fun W hW j v hv => hcl 1 (by simp) W hW j v (by rw [← hv]; exact Array.getElem?_toList))
 have hself := Keep.refl [] y4
 clear hco hca hcl hso hsa hsl
 refine wp_regionKA (P := Tryz.prog) [] (fun _ => []) [0,1,2,3,4,5,6,7,8,9,10,11,12,13,14,15,16,17,18,19,20,21,22,23,24,25,26,27,28,29,30,31,32,33,34,35,36,37,38,39,40,41,42,43,44,45,46,47,48,49,50,51,52,53,54,55] [] 23 #[true,true,true,true,true,true,true,true,true,true,true,true,true,true,true,true,true,true,true,true,true,true,true,true,true,true,true,true,true,true,true,true,true,true,true,true,true,true,true,true,true,true,true,true,true,true,true,true,true,true,true,true,true,true,true,true,false,false,false,false,false,false,false,false,false,false,false,false,false,false,false,false,false,false,false,false,false,false,false] (by kernel_rfl) (by kernel_rfl) rfl (by kernel_rfl) ?_
 iterate 43
  refine ql_want (v := ?_) rfl (by rfl) (fun W hW => ?_) ?_
  rotate_left
  ·go_simp
   first | done | rfl
  go_frame
 refine ql_want (v := .agg #[.int .i64 1, .int .i64 3, .int .u8 0, .int .i64 0]) rfl (by rfl) (fun W hW => qUpon_ofX (load_EdZ rfl rfl (unhide ha W hW))) ?_
 go_frame
 iterate 11
  refine ql_want (v := ?_) rfl (by rfl) (fun W hW => ?_) ?_
  rotate_left
  ·go_simp
   first | done | rfl
  go_frame
 refine ql_want (v := .agg (setC 5)) rfl (by rfl) (fun W hW => qUpon_ofX (load_SetR (N := 5) rfl rfl (unhide hl0 W hW))) ?_
 go_frame
 refine wpQL_nil (fun y5 hxq => ?_)
 have hK := hide (hxq.keep [])
 replace hP : Hid (Sp w [] w [] [(bv4,93,(k4V.flatMap encV).toArray),(be4,61,(k4E0.flatMap encE).toArray)] [] y5) := hide ((unhide hP).ext hxq)
 clear hxq
 clear hself o0 o1 o2 o3 ha
 refine lx_one (i := 56) (by kernel_rfl) rfl (by rfl) #[true,true,true,true,true,true,true,true,true,true,true,true,true,true,true,true,true,true,true,true,true,true,true,true,true,true,true,true,true,true,true,true,true,true,true,true,true,true,true,true,true,true,true,true,true,true,true,true,true,true,true,true,true,true,true,true,true,false,false,false,false,false,false,false,false,false,false,false,false,false,false,false,false,false,false,false,false,false,false] (by rfl) ?_
 refine (unhide hP).allocL (unhide hK) (v := fun b => .slice (some ⟨b,0,none⟩) 2 2) 3 #[.int .i64 0, .int .i64 2] ?_ ?_
 ·go_simp
 intro bp y6 hQ hK2 hg2
 replace hP : Hid (Sp w [] w [] [(bv4,93,(k4V.flatMap encV).toArray),(be4,61,(k4E0.flatMap encE).toArray),(bp,3, #[.int .i64 0, .int .i64 2])] [] y6) := hide hQ
 replace hK := hide hK2
 have hge_bp := hide hg2
 clear hQ hK2 hg2
 try go_frame
 refine lx_one (i := 57) (by kernel_rfl) rfl (by rfl) #[true,true,true,true,true,true,true,true,true,true,true,true,true,true,true,true,true,true,true,true,true,true,true,true,true,true,true,true,true,true,true,true,true,true,true,true,true,true,true,true,true,true,true,true,true,true,true,true,true,true,true,true,true,true,true,true,true,true,false,false,false,false,false,false,false,false,false,false,false,false,false,false,false,false,false,false,false,false,false] (by rfl) ?_
 have hca := of_any (some ⟨bp,0,none⟩) [0,2] 2 y6 (slat_blk (enc := encI) (k := 1) [0,2] ((unhide hP).get 2 rfl) rfl (fun _ => rfl) (by decide)) (by simp)
 rw [k4_of1] at hca
 go_simp
 refine (hca).mono ?_
 rintro _ zy7 ⟨rfl,hxc⟩
 clear hca
 refine ⟨_,rfl,(unhide hK).trans (hxc.keep _),fun y7 hxd => ?_⟩
 replace hP : Hid (Sp w [] w [] [(bv4,93,(k4V.flatMap encV).toArray),(be4,61,(k4E0.flatMap encE).toArray),(bp,3, #[.int .i64 0, .int .i64 2])] [] y7) := hide ((unhide hP).ext (hxc.trans hxd))
 replace hK := hide ((unhide hK).trans ((hxc.trans hxd).keep _))
 clear hxc hxd
 try go_frame
 have hKa := hK
 refine lx_rekeepA (unhide hK) (fun _ => []) [58,59,60,61,62,63] [] 15 21 #[true,true,true,true,true,true,true,true,true,true,true,true,true,true,true,true,true,true,true,true,true,true,true,true,true,true,true,true,true,true,true,true,true,true,true,true,true,true,true,true,true,true,true,true,true,true,true,true,true,true,true,true,true,true,true,true,true,true,false,false,false,false,false,false,false,false,false,false,false,false,false,false,false,false,false,false,false,false,false] #[true,true,true,true,true,true,true,true,true,true,true,true,true,true,true,true,true,true,true,true,true,true,true,true,true,true,true,true,true,true,true,true,true,true,true,true,true,true,true,true,true,true,true,true,true,true,true,true,true,true,true,true,true,true,true,true,true,true,true,true,true,true,true,true,false,false,false,false,false,false,false,false,false,false,false,false,false,false,false] (by kernel_rfl) rfl (by kernel_rfl) ?_
 clear hK
 refine ql_want (v := .bool true) rfl (by rfl) (fun W hW => qUpon_ofX (by rw [run_eql_Set (N := 5) (M := 5) rfl rfl rfl,k4_eq5])) ?_
 go_frame
 iterate 4
  refine ql_want (v := ?_) rfl (by rfl) (fun W hW => ?_) ?_
  rotate_left
  ·go_simp
   first | done | rfl
  go_frame
 refine ql_want (v := .agg (setC 10)) rfl (by rfl) (fun W hW => qUpon_ofX (load_SetR (N := 10) rfl rfl (unhide hl1 W ((unhide hKa).trans hW)))) ?_
 go_frame
 refine wpQL_nil (fun y8 hxq => ?_)
 have hK := hide (hxq.keep [])
 replace hP : Hid (Sp w [] w [] [(bv4,93,(k4V.flatMap encV).toArray),(be4,61,(k4E0.flatMap encE).toArray),(bp,3, #[.int .i64 0, .int .i64 2])] [] y8) := hide ((unhide hP).ext hxq)
 clear hxq
 refine lx_one (i := 64) (by kernel_rfl) rfl (by rfl) #[true,true,true,true,true,true,true,true,true,true,true,true,true,true,true,true,true,true,true,true,true,true,true,true,true,true,true,true,true,true,true,true,true,true,true,true,true,true,true,true,true,true,true,true,true,true,true,true,true,true,true,true,true,true,true,true,true,true,true,true,true,true,true,true,true,false,false,false,false,false,false,false,false,false,false,false,false,false,false] (by rfl) ?_
 refine (unhide hP).allocL (unhide hK) (v := fun b => .slice (some ⟨b,0,none⟩) 2 2) 3 #[.int .i64 1, .int .i64 3] ?_ ?_
 ·go_simp
 intro bq y9 hQ hK2 hg2
 replace hP : Hid (Sp w [] w [] [(bv4,93,(k4V.flatMap encV).toArray),(be4,61,(k4E0.flatMap encE).toArray),(bp,3, #[.int .i64 0, .int .i64 2]),(bq,3, #[.int .i64 1, .int .i64 3])] [] y9) := hide hQ
 replace hK := hide hK2
 have hge_bq := hide hg2
 clear hQ hK2 hg2
 try go_frame
 refine lx_one (i := 65) (by kernel_rfl) rfl (by rfl) #[true,true,true,true,true,true,true,true,true,true,true,true,true,true,true,true,true,true,true,true,true,true,true,true,true,true,true,true,true,true,true,true,true,true,true,true,true,true,true,true,true,true,true,true,true,true,true,true,true,true,true,true,true,true,true,true,true,true,true,true,true,true,true,true,true,true,false,false,false,false,false,false,false,false,false,false,false,false,false] (by rfl) ?_
 have hca := of_any (some ⟨bq,0,none⟩) [1,3] 2 y9 (slat_blk (enc := encI) (k := 1) [1,3] ((unhide hP).get 3 rfl) rfl (fun _ => rfl) (by decide)) (by simp)
 rw [k4_of2] at hca
 go_simp
 refine (hca).mono ?_
 rintro _ zy10 ⟨rfl,hxc⟩
 clear hca
 refine ⟨_,rfl,(unhide hK).trans (hxc.keep _),fun y10 hxd => ?_⟩
 replace hP : Hid (Sp w [] w [] [(bv4,93,(k4V.flatMap encV).toArray),(be4,61,(k4E0.flatMap encE).toArray),(bp,3, #[.int .i64 0, .int .i64 2]),(bq,3, #[.int .i64 1, .int .i64 3])] [] y10) := hide ((unhide hP).ext (hxc.trans hxd))
 replace hK := hide ((unhide hK).trans ((hxc.trans hxd).keep _))
 clear hxc hxd
 try go_frame
 replace hKa := hide ((unhide hKa).trans (unhide hK))
 refine lx_rekeepA (unhide hK) (fun _ => []) [66,67,68,69,70,71,72,73,74,75,76,77,78] [] 0 13 #[true,true,true,true,true,true,true,true,true,true,true,true,true,true,true,true,true,true,true,true,true,true,true,true,true,true,true,true,true,true,true,true,true,true,true,true,true,true,true,true,true,true,true,true,true,true,true,true,true,true,true,true,true,true,true,true,true,true,true,true,true,true,true,true,true,true,false,false,false,false,false,false,false,false,false,false,false,false,false] #[true,true,true,true,true,true,true,true,true,true,true,true,true,true,true,true,true,true,true,true,true,true,true,true,true,true,true,true,true,true,true,true,true,true,true,true,true,true,true,true,true,true,true,true,true,true,true,true,true,true,true,true,true,true,true,true,true,true,true,true,true,true,true,true,true,true,true,true,true,true,true,true,true,true,true,true,true,true,true] (by kernel_rfl) rfl (by kernel_rfl) ?_
 clear hK
 refine ql_want (v := .bool true) rfl (by rfl) (fun W hW => qUpon_ofX (by rw [run_eql_Set (N := 10) (M := 10) rfl rfl rfl,k4_eq10])) ?_
 go_frame
 iterate 5
  refine ql_want (v := ?_) rfl (by rfl) (fun W hW => ?_) ?_
  rotate_left
  ·go_simp
   first | done | rfl
  go_frame
 refine ql_want (v := .agg (setC 5)) rfl (by rfl) (fun W hW => qUpon_ofX (load_SetR (N := 5) rfl rfl (unhide hl0 W ((unhide hKa).trans hW)))) ?_
 go_frame
 iterate 2
  refine ql_want (v := ?_) rfl (by rfl) (fun W hW => ?_) ?_
  rotate_left
  ·go_simp
   first | done | rfl
  go_frame
 refine ql_want (v := .agg (setC 10)) rfl (by rfl) (fun W hW => qUpon_ofX (load_SetR (N := 10) rfl rfl (unhide hl1 W ((unhide hKa).trans hW)))) ?_
 go_frame
 refine ql_want (v := .bool true) rfl (by rfl) (fun W hW => ?_) ?_
 ·go_simp
  refine (crosses_any (some ⟨g4,0,none⟩) k4V k4E 5 10 W (unhide hi4) ((unhide hg4).ext ((unhide hKa).trans hW).ext) ((unhide hT').ext ((unhide hP).extf.trans hW.ext))).mono ?_
  rw [k4_cross]
  rintro _ _ ⟨h1,h2⟩
  exact ⟨_,h1,rfl,h2⟩
 go_frame
 iterate 2
  refine ql_want (v := ?_) rfl (by rfl) (fun W hW => ?_) ?_
  rotate_left
  ·go_simp
   first | done | rfl
  go_frame
 refine wpQL_nil (fun y11 hxq => ?_)
 replace hP : Hid (Sp w [] w [] [(bv4,93,(k4V.flatMap encV).toArray),(be4,61,(k4E0.flatMap encE).toArray),(bp,3, #[.int .i64 0, .int .i64 2]),(bq,3, #[.int .i64 1, .int .i64 3])] [] y11) := hide ((unhide hP).ext hxq)
 clear hxq
 refine wpX_done (by kernel_rfl) ?_
 try go_frame
 go_wp2_with fail
 refine Sp.leaves0 ?_
 exact ⟨_,results_tmp (t := 0) rfl _ _ _,rfl,(unhide hP).extf⟩
end Go.Proofs.YtmokciekndllpaaGreatDoor
namespace Go.Proofs.YtmokciekndllpaaGreatDoor
open Go Go.RowKit Go.Shelf
attribute [local go_sem] qUpon lUpon
attribute [local irreducible] wpO wpX wpQL
def Bg5 (w : World) (V : List (Int × Thing)) (E : List ((Int × Int) × Thing)) (q : Bool) (e : Ending) (w' : World) : Prop :=
 ∃ g bv be A B cA cB,e = .returned (.tuple #[.pointer (some ⟨g,0,none⟩), .agg #[.slice A V.length cA, .slice B E.length cB], .bool q]) ∧ IsG w' g bv be V E ∧ SlAt encV 3 w' A V ∧ SlAt encE 4 w' B E ∧ Ext w w'
set_option maxRecDepth 100000 in
set_option maxHeartbeats 16000000 in
theorem begun25_any (A : Option Addr) (L : List Ed) (cL : Nat) (w : World) (hL : SlAt encD 5 w A L) :
  Calls Tryz.prog 13 #[.slice A L.length cL] w (Bg5 w (mdS L).1 (mdS L).2 (decide (((mdS L).1.length : Int) ≤ 9))) := by
 have hinv := hide (mdS_inv L)
 have hmd := hide (fun (W : World) (hW : Ext w W) => made_any A L cL W (hL.ext hW))
 generalize mdS L = S at *
 obtain ⟨V,E⟩ := S
 try dsimp only at hinv hmd ⊢
 obtain ⟨q,hq⟩ : ∃ q,q = decide ((V.length : Int) ≤ 9) := ⟨_,rfl⟩
 rw [← hq]
 have hq0 := hide hq
 clear hL hq
 have hP := hide (Sp.new w)
 refine callsIn_wide.1 (callsIn_of_wp_marks (n := 0) Tryz.func13 rfl trivial (wpIn_wide.2 ?_))
 simp only [Tryz.ntmps13,List.size_toArray,List.length_cons,List.length_nil,Nat.reduceAdd,Nat.reduceSub,Array.replicate_succ,Array.replicate_zero,List.push_toArray,List.append_toArray,List.nil_append,List.cons_append]
 try dsimp only
 repeat ((fail_if_success (with_reducible refine wp_reg (id := 0) ?_)); (first | go_values | go_skip | go_step | go_guarded | go_upon | go_in | go_back | fail))
 with_reducible refine wp_reg (id := 0) ?_
 refine wpO_want rfl ?_
 go_simp
 refine (unhide hP).allocO 30 #[.slice none 0 0, .slice none 0 0] rfl (by go_simp) ?_
 intro r3 y1 hQ
 replace hP : Hid (Sp w [] w [] [(r3,30, #[.slice none 0 0, .slice none 0 0])] [] y1) := hide hQ
 clear hQ
 refine wpO_want rfl ?_
 go_simp
 refine wpO_done ?_
 try go_frame
 try dsimp only
 repeat ((fail_if_success (with_reducible refine wp_reg (id := 1) ?_)); (first | go_values | go_skip | go_step | go_guarded | go_upon | go_in | go_back | fail))
 with_reducible refine wp_reg (id := 1) ?_
 refine wpO_want rfl ?_
 go_simp
 refine wpO_want rfl ?_
 go_simp
 refine (unhide hmd _ (unhide hP).extf).mono ?_
 rintro _ y2 ⟨A1,cA,B1,cB,rfl,hs1,he1,hxc⟩
 try dsimp only at hs1 he1 ⊢
 refine ⟨_,rfl, ?_⟩
 replace hP : Hid (Sp w [] w [] [(r3,30, #[.slice none 0 0, .slice none 0 0])] [] y2) := hide ((unhide hP).ext hxc)
 clear hxc
 refine (unhide hP).allocT 30 #[.slice none 0 0, .slice none 0 0] rfl (by go_simp) ?_
 intro r5 y3 hQ hxa hga
 replace hP : Hid (Sp w [] w [] [(r3,30, #[.slice none 0 0, .slice none 0 0]),(r5,30, #[.slice none 0 0, .slice none 0 0])] [] y3) := hide hQ
 clear hQ
 try go_frame
 refine (unhide hP).setT 1 #[.slice A1 V.length cA, .slice B1 E.length cB] rfl rfl (fun hb => run_store_row (v := .agg #[.slice A1 V.length cA, .slice B1 E.length cB]) rfl (by rfl) (by rfl) (by simp [go_sem]) hb rfl (fun u hu => by simp [Value.cells] at hu; rcases hu with rfl | rfl <;> rfl)) ?_
 intro y4 hQ hkq
 replace hP : Hid (Sp w [] w [] [(r3,30, #[.slice none 0 0, .slice none 0 0]),(r5,30, #[.slice A1 V.length cA, .slice B1 E.length cB])] [] y4) := hide hQ
 have hxs := hxa.of_new hkq (fun x hx => by rw [List.mem_singleton] at hx; rw [hx]; exact hga)
 clear hQ hkq hxa hga
 try go_frame
 refine wpO_done ?_
 try go_frame
 replace hs1 := hide (hs1.ext hxs)
 replace he1 := hide (he1.ext hxs)
 clear hxs
 have q0 := (unhide hP).cell 1 0 (v := .slice A1 V.length cA) rfl rfl
 have q1 := (unhide hP).cell 1 1 (v := .slice B1 E.length cB) rfl rfl
 have hself := Ext.refl y4
 try dsimp only
 repeat ((fail_if_success (with_reducible refine wp_reg (id := 2) ?_)); (first | go_values | go_skip | go_step | go_guarded | go_upon | go_in | go_back | fail))
 with_reducible refine wp_reg (id := 2) ?_
 refine wpO_want rfl ?_
 go_simp
 clear q0 q1 hself
 refine wpO_want rfl ?_
 go_simp
 refine (from_any A1 B1 V E cA cB y4 (unhide hs1) (unhide he1) (unhide hinv)).mono ?_
 rintro _ y5 ⟨g,bv,be,rfl,hg0,hxc,n1,n2,n3⟩
 refine ⟨_,rfl, ?_⟩
 have hr3 := hide (show r3 < y4.heap.size from (unhide hP).lt r3 ((unhide hP).st.mem 0 rfl))
 have hng := hide (show r3 ≠ g ∧ r3 ≠ bv ∧ r3 ≠ be by have := unhide hr3; omega)
 replace hP : Hid (Sp w [] w [] [(r3,30, #[.slice none 0 0, .slice none 0 0]),(r5,30, #[.slice A1 V.length cA, .slice B1 E.length cB])] [] y5) := hide ((unhide hP).ext hxc)
 replace hs1 := hide ((unhide hs1).ext hxc)
 replace he1 := hide ((unhide he1).ext hxc)
 have hg := hide hg0
 clear hxc hg0 n1 n2 n3 hr3
 refine wpO_want rfl ?_
 go_simp
 refine wpO_done ?_
 try go_frame
 go_wp2_with fail
 have hb3 := hide ((unhide hP).get 0 rfl)
 have hsk := hide (fun (W : World) (hW : Keep [r3] y5 W) => SlAt.keep_G (unhide hs1) (unhide hb3) ⟨_,_,_,rfl⟩ ⟨_,_,_,rfl⟩ encV_ns (fun x => ⟨_,rfl⟩) hW)
 have hek := hide (fun (W : World) (hW : Keep [r3] y5 W) => SlAt.keep_G (unhide he1) (unhide hb3) ⟨_,_,_,rfl⟩ ⟨_,_,_,rfl⟩ encE_ns (fun x => ⟨_,rfl⟩) hW)
 have hgk := hide (fun (W : World) (hW : Keep [r3] y5 W) => (unhide hg).keep hW (by have := unhide hng; simp; omega) (by have := unhide hng; simp; omega) (by have := unhide hng; simp; omega))
 clear hs1 he1 hg hb3 hinv
 have q0 := (unhide hP).cellK (S := [r3]) 1 0 (v := .slice A1 V.length cA) rfl rfl (by rw [List.mem_singleton]; exact (unhide hP).ne 1 0 (by decide) rfl rfl)
 have q1 := (unhide hP).cellK (S := [r3]) 1 1 (v := .slice B1 E.length cB) rfl rfl (by rw [List.mem_singleton]; exact (unhide hP).ne 1 0 (by decide) rfl rfl)
 have hself := Keep.refl [r3] y5
 have hq' := (unhide hq0).symm
 have hq2 : decide (V.length ≤ 9) = q := by rw [← hq',decide_eq_decide]; omega
 refine wp_regionK (P := Tryz.prog) [r3] [0,1,2,3,4,5,6,7,8,9,10] [] 2 #[true,true,true,true,true,true,true,true,true,true,true,false,false] (by kernel_rfl) (by kernel_rfl) rfl (by rfl) ?_
 iterate 8
  refine ql_want (v := ?_) rfl (by rfl) (fun W hW => ?_) ?_
  rotate_left
  ·go_simp
   first | done | rfl
  go_frame
 refine ql_want (v := .bool q) rfl (by rfl) (fun W hW => ?_) ?_
 ·go_simp
  first | done | rfl | (rw [hq']) | (rw [hq2]) | simp [hq'] | simp [hq2]
 go_frame
 iterate 2
  refine ql_want (v := ?_) rfl (by rfl) (fun W hW => ?_) ?_
  rotate_left
  ·go_simp
   first | done | rfl
  go_frame
 refine wpQL_nil (fun y6 hxq => ?_)
 have hK := hide (hxq.keep [r3])
 replace hP : Hid (Sp w [] w [] [(r3,30, #[.slice none 0 0, .slice none 0 0]),(r5,30, #[.slice A1 V.length cA, .slice B1 E.length cB])] [] y6) := hide ((unhide hP).ext hxq)
 clear hxq
 clear q0 q1 hself hq' hq2
 have hKa := hK
 refine lx_one (i := 11) (by kernel_rfl) rfl (by rfl) #[true,true,true,true,true,true,true,true,true,true,true,true,false] (by rfl) ?_
 refine (unhide hP).setL (unhide hK) 0 #[.slice A1 V.length cA, .slice B1 E.length cB] rfl (by simp) (fun hb => run_store_row (v := .agg #[.slice A1 V.length cA, .slice B1 E.length cB]) rfl (by rfl) (by rfl) (by simp [go_sem]) hb rfl (fun u hu => by simp [Value.cells] at hu; rcases hu with rfl | rfl <;> rfl)) ?_
 intro y7 hQ hK2
 replace hP : Hid (Sp w [] w [] [(r3,30, #[.slice A1 V.length cA, .slice B1 E.length cB]),(r5,30, #[.slice A1 V.length cA, .slice B1 E.length cB])] [] y7) := hide hQ
 replace hK := hide hK2
 clear hQ hK2
 try go_frame
 have hKb := hK
 refine lx_rekeep (unhide hK) [12] [] 0 1 #[true,true,true,true,true,true,true,true,true,true,true,true,false] #[true,true,true,true,true,true,true,true,true,true,true,true,true] (by kernel_rfl) rfl (by rfl) ?_
 clear hK
 iterate 1
  refine ql_want (v := ?_) rfl (by rfl) (fun W hW => ?_) ?_
  rotate_left
  ·go_simp
   first | done | rfl
  go_frame
 refine wpQL_nil (fun y8 hxq => ?_)
 have hK := hide (hxq.keep [r3])
 replace hP : Hid (Sp w [] w [] [(r3,30, #[.slice A1 V.length cA, .slice B1 E.length cB]),(r5,30, #[.slice A1 V.length cA, .slice B1 E.length cB])] [] y8) := hide ((unhide hP).ext hxq)
 clear hxq
 refine wpX_done (by kernel_rfl) ?_
 try go_frame
 go_wp2_with fail
 have hKe := hide ((unhide hKb).trans (unhide hK))
 refine Sp.leaves0 ?_
 have h5 := (unhide hP).get 0 rfl
 refine ⟨_,ret_tct24 rfl rfl (load_G _ r3 _ _ (h5.cell 0) (h5.cell 1)), ?_⟩
 exact ⟨g,bv,be,A1,B1,cA,cB,rfl,unhide hgk _ (unhide hKe),unhide hsk _ (unhide hKe),unhide hek _ (unhide hKe),(unhide hP).extf⟩
end Go.Proofs.YtmokciekndllpaaGreatDoor
