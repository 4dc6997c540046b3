/- Parts of a proof, laid together. Each part says its own conditions. -/
import Derived.Test.YtbpeemhfjgcnaaaGreatC6
namespace Go.Proofs.YtbpeemhfjgcnaaaGreat
open Go Go.RowKit
set_option maxRecDepth 100000 in
set_option maxHeartbeats 4000000 in
theorem wrongR_0 (A B : Option Addr) (V : List (Int × Thing)) (E : List ((Int × Int) × Thing)) (cV cE : Nat) (u v lab wt : Int) (w : World) (hV : SlAt encV 3 w A V) (hE : SlAt encE 4 w B E) (hl : V.length ≤ 4096)  :
  Calls Tryz.prog 57 #[.agg #[.slice A V.length cV, .slice B E.length cE], .agg #[.int .i64 0, .int .i64 u, .int .i64 v, .int .u8 lab, .int .i64 wt]] w fun e w' => e = .returned (.int .i64 (wrongR 0 u v wt V E)) ∧ Ext w w' := by
 have p0 : pairsB 0 = false := by decide
 have p1 : weighsB 0 = true := by decide
 obtain ⟨hb,he⟩ := blk2 w #[.slice A V.length cV, .slice B E.length cE] #[.int .i64 0, .int .i64 u, .int .i64 v, .int .u8 lab, .int .i64 wt] 28 60
 have d0 := hb.cells 0 (v := .slice A V.length cV) rfl
 have d1 := hb.cells 1 (v := .slice B E.length cE) rfl
 obtain ⟨c0,c1,c2,c3,c4⟩ := EditAt.of' he
 have hV1 := hV.ext (ext_self2 w (.cells #[.slice A V.length cV, .slice B E.length cE] 28) (.cells #[.int .i64 0, .int .i64 u, .int .i64 v, .int .u8 lab, .int .i64 wt] 60))
 have hE1 := hE.ext (ext_self2 w (.cells #[.slice A V.length cV, .slice B E.length cE] 28) (.cells #[.int .i64 0, .int .i64 u, .int .i64 v, .int .u8 lab, .int .i64 wt] 60))
 clear hb he hV hE
 go_enter Tryz.func57,Tryz.ntmps57
 go_wp2_with (first | (go_at_call 60; refine (pair_any _ _ _ _ _ _).mono ?_; rintro e wn ⟨rfl,hn⟩; have hz : Ext ((w.alloc (.cells #[.slice A V.length cV, .slice B E.length cE] 28)).alloc (.cells #[.int .i64 0, .int .i64 u, .int .i64 v, .int .u8 lab, .int .i64 wt] 60)) wn := Ext.trans (by first | exact Ext.refl _ | assumption) hn; clear hn) | (go_at_call 84; refine (rheavy_any _ _ _ _ _ _).mono ?_; rintro e wn ⟨rfl,hn⟩; have hz : Ext ((w.alloc (.cells #[.slice A V.length cV, .slice B E.length cE] 28)).alloc (.cells #[.int .i64 0, .int .i64 u, .int .i64 v, .int .u8 lab, .int .i64 wt] 60)) wn := Ext.trans (by first | exact Ext.refl _ | assumption) hn; clear hn) | (go_at_call 19; refine (find_any A B V cV E.length cE _ _ (hV1.ext (by first | exact Ext.refl _ | assumption)) hl).mono ?_; rintro e wn ⟨rfl,hn⟩; have hz : Ext ((w.alloc (.cells #[.slice A V.length cV, .slice B E.length cE] 28)).alloc (.cells #[.int .i64 0, .int .i64 u, .int .i64 v, .int .u8 lab, .int .i64 wt] 60)) wn := Ext.trans (by first | exact Ext.refl _ | assumption) hn; clear hn) | (go_at_call 61; refine (redge_any A B E V.length cV cE _ _ _ (hE1.ext (by first | exact Ext.refl _ | assumption)) (by assumption)).mono ?_; rintro e wn ⟨rfl,hn⟩; have hz : Ext ((w.alloc (.cells #[.slice A V.length cV, .slice B E.length cE] 28)).alloc (.cells #[.int .i64 0, .int .i64 u, .int .i64 v, .int .u8 lab, .int .i64 wt] 60)) wn := Ext.trans (by first | exact Ext.refl _ | assumption) hn; clear hn))
 all_goals (go_ret; refine ⟨ret_int ?_,by first | exact (ext_self2 _ _ _).trans hz | exact ext_self2 _ _ _⟩)
 all_goals (clear c0 c1 c2 c3 c4 d0 d1 hV1 hE1)
 all_goals (unfold wrongR w1B w2B w3B idB heavyB hasV hasE; simp only [p0,p1])
 all_goals ((repeat' split) <;> first | (simp at *; done) | (simp at *; omega) | (simp_all; done) | (simp_all; omega))
set_option maxRecDepth 100000 in
set_option maxHeartbeats 4000000 in
theorem wrongR_1 (A B : Option Addr) (V : List (Int × Thing)) (E : List ((Int × Int) × Thing)) (cV cE : Nat) (u v lab wt : Int) (w : World) (hV : SlAt encV 3 w A V) (hE : SlAt encE 4 w B E) (hl : V.length ≤ 4096)  :
  Calls Tryz.prog 57 #[.agg #[.slice A V.length cV, .slice B E.length cE], .agg #[.int .i64 1, .int .i64 u, .int .i64 v, .int .u8 lab, .int .i64 wt]] w fun e w' => e = .returned (.int .i64 (wrongR 1 u v wt V E)) ∧ Ext w w' := by
 have p0 : pairsB 1 = false := by decide
 have p1 : weighsB 1 = false := by decide
 obtain ⟨hb,he⟩ := blk2 w #[.slice A V.length cV, .slice B E.length cE] #[.int .i64 1, .int .i64 u, .int .i64 v, .int .u8 lab, .int .i64 wt] 28 60
 have d0 := hb.cells 0 (v := .slice A V.length cV) rfl
 have d1 := hb.cells 1 (v := .slice B E.length cE) rfl
 obtain ⟨c0,c1,c2,c3,c4⟩ := EditAt.of' he
 have hV1 := hV.ext (ext_self2 w (.cells #[.slice A V.length cV, .slice B E.length cE] 28) (.cells #[.int .i64 1, .int .i64 u, .int .i64 v, .int .u8 lab, .int .i64 wt] 60))
 have hE1 := hE.ext (ext_self2 w (.cells #[.slice A V.length cV, .slice B E.length cE] 28) (.cells #[.int .i64 1, .int .i64 u, .int .i64 v, .int .u8 lab, .int .i64 wt] 60))
 clear hb he hV hE
 go_enter Tryz.func57,Tryz.ntmps57
 go_wp2_with (first | (go_at_call 60; refine (pair_any _ _ _ _ _ _).mono ?_; rintro e wn ⟨rfl,hn⟩; have hz : Ext ((w.alloc (.cells #[.slice A V.length cV, .slice B E.length cE] 28)).alloc (.cells #[.int .i64 1, .int .i64 u, .int .i64 v, .int .u8 lab, .int .i64 wt] 60)) wn := Ext.trans (by first | exact Ext.refl _ | assumption) hn; clear hn) | (go_at_call 84; refine (rheavy_any _ _ _ _ _ _).mono ?_; rintro e wn ⟨rfl,hn⟩; have hz : Ext ((w.alloc (.cells #[.slice A V.length cV, .slice B E.length cE] 28)).alloc (.cells #[.int .i64 1, .int .i64 u, .int .i64 v, .int .u8 lab, .int .i64 wt] 60)) wn := Ext.trans (by first | exact Ext.refl _ | assumption) hn; clear hn) | (go_at_call 19; refine (find_any A B V cV E.length cE _ _ (hV1.ext (by first | exact Ext.refl _ | assumption)) hl).mono ?_; rintro e wn ⟨rfl,hn⟩; have hz : Ext ((w.alloc (.cells #[.slice A V.length cV, .slice B E.length cE] 28)).alloc (.cells #[.int .i64 1, .int .i64 u, .int .i64 v, .int .u8 lab, .int .i64 wt] 60)) wn := Ext.trans (by first | exact Ext.refl _ | assumption) hn; clear hn) | (go_at_call 61; refine (redge_any A B E V.length cV cE _ _ _ (hE1.ext (by first | exact Ext.refl _ | assumption)) (by assumption)).mono ?_; rintro e wn ⟨rfl,hn⟩; have hz : Ext ((w.alloc (.cells #[.slice A V.length cV, .slice B E.length cE] 28)).alloc (.cells #[.int .i64 1, .int .i64 u, .int .i64 v, .int .u8 lab, .int .i64 wt] 60)) wn := Ext.trans (by first | exact Ext.refl _ | assumption) hn; clear hn))
 all_goals (go_ret; refine ⟨ret_int ?_,by first | exact (ext_self2 _ _ _).trans hz | exact ext_self2 _ _ _⟩)
 all_goals (clear c0 c1 c2 c3 c4 d0 d1 hV1 hE1)
 all_goals (unfold wrongR w1B w2B w3B idB heavyB hasV hasE; simp only [p0,p1])
 all_goals ((repeat' split) <;> first | (simp at *; done) | (simp at *; omega) | (simp_all; done) | (simp_all; omega))
set_option maxRecDepth 100000 in
set_option maxHeartbeats 4000000 in
theorem wrongR_4 (A B : Option Addr) (V : List (Int × Thing)) (E : List ((Int × Int) × Thing)) (cV cE : Nat) (u v lab wt : Int) (w : World) (hV : SlAt encV 3 w A V) (hE : SlAt encE 4 w B E) (hl : V.length ≤ 4096)  :
  Calls Tryz.prog 57 #[.agg #[.slice A V.length cV, .slice B E.length cE], .agg #[.int .i64 4, .int .i64 u, .int .i64 v, .int .u8 lab, .int .i64 wt]] w fun e w' => e = .returned (.int .i64 (wrongR 4 u v wt V E)) ∧ Ext w w' := by
 have p0 : pairsB 4 = false := by decide
 have p1 : weighsB 4 = false := by decide
 obtain ⟨hb,he⟩ := blk2 w #[.slice A V.length cV, .slice B E.length cE] #[.int .i64 4, .int .i64 u, .int .i64 v, .int .u8 lab, .int .i64 wt] 28 60
 have d0 := hb.cells 0 (v := .slice A V.length cV) rfl
 have d1 := hb.cells 1 (v := .slice B E.length cE) rfl
 obtain ⟨c0,c1,c2,c3,c4⟩ := EditAt.of' he
 have hV1 := hV.ext (ext_self2 w (.cells #[.slice A V.length cV, .slice B E.length cE] 28) (.cells #[.int .i64 4, .int .i64 u, .int .i64 v, .int .u8 lab, .int .i64 wt] 60))
 have hE1 := hE.ext (ext_self2 w (.cells #[.slice A V.length cV, .slice B E.length cE] 28) (.cells #[.int .i64 4, .int .i64 u, .int .i64 v, .int .u8 lab, .int .i64 wt] 60))
 clear hb he hV hE
 go_enter Tryz.func57,Tryz.ntmps57
 go_wp2_with (first | (go_at_call 60; refine (pair_any _ _ _ _ _ _).mono ?_; rintro e wn ⟨rfl,hn⟩; have hz : Ext ((w.alloc (.cells #[.slice A V.length cV, .slice B E.length cE] 28)).alloc (.cells #[.int .i64 4, .int .i64 u, .int .i64 v, .int .u8 lab, .int .i64 wt] 60)) wn := Ext.trans (by first | exact Ext.refl _ | assumption) hn; clear hn) | (go_at_call 84; refine (rheavy_any _ _ _ _ _ _).mono ?_; rintro e wn ⟨rfl,hn⟩; have hz : Ext ((w.alloc (.cells #[.slice A V.length cV, .slice B E.length cE] 28)).alloc (.cells #[.int .i64 4, .int .i64 u, .int .i64 v, .int .u8 lab, .int .i64 wt] 60)) wn := Ext.trans (by first | exact Ext.refl _ | assumption) hn; clear hn) | (go_at_call 19; refine (find_any A B V cV E.length cE _ _ (hV1.ext (by first | exact Ext.refl _ | assumption)) hl).mono ?_; rintro e wn ⟨rfl,hn⟩; have hz : Ext ((w.alloc (.cells #[.slice A V.length cV, .slice B E.length cE] 28)).alloc (.cells #[.int .i64 4, .int .i64 u, .int .i64 v, .int .u8 lab, .int .i64 wt] 60)) wn := Ext.trans (by first | exact Ext.refl _ | assumption) hn; clear hn) | (go_at_call 61; refine (redge_any A B E V.length cV cE _ _ _ (hE1.ext (by first | exact Ext.refl _ | assumption)) (by assumption)).mono ?_; rintro e wn ⟨rfl,hn⟩; have hz : Ext ((w.alloc (.cells #[.slice A V.length cV, .slice B E.length cE] 28)).alloc (.cells #[.int .i64 4, .int .i64 u, .int .i64 v, .int .u8 lab, .int .i64 wt] 60)) wn := Ext.trans (by first | exact Ext.refl _ | assumption) hn; clear hn))
 all_goals (go_ret; refine ⟨ret_int ?_,by first | exact (ext_self2 _ _ _).trans hz | exact ext_self2 _ _ _⟩)
 all_goals (clear c0 c1 c2 c3 c4 d0 d1 hV1 hE1)
 all_goals (unfold wrongR w1B w2B w3B idB heavyB hasV hasE; simp only [p0,p1])
 all_goals ((repeat' split) <;> first | (simp at *; done) | (simp at *; omega) | (simp_all; done) | (simp_all; omega))
set_option maxRecDepth 100000 in
set_option maxHeartbeats 4000000 in
theorem wrongR_5 (A B : Option Addr) (V : List (Int × Thing)) (E : List ((Int × Int) × Thing)) (cV cE : Nat) (u v lab wt : Int) (w : World) (hV : SlAt encV 3 w A V) (hE : SlAt encE 4 w B E) (hl : V.length ≤ 4096)  :
  Calls Tryz.prog 57 #[.agg #[.slice A V.length cV, .slice B E.length cE], .agg #[.int .i64 5, .int .i64 u, .int .i64 v, .int .u8 lab, .int .i64 wt]] w fun e w' => e = .returned (.int .i64 (wrongR 5 u v wt V E)) ∧ Ext w w' := by
 have p0 : pairsB 5 = false := by decide
 have p1 : weighsB 5 = true := by decide
 obtain ⟨hb,he⟩ := blk2 w #[.slice A V.length cV, .slice B E.length cE] #[.int .i64 5, .int .i64 u, .int .i64 v, .int .u8 lab, .int .i64 wt] 28 60
 have d0 := hb.cells 0 (v := .slice A V.length cV) rfl
 have d1 := hb.cells 1 (v := .slice B E.length cE) rfl
 obtain ⟨c0,c1,c2,c3,c4⟩ := EditAt.of' he
 have hV1 := hV.ext (ext_self2 w (.cells #[.slice A V.length cV, .slice B E.length cE] 28) (.cells #[.int .i64 5, .int .i64 u, .int .i64 v, .int .u8 lab, .int .i64 wt] 60))
 have hE1 := hE.ext (ext_self2 w (.cells #[.slice A V.length cV, .slice B E.length cE] 28) (.cells #[.int .i64 5, .int .i64 u, .int .i64 v, .int .u8 lab, .int .i64 wt] 60))
 clear hb he hV hE
 go_enter Tryz.func57,Tryz.ntmps57
 go_wp2_with (first | (go_at_call 60; refine (pair_any _ _ _ _ _ _).mono ?_; rintro e wn ⟨rfl,hn⟩; have hz : Ext ((w.alloc (.cells #[.slice A V.length cV, .slice B E.length cE] 28)).alloc (.cells #[.int .i64 5, .int .i64 u, .int .i64 v, .int .u8 lab, .int .i64 wt] 60)) wn := Ext.trans (by first | exact Ext.refl _ | assumption) hn; clear hn) | (go_at_call 84; refine (rheavy_any _ _ _ _ _ _).mono ?_; rintro e wn ⟨rfl,hn⟩; have hz : Ext ((w.alloc (.cells #[.slice A V.length cV, .slice B E.length cE] 28)).alloc (.cells #[.int .i64 5, .int .i64 u, .int .i64 v, .int .u8 lab, .int .i64 wt] 60)) wn := Ext.trans (by first | exact Ext.refl _ | assumption) hn; clear hn) | (go_at_call 19; refine (find_any A B V cV E.length cE _ _ (hV1.ext (by first | exact Ext.refl _ | assumption)) hl).mono ?_; rintro e wn ⟨rfl,hn⟩; have hz : Ext ((w.alloc (.cells #[.slice A V.length cV, .slice B E.length cE] 28)).alloc (.cells #[.int .i64 5, .int .i64 u, .int .i64 v, .int .u8 lab, .int .i64 wt] 60)) wn := Ext.trans (by first | exact Ext.refl _ | assumption) hn; clear hn) | (go_at_call 61; refine (redge_any A B E V.length cV cE _ _ _ (hE1.ext (by first | exact Ext.refl _ | assumption)) (by assumption)).mono ?_; rintro e wn ⟨rfl,hn⟩; have hz : Ext ((w.alloc (.cells #[.slice A V.length cV, .slice B E.length cE] 28)).alloc (.cells #[.int .i64 5, .int .i64 u, .int .i64 v, .int .u8 lab, .int .i64 wt] 60)) wn := Ext.trans (by first | exact Ext.refl _ | assumption) hn; clear hn))
 all_goals (go_ret; refine ⟨ret_int ?_,by first | exact (ext_self2 _ _ _).trans hz | exact ext_self2 _ _ _⟩)
 all_goals (clear c0 c1 c2 c3 c4 d0 d1 hV1 hE1)
 all_goals (unfold wrongR w1B w2B w3B idB heavyB hasV hasE; simp only [p0,p1])
 all_goals ((repeat' split) <;> first | (simp at *; done) | (simp at *; omega) | (simp_all; done) | (simp_all; omega))
end Go.Proofs.YtbpeemhfjgcnaaaGreat
namespace Go.Proofs.YtbpeemhfjgcnaaaGreat
open Go Go.RowKit
set_option maxRecDepth 100000 in
set_option maxHeartbeats 4000000 in
theorem wrongR_2 (A B : Option Addr) (V : List (Int × Thing)) (E : List ((Int × Int) × Thing)) (cV cE : Nat) (u v lab wt : Int) (w : World) (hV : SlAt encV 3 w A V) (hE : SlAt encE 4 w B E) (hl : V.length ≤ 4096) (hle : E.length ≤ 4096) :
  Calls Tryz.prog 57 #[.agg #[.slice A V.length cV, .slice B E.length cE], .agg #[.int .i64 2, .int .i64 u, .int .i64 v, .int .u8 lab, .int .i64 wt]] w fun e w' => e = .returned (.int .i64 (wrongR 2 u v wt V E)) ∧ Ext w w' := by
 have p0 : pairsB 2 = true := by decide
 have p1 : weighsB 2 = true := by decide
 obtain ⟨hb,he⟩ := blk2 w #[.slice A V.length cV, .slice B E.length cE] #[.int .i64 2, .int .i64 u, .int .i64 v, .int .u8 lab, .int .i64 wt] 28 60
 have d0 := hb.cells 0 (v := .slice A V.length cV) rfl
 have d1 := hb.cells 1 (v := .slice B E.length cE) rfl
 obtain ⟨c0,c1,c2,c3,c4⟩ := EditAt.of' he
 have hV1 := hV.ext (ext_self2 w (.cells #[.slice A V.length cV, .slice B E.length cE] 28) (.cells #[.int .i64 2, .int .i64 u, .int .i64 v, .int .u8 lab, .int .i64 wt] 60))
 have hE1 := hE.ext (ext_self2 w (.cells #[.slice A V.length cV, .slice B E.length cE] 28) (.cells #[.int .i64 2, .int .i64 u, .int .i64 v, .int .u8 lab, .int .i64 wt] 60))
 clear hb he hV hE
 go_enter Tryz.func57,Tryz.ntmps57
 go_wp2_with (first | (go_at_call 60; refine (pair_any _ _ _ _ _ _).mono ?_; rintro e wn ⟨rfl,hn⟩; have hz : Ext ((w.alloc (.cells #[.slice A V.length cV, .slice B E.length cE] 28)).alloc (.cells #[.int .i64 2, .int .i64 u, .int .i64 v, .int .u8 lab, .int .i64 wt] 60)) wn := Ext.trans (by first | exact Ext.refl _ | assumption) hn; clear hn) | (go_at_call 84; refine (rheavy_any _ _ _ _ _ _).mono ?_; rintro e wn ⟨rfl,hn⟩; have hz : Ext ((w.alloc (.cells #[.slice A V.length cV, .slice B E.length cE] 28)).alloc (.cells #[.int .i64 2, .int .i64 u, .int .i64 v, .int .u8 lab, .int .i64 wt] 60)) wn := Ext.trans (by first | exact Ext.refl _ | assumption) hn; clear hn) | (go_at_call 19; refine (find_any A B V cV E.length cE _ _ (hV1.ext (by first | exact Ext.refl _ | assumption)) hl).mono ?_; rintro e wn ⟨rfl,hn⟩; have hz : Ext ((w.alloc (.cells #[.slice A V.length cV, .slice B E.length cE] 28)).alloc (.cells #[.int .i64 2, .int .i64 u, .int .i64 v, .int .u8 lab, .int .i64 wt] 60)) wn := Ext.trans (by first | exact Ext.refl _ | assumption) hn; clear hn) | (go_at_call 61; refine (redge_any A B E V.length cV cE _ _ _ (hE1.ext (by first | exact Ext.refl _ | assumption)) hle).mono ?_; rintro e wn ⟨rfl,hn⟩; have hz : Ext ((w.alloc (.cells #[.slice A V.length cV, .slice B E.length cE] 28)).alloc (.cells #[.int .i64 2, .int .i64 u, .int .i64 v, .int .u8 lab, .int .i64 wt] 60)) wn := Ext.trans (by first | exact Ext.refl _ | assumption) hn; clear hn))
 all_goals (go_ret; refine ⟨ret_int ?_,by first | exact (ext_self2 _ _ _).trans hz | exact ext_self2 _ _ _⟩)
 all_goals (clear c0 c1 c2 c3 c4 d0 d1 hV1 hE1)
 all_goals (unfold wrongR w1B w2B w3B idB heavyB hasV hasE; simp only [p0,p1])
 all_goals ((repeat' split) <;> first | (simp at *; done) | (simp at *; omega) | (simp_all; done) | (simp_all; omega))
end Go.Proofs.YtbpeemhfjgcnaaaGreat
namespace Go.Proofs.YtbpeemhfjgcnaaaGreat
open Go Go.RowKit
set_option maxRecDepth 100000 in
set_option maxHeartbeats 4000000 in
theorem wrongR_3 (A B : Option Addr) (V : List (Int × Thing)) (E : List ((Int × Int) × Thing)) (cV cE : Nat) (u v lab wt : Int) (w : World) (hV : SlAt encV 3 w A V) (hE : SlAt encE 4 w B E) (hl : V.length ≤ 4096) (hle : E.length ≤ 4096) :
  Calls Tryz.prog 57 #[.agg #[.slice A V.length cV, .slice B E.length cE], .agg #[.int .i64 3, .int .i64 u, .int .i64 v, .int .u8 lab, .int .i64 wt]] w fun e w' => e = .returned (.int .i64 (wrongR 3 u v wt V E)) ∧ Ext w w' := by
 have p0 : pairsB 3 = true := by decide
 have p1 : weighsB 3 = false := by decide
 obtain ⟨hb,he⟩ := blk2 w #[.slice A V.length cV, .slice B E.length cE] #[.int .i64 3, .int .i64 u, .int .i64 v, .int .u8 lab, .int .i64 wt] 28 60
 have d0 := hb.cells 0 (v := .slice A V.length cV) rfl
 have d1 := hb.cells 1 (v := .slice B E.length cE) rfl
 obtain ⟨c0,c1,c2,c3,c4⟩ := EditAt.of' he
 have hV1 := hV.ext (ext_self2 w (.cells #[.slice A V.length cV, .slice B E.length cE] 28) (.cells #[.int .i64 3, .int .i64 u, .int .i64 v, .int .u8 lab, .int .i64 wt] 60))
 have hE1 := hE.ext (ext_self2 w (.cells #[.slice A V.length cV, .slice B E.length cE] 28) (.cells #[.int .i64 3, .int .i64 u, .int .i64 v, .int .u8 lab, .int .i64 wt] 60))
 clear hb he hV hE
 go_enter Tryz.func57,Tryz.ntmps57
 go_wp2_with (first | (go_at_call 60; refine (pair_any _ _ _ _ _ _).mono ?_; rintro e wn ⟨rfl,hn⟩; have hz : Ext ((w.alloc (.cells #[.slice A V.length cV, .slice B E.length cE] 28)).alloc (.cells #[.int .i64 3, .int .i64 u, .int .i64 v, .int .u8 lab, .int .i64 wt] 60)) wn := Ext.trans (by first | exact Ext.refl _ | assumption) hn; clear hn) | (go_at_call 84; refine (rheavy_any _ _ _ _ _ _).mono ?_; rintro e wn ⟨rfl,hn⟩; have hz : Ext ((w.alloc (.cells #[.slice A V.length cV, .slice B E.length cE] 28)).alloc (.cells #[.int .i64 3, .int .i64 u, .int .i64 v, .int .u8 lab, .int .i64 wt] 60)) wn := Ext.trans (by first | exact Ext.refl _ | assumption) hn; clear hn) | (go_at_call 19; refine (find_any A B V cV E.length cE _ _ (hV1.ext (by first | exact Ext.refl _ | assumption)) hl).mono ?_; rintro e wn ⟨rfl,hn⟩; have hz : Ext ((w.alloc (.cells #[.slice A V.length cV, .slice B E.length cE] 28)).alloc (.cells #[.int .i64 3, .int .i64 u, .int .i64 v, .int .u8 lab, .int .i64 wt] 60)) wn := Ext.trans (by first | exact Ext.refl _ | assumption) hn; clear hn) | (go_at_call 61; refine (redge_any A B E V.length cV cE _ _ _ (hE1.ext (by first | exact Ext.refl _ | assumption)) hle).mono ?_; rintro e wn ⟨rfl,hn⟩; have hz : Ext ((w.alloc (.cells #[.slice A V.length cV, .slice B E.length cE] 28)).alloc (.cells #[.int .i64 3, .int .i64 u, .int .i64 v, .int .u8 lab, .int .i64 wt] 60)) wn := Ext.trans (by first | exact Ext.refl _ | assumption) hn; clear hn))
 all_goals (go_ret; refine ⟨ret_int ?_,by first | exact (ext_self2 _ _ _).trans hz | exact ext_self2 _ _ _⟩)
 all_goals (clear c0 c1 c2 c3 c4 d0 d1 hV1 hE1)
 all_goals (unfold wrongR w1B w2B w3B idB heavyB hasV hasE; simp only [p0,p1])
 all_goals ((repeat' split) <;> first | (simp at *; done) | (simp at *; omega) | (simp_all; done) | (simp_all; omega))
set_option maxRecDepth 100000 in
set_option maxHeartbeats 4000000 in
theorem wrongR_7 (A B : Option Addr) (V : List (Int × Thing)) (E : List ((Int × Int) × Thing)) (cV cE : Nat) (u v lab wt : Int) (w : World) (hV : SlAt encV 3 w A V) (hE : SlAt encE 4 w B E) (hl : V.length ≤ 4096) (hle : E.length ≤ 4096) :
  Calls Tryz.prog 57 #[.agg #[.slice A V.length cV, .slice B E.length cE], .agg #[.int .i64 7, .int .i64 u, .int .i64 v, .int .u8 lab, .int .i64 wt]] w fun e w' => e = .returned (.int .i64 (wrongR 7 u v wt V E)) ∧ Ext w w' := by
 have p0 : pairsB 7 = true := by decide
 have p1 : weighsB 7 = true := by decide
 obtain ⟨hb,he⟩ := blk2 w #[.slice A V.length cV, .slice B E.length cE] #[.int .i64 7, .int .i64 u, .int .i64 v, .int .u8 lab, .int .i64 wt] 28 60
 have d0 := hb.cells 0 (v := .slice A V.length cV) rfl
 have d1 := hb.cells 1 (v := .slice B E.length cE) rfl
 obtain ⟨c0,c1,c2,c3,c4⟩ := EditAt.of' he
 have hV1 := hV.ext (ext_self2 w (.cells #[.slice A V.length cV, .slice B E.length cE] 28) (.cells #[.int .i64 7, .int .i64 u, .int .i64 v, .int .u8 lab, .int .i64 wt] 60))
 have hE1 := hE.ext (ext_self2 w (.cells #[.slice A V.length cV, .slice B E.length cE] 28) (.cells #[.int .i64 7, .int .i64 u, .int .i64 v, .int .u8 lab, .int .i64 wt] 60))
 clear hb he hV hE
 go_enter Tryz.func57,Tryz.ntmps57
 go_wp2_with (first | (go_at_call 60; refine (pair_any _ _ _ _ _ _).mono ?_; rintro e wn ⟨rfl,hn⟩; have hz : Ext ((w.alloc (.cells #[.slice A V.length cV, .slice B E.length cE] 28)).alloc (.cells #[.int .i64 7, .int .i64 u, .int .i64 v, .int .u8 lab, .int .i64 wt] 60)) wn := Ext.trans (by first | exact Ext.refl _ | assumption) hn; clear hn) | (go_at_call 84; refine (rheavy_any _ _ _ _ _ _).mono ?_; rintro e wn ⟨rfl,hn⟩; have hz : Ext ((w.alloc (.cells #[.slice A V.length cV, .slice B E.length cE] 28)).alloc (.cells #[.int .i64 7, .int .i64 u, .int .i64 v, .int .u8 lab, .int .i64 wt] 60)) wn := Ext.trans (by first | exact Ext.refl _ | assumption) hn; clear hn) | (go_at_call 19; refine (find_any A B V cV E.length cE _ _ (hV1.ext (by first | exact Ext.refl _ | assumption)) hl).mono ?_; rintro e wn ⟨rfl,hn⟩; have hz : Ext ((w.alloc (.cells #[.slice A V.length cV, .slice B E.length cE] 28)).alloc (.cells #[.int .i64 7, .int .i64 u, .int .i64 v, .int .u8 lab, .int .i64 wt] 60)) wn := Ext.trans (by first | exact Ext.refl _ | assumption) hn; clear hn) | (go_at_call 61; refine (redge_any A B E V.length cV cE _ _ _ (hE1.ext (by first | exact Ext.refl _ | assumption)) hle).mono ?_; rintro e wn ⟨rfl,hn⟩; have hz : Ext ((w.alloc (.cells #[.slice A V.length cV, .slice B E.length cE] 28)).alloc (.cells #[.int .i64 7, .int .i64 u, .int .i64 v, .int .u8 lab, .int .i64 wt] 60)) wn := Ext.trans (by first | exact Ext.refl _ | assumption) hn; clear hn))
 all_goals (go_ret; refine ⟨ret_int ?_,by first | exact (ext_self2 _ _ _).trans hz | exact ext_self2 _ _ _⟩)
 all_goals (clear c0 c1 c2 c3 c4 d0 d1 hV1 hE1)
 all_goals (unfold wrongR w1B w2B w3B idB heavyB hasV hasE; simp only [p0,p1])
 all_goals ((repeat' split) <;> first | (simp at *; done) | (simp at *; omega) | (simp_all; done) | (simp_all; omega))
end Go.Proofs.YtbpeemhfjgcnaaaGreat
namespace Go.Proofs.YtbpeemhfjgcnaaaGreat
open Go Go.RowKit
set_option maxRecDepth 100000 in
set_option maxHeartbeats 4000000 in
theorem wrongR_6 (A B : Option Addr) (V : List (Int × Thing)) (E : List ((Int × Int) × Thing)) (cV cE : Nat) (u v lab wt : Int) (w : World) (hV : SlAt encV 3 w A V) (hE : SlAt encE 4 w B E) (hl : V.length ≤ 4096) (hle : E.length ≤ 4096) :
  Calls Tryz.prog 57 #[.agg #[.slice A V.length cV, .slice B E.length cE], .agg #[.int .i64 6, .int .i64 u, .int .i64 v, .int .u8 lab, .int .i64 wt]] w fun e w' => e = .returned (.int .i64 (wrongR 6 u v wt V E)) ∧ Ext w w' := by
 have p0 : pairsB 6 = true := by decide
 have p1 : weighsB 6 = false := by decide
 obtain ⟨hb,he⟩ := blk2 w #[.slice A V.length cV, .slice B E.length cE] #[.int .i64 6, .int .i64 u, .int .i64 v, .int .u8 lab, .int .i64 wt] 28 60
 have d0 := hb.cells 0 (v := .slice A V.length cV) rfl
 have d1 := hb.cells 1 (v := .slice B E.length cE) rfl
 obtain ⟨c0,c1,c2,c3,c4⟩ := EditAt.of' he
 have hV1 := hV.ext (ext_self2 w (.cells #[.slice A V.length cV, .slice B E.length cE] 28) (.cells #[.int .i64 6, .int .i64 u, .int .i64 v, .int .u8 lab, .int .i64 wt] 60))
 have hE1 := hE.ext (ext_self2 w (.cells #[.slice A V.length cV, .slice B E.length cE] 28) (.cells #[.int .i64 6, .int .i64 u, .int .i64 v, .int .u8 lab, .int .i64 wt] 60))
 clear hb he hV hE
 go_enter Tryz.func57,Tryz.ntmps57
 go_wp2_with (first | (go_at_call 60; refine (pair_any _ _ _ _ _ _).mono ?_; rintro e wn ⟨rfl,hn⟩; have hz : Ext ((w.alloc (.cells #[.slice A V.length cV, .slice B E.length cE] 28)).alloc (.cells #[.int .i64 6, .int .i64 u, .int .i64 v, .int .u8 lab, .int .i64 wt] 60)) wn := Ext.trans (by first | exact Ext.refl _ | assumption) hn; clear hn) | (go_at_call 84; refine (rheavy_any _ _ _ _ _ _).mono ?_; rintro e wn ⟨rfl,hn⟩; have hz : Ext ((w.alloc (.cells #[.slice A V.length cV, .slice B E.length cE] 28)).alloc (.cells #[.int .i64 6, .int .i64 u, .int .i64 v, .int .u8 lab, .int .i64 wt] 60)) wn := Ext.trans (by first | exact Ext.refl _ | assumption) hn; clear hn) | (go_at_call 19; refine (find_any A B V cV E.length cE _ _ (hV1.ext (by first | exact Ext.refl _ | assumption)) hl).mono ?_; rintro e wn ⟨rfl,hn⟩; have hz : Ext ((w.alloc (.cells #[.slice A V.length cV, .slice B E.length cE] 28)).alloc (.cells #[.int .i64 6, .int .i64 u, .int .i64 v, .int .u8 lab, .int .i64 wt] 60)) wn := Ext.trans (by first | exact Ext.refl _ | assumption) hn; clear hn) | (go_at_call 61; refine (redge_any A B E V.length cV cE _ _ _ (hE1.ext (by first | exact Ext.refl _ | assumption)) hle).mono ?_; rintro e wn ⟨rfl,hn⟩; have hz : Ext ((w.alloc (.cells #[.slice A V.length cV, .slice B E.length cE] 28)).alloc (.cells #[.int .i64 6, .int .i64 u, .int .i64 v, .int .u8 lab, .int .i64 wt] 60)) wn := Ext.trans (by first | exact Ext.refl _ | assumption) hn; clear hn))
 all_goals (go_ret; refine ⟨ret_int ?_,by first | exact (ext_self2 _ _ _).trans hz | exact ext_self2 _ _ _⟩)
 all_goals (clear c0 c1 c2 c3 c4 d0 d1 hV1 hE1)
 all_goals (unfold wrongR w1B w2B w3B idB heavyB hasV hasE; simp only [p0,p1])
 all_goals ((repeat' split) <;> first | (simp at *; done) | (simp at *; omega) | (simp_all; done) | (simp_all; omega))
end Go.Proofs.YtbpeemhfjgcnaaaGreat
