/- Parts of a proof, laid together. Each part says its own conditions. -/
import Derived.Test.YtmokciekndllpaaGreatDoorC5
import Derived.Shelf.SlGeneric
import Derived.Shelf.SlSortCmp.NoneTotal
import Derived.Ground.SlsfProg
import Derived.Test.YtmokciekndllpaaGreatDoorProg
namespace Go.Proofs.YtmokciekndllpaaGreatDoor
open Go Go.RowKit
set_option maxRecDepth 100000 in
set_option maxHeartbeats 4000000 in
theorem wrongR_0 (A B : Option Addr) (V : List (Int × Thing)) (E : List ((Int × Int) × Thing)) (cV cE : Nat) (u v lab wt : Int) (w : World) (hV : SlAt encV 3 w A V) (hE : SlAt encE 4 w B E) (hl : V.length ≤ 4096)  :
  Calls Tryz.prog 155 #[.agg #[.slice A V.length cV, .slice B E.length cE], .agg #[.int .i64 0, .int .i64 u, .int .i64 v, .int .u8 lab, .int .i64 wt]] w fun e w' => e = .returned (.int .i64 (wrongR 0 u v wt V E)) ∧ Ext w w' := by
 have p0 : pairsB 0 = false := by decide
 have p1 : weighsB 0 = true := by decide
 obtain ⟨hb,he⟩ := blk2 w #[.slice A V.length cV, .slice B E.length cE] #[.int .i64 0, .int .i64 u, .int .i64 v, .int .u8 lab, .int .i64 wt] 30 160
 have d0 := hb.cells 0 (v := .slice A V.length cV) rfl
 have d1 := hb.cells 1 (v := .slice B E.length cE) rfl
 obtain ⟨c0,c1,c2,c3,c4⟩ := EditAt.of' he
 have hV1 := hV.ext (ext_self2 w (.cells #[.slice A V.length cV, .slice B E.length cE] 30) (.cells #[.int .i64 0, .int .i64 u, .int .i64 v, .int .u8 lab, .int .i64 wt] 160))
 have hE1 := hE.ext (ext_self2 w (.cells #[.slice A V.length cV, .slice B E.length cE] 30) (.cells #[.int .i64 0, .int .i64 u, .int .i64 v, .int .u8 lab, .int .i64 wt] 160))
 clear hb he hV hE
 go_enter Tryz.func155,Tryz.ntmps155
 go_wp2_with (first | (go_at_call 158; refine (pair_any _ _ _ _ _ _).mono ?_; rintro e wn ⟨rfl,hn⟩; have hz : Ext ((w.alloc (.cells #[.slice A V.length cV, .slice B E.length cE] 30)).alloc (.cells #[.int .i64 0, .int .i64 u, .int .i64 v, .int .u8 lab, .int .i64 wt] 160)) wn := Ext.trans (by first | exact Ext.refl _ | assumption) hn; clear hn) | (go_at_call 188; refine (rheavy_any _ _ _ _ _ _).mono ?_; rintro e wn ⟨rfl,hn⟩; have hz : Ext ((w.alloc (.cells #[.slice A V.length cV, .slice B E.length cE] 30)).alloc (.cells #[.int .i64 0, .int .i64 u, .int .i64 v, .int .u8 lab, .int .i64 wt] 160)) wn := Ext.trans (by first | exact Ext.refl _ | assumption) hn; clear hn) | (go_at_call 189; refine (find_any A B V cV E.length cE _ _ (hV1.ext (by first | exact Ext.refl _ | assumption)) hl).mono ?_; rintro e wn ⟨rfl,hn⟩; have hz : Ext ((w.alloc (.cells #[.slice A V.length cV, .slice B E.length cE] 30)).alloc (.cells #[.int .i64 0, .int .i64 u, .int .i64 v, .int .u8 lab, .int .i64 wt] 160)) wn := Ext.trans (by first | exact Ext.refl _ | assumption) hn; clear hn) | (go_at_call 119; refine (redge_any A B E V.length cV cE _ _ _ (hE1.ext (by first | exact Ext.refl _ | assumption)) (by assumption)).mono ?_; rintro e wn ⟨rfl,hn⟩; have hz : Ext ((w.alloc (.cells #[.slice A V.length cV, .slice B E.length cE] 30)).alloc (.cells #[.int .i64 0, .int .i64 u, .int .i64 v, .int .u8 lab, .int .i64 wt] 160)) wn := Ext.trans (by first | exact Ext.refl _ | assumption) hn; clear hn))
 all_goals (go_ret; refine ⟨ret_int ?_,by first | exact (ext_self2 _ _ _).trans hz | exact ext_self2 _ _ _⟩)
 all_goals (clear c0 c1 c2 c3 c4 d0 d1 hV1 hE1)
 all_goals (unfold wrongR w1B w2B w3B idB heavyB hasV hasE; simp only [p0,p1])
 all_goals ((repeat' split) <;> first | (simp at *; done) | (simp at *; omega) | (simp_all; done) | (simp_all; omega))
set_option maxRecDepth 100000 in
set_option maxHeartbeats 4000000 in
theorem wrongR_1 (A B : Option Addr) (V : List (Int × Thing)) (E : List ((Int × Int) × Thing)) (cV cE : Nat) (u v lab wt : Int) (w : World) (hV : SlAt encV 3 w A V) (hE : SlAt encE 4 w B E) (hl : V.length ≤ 4096)  :
  Calls Tryz.prog 155 #[.agg #[.slice A V.length cV, .slice B E.length cE], .agg #[.int .i64 1, .int .i64 u, .int .i64 v, .int .u8 lab, .int .i64 wt]] w fun e w' => e = .returned (.int .i64 (wrongR 1 u v wt V E)) ∧ Ext w w' := by
 have p0 : pairsB 1 = false := by decide
 have p1 : weighsB 1 = false := by decide
 obtain ⟨hb,he⟩ := blk2 w #[.slice A V.length cV, .slice B E.length cE] #[.int .i64 1, .int .i64 u, .int .i64 v, .int .u8 lab, .int .i64 wt] 30 160
 have d0 := hb.cells 0 (v := .slice A V.length cV) rfl
 have d1 := hb.cells 1 (v := .slice B E.length cE) rfl
 obtain ⟨c0,c1,c2,c3,c4⟩ := EditAt.of' he
 have hV1 := hV.ext (ext_self2 w (.cells #[.slice A V.length cV, .slice B E.length cE] 30) (.cells #[.int .i64 1, .int .i64 u, .int .i64 v, .int .u8 lab, .int .i64 wt] 160))
 have hE1 := hE.ext (ext_self2 w (.cells #[.slice A V.length cV, .slice B E.length cE] 30) (.cells #[.int .i64 1, .int .i64 u, .int .i64 v, .int .u8 lab, .int .i64 wt] 160))
 clear hb he hV hE
 go_enter Tryz.func155,Tryz.ntmps155
 go_wp2_with (first | (go_at_call 158; refine (pair_any _ _ _ _ _ _).mono ?_; rintro e wn ⟨rfl,hn⟩; have hz : Ext ((w.alloc (.cells #[.slice A V.length cV, .slice B E.length cE] 30)).alloc (.cells #[.int .i64 1, .int .i64 u, .int .i64 v, .int .u8 lab, .int .i64 wt] 160)) wn := Ext.trans (by first | exact Ext.refl _ | assumption) hn; clear hn) | (go_at_call 188; refine (rheavy_any _ _ _ _ _ _).mono ?_; rintro e wn ⟨rfl,hn⟩; have hz : Ext ((w.alloc (.cells #[.slice A V.length cV, .slice B E.length cE] 30)).alloc (.cells #[.int .i64 1, .int .i64 u, .int .i64 v, .int .u8 lab, .int .i64 wt] 160)) wn := Ext.trans (by first | exact Ext.refl _ | assumption) hn; clear hn) | (go_at_call 189; refine (find_any A B V cV E.length cE _ _ (hV1.ext (by first | exact Ext.refl _ | assumption)) hl).mono ?_; rintro e wn ⟨rfl,hn⟩; have hz : Ext ((w.alloc (.cells #[.slice A V.length cV, .slice B E.length cE] 30)).alloc (.cells #[.int .i64 1, .int .i64 u, .int .i64 v, .int .u8 lab, .int .i64 wt] 160)) wn := Ext.trans (by first | exact Ext.refl _ | assumption) hn; clear hn) | (go_at_call 119; refine (redge_any A B E V.length cV cE _ _ _ (hE1.ext (by first | exact Ext.refl _ | assumption)) (by assumption)).mono ?_; rintro e wn ⟨rfl,hn⟩; have hz : Ext ((w.alloc (.cells #[.slice A V.length cV, .slice B E.length cE] 30)).alloc (.cells #[.int .i64 1, .int .i64 u, .int .i64 v, .int .u8 lab, .int .i64 wt] 160)) wn := Ext.trans (by first | exact Ext.refl _ | assumption) hn; clear hn))
 all_goals (go_ret; refine ⟨ret_int ?_,by first | exact (ext_self2 _ _ _).trans hz | exact ext_self2 _ _ _⟩)
 all_goals (clear c0 c1 c2 c3 c4 d0 d1 hV1 hE1)
 all_goals (unfold wrongR w1B w2B w3B idB heavyB hasV hasE; simp only [p0,p1])
 all_goals ((repeat' split) <;> first | (simp at *; done) | (simp at *; omega) | (simp_all; done) | (simp_all; omega))
set_option maxRecDepth 100000 in
set_option maxHeartbeats 4000000 in
theorem wrongR_4 (A B : Option Addr) (V : List (Int × Thing)) (E : List ((Int × Int) × Thing)) (cV cE : Nat) (u v lab wt : Int) (w : World) (hV : SlAt encV 3 w A V) (hE : SlAt encE 4 w B E) (hl : V.length ≤ 4096)  :
  Calls Tryz.prog 155 #[.agg #[.slice A V.length cV, .slice B E.length cE], .agg #[.int .i64 4, .int .i64 u, .int .i64 v, .int .u8 lab, .int .i64 wt]] w fun e w' => e = .returned (.int .i64 (wrongR 4 u v wt V E)) ∧ Ext w w' := by
 have p0 : pairsB 4 = false := by decide
 have p1 : weighsB 4 = false := by decide
 obtain ⟨hb,he⟩ := blk2 w #[.slice A V.length cV, .slice B E.length cE] #[.int .i64 4, .int .i64 u, .int .i64 v, .int .u8 lab, .int .i64 wt] 30 160
 have d0 := hb.cells 0 (v := .slice A V.length cV) rfl
 have d1 := hb.cells 1 (v := .slice B E.length cE) rfl
 obtain ⟨c0,c1,c2,c3,c4⟩ := EditAt.of' he
 have hV1 := hV.ext (ext_self2 w (.cells #[.slice A V.length cV, .slice B E.length cE] 30) (.cells #[.int .i64 4, .int .i64 u, .int .i64 v, .int .u8 lab, .int .i64 wt] 160))
 have hE1 := hE.ext (ext_self2 w (.cells #[.slice A V.length cV, .slice B E.length cE] 30) (.cells #[.int .i64 4, .int .i64 u, .int .i64 v, .int .u8 lab, .int .i64 wt] 160))
 clear hb he hV hE
 go_enter Tryz.func155,Tryz.ntmps155
 go_wp2_with (first | (go_at_call 158; refine (pair_any _ _ _ _ _ _).mono ?_; rintro e wn ⟨rfl,hn⟩; have hz : Ext ((w.alloc (.cells #[.slice A V.length cV, .slice B E.length cE] 30)).alloc (.cells #[.int .i64 4, .int .i64 u, .int .i64 v, .int .u8 lab, .int .i64 wt] 160)) wn := Ext.trans (by first | exact Ext.refl _ | assumption) hn; clear hn) | (go_at_call 188; refine (rheavy_any _ _ _ _ _ _).mono ?_; rintro e wn ⟨rfl,hn⟩; have hz : Ext ((w.alloc (.cells #[.slice A V.length cV, .slice B E.length cE] 30)).alloc (.cells #[.int .i64 4, .int .i64 u, .int .i64 v, .int .u8 lab, .int .i64 wt] 160)) wn := Ext.trans (by first | exact Ext.refl _ | assumption) hn; clear hn) | (go_at_call 189; refine (find_any A B V cV E.length cE _ _ (hV1.ext (by first | exact Ext.refl _ | assumption)) hl).mono ?_; rintro e wn ⟨rfl,hn⟩; have hz : Ext ((w.alloc (.cells #[.slice A V.length cV, .slice B E.length cE] 30)).alloc (.cells #[.int .i64 4, .int .i64 u, .int .i64 v, .int .u8 lab, .int .i64 wt] 160)) wn := Ext.trans (by first | exact Ext.refl _ | assumption) hn; clear hn) | (go_at_call 119; refine (redge_any A B E V.length cV cE _ _ _ (hE1.ext (by first | exact Ext.refl _ | assumption)) (by assumption)).mono ?_; rintro e wn ⟨rfl,hn⟩; have hz : Ext ((w.alloc (.cells #[.slice A V.length cV, .slice B E.length cE] 30)).alloc (.cells #[.int .i64 4, .int .i64 u, .int .i64 v, .int .u8 lab, .int .i64 wt] 160)) wn := Ext.trans (by first | exact Ext.refl _ | assumption) hn; clear hn))
 all_goals (go_ret; refine ⟨ret_int ?_,by first | exact (ext_self2 _ _ _).trans hz | exact ext_self2 _ _ _⟩)
 all_goals (clear c0 c1 c2 c3 c4 d0 d1 hV1 hE1)
 all_goals (unfold wrongR w1B w2B w3B idB heavyB hasV hasE; simp only [p0,p1])
 all_goals ((repeat' split) <;> first | (simp at *; done) | (simp at *; omega) | (simp_all; done) | (simp_all; omega))
set_option maxRecDepth 100000 in
set_option maxHeartbeats 4000000 in
theorem wrongR_5 (A B : Option Addr) (V : List (Int × Thing)) (E : List ((Int × Int) × Thing)) (cV cE : Nat) (u v lab wt : Int) (w : World) (hV : SlAt encV 3 w A V) (hE : SlAt encE 4 w B E) (hl : V.length ≤ 4096)  :
  Calls Tryz.prog 155 #[.agg #[.slice A V.length cV, .slice B E.length cE], .agg #[.int .i64 5, .int .i64 u, .int .i64 v, .int .u8 lab, .int .i64 wt]] w fun e w' => e = .returned (.int .i64 (wrongR 5 u v wt V E)) ∧ Ext w w' := by
 have p0 : pairsB 5 = false := by decide
 have p1 : weighsB 5 = true := by decide
 obtain ⟨hb,he⟩ := blk2 w #[.slice A V.length cV, .slice B E.length cE] #[.int .i64 5, .int .i64 u, .int .i64 v, .int .u8 lab, .int .i64 wt] 30 160
 have d0 := hb.cells 0 (v := .slice A V.length cV) rfl
 have d1 := hb.cells 1 (v := .slice B E.length cE) rfl
 obtain ⟨c0,c1,c2,c3,c4⟩ := EditAt.of' he
 have hV1 := hV.ext (ext_self2 w (.cells #[.slice A V.length cV, .slice B E.length cE] 30) (.cells #[.int .i64 5, .int .i64 u, .int .i64 v, .int .u8 lab, .int .i64 wt] 160))
 have hE1 := hE.ext (ext_self2 w (.cells #[.slice A V.length cV, .slice B E.length cE] 30) (.cells #[.int .i64 5, .int .i64 u, .int .i64 v, .int .u8 lab, .int .i64 wt] 160))
 clear hb he hV hE
 go_enter Tryz.func155,Tryz.ntmps155
 go_wp2_with (first | (go_at_call 158; refine (pair_any _ _ _ _ _ _).mono ?_; rintro e wn ⟨rfl,hn⟩; have hz : Ext ((w.alloc (.cells #[.slice A V.length cV, .slice B E.length cE] 30)).alloc (.cells #[.int .i64 5, .int .i64 u, .int .i64 v, .int .u8 lab, .int .i64 wt] 160)) wn := Ext.trans (by first | exact Ext.refl _ | assumption) hn; clear hn) | (go_at_call 188; refine (rheavy_any _ _ _ _ _ _).mono ?_; rintro e wn ⟨rfl,hn⟩; have hz : Ext ((w.alloc (.cells #[.slice A V.length cV, .slice B E.length cE] 30)).alloc (.cells #[.int .i64 5, .int .i64 u, .int .i64 v, .int .u8 lab, .int .i64 wt] 160)) wn := Ext.trans (by first | exact Ext.refl _ | assumption) hn; clear hn) | (go_at_call 189; refine (find_any A B V cV E.length cE _ _ (hV1.ext (by first | exact Ext.refl _ | assumption)) hl).mono ?_; rintro e wn ⟨rfl,hn⟩; have hz : Ext ((w.alloc (.cells #[.slice A V.length cV, .slice B E.length cE] 30)).alloc (.cells #[.int .i64 5, .int .i64 u, .int .i64 v, .int .u8 lab, .int .i64 wt] 160)) wn := Ext.trans (by first | exact Ext.refl _ | assumption) hn; clear hn) | (go_at_call 119; refine (redge_any A B E V.length cV cE _ _ _ (hE1.ext (by first | exact Ext.refl _ | assumption)) (by assumption)).mono ?_; rintro e wn ⟨rfl,hn⟩; have hz : Ext ((w.alloc (.cells #[.slice A V.length cV, .slice B E.length cE] 30)).alloc (.cells #[.int .i64 5, .int .i64 u, .int .i64 v, .int .u8 lab, .int .i64 wt] 160)) wn := Ext.trans (by first | exact Ext.refl _ | assumption) hn; clear hn))
 all_goals (go_ret; refine ⟨ret_int ?_,by first | exact (ext_self2 _ _ _).trans hz | exact ext_self2 _ _ _⟩)
 all_goals (clear c0 c1 c2 c3 c4 d0 d1 hV1 hE1)
 all_goals (unfold wrongR w1B w2B w3B idB heavyB hasV hasE; simp only [p0,p1])
 all_goals ((repeat' split) <;> first | (simp at *; done) | (simp at *; omega) | (simp_all; done) | (simp_all; omega))
end Go.Proofs.YtmokciekndllpaaGreatDoor
namespace Go.Proofs.YtmokciekndllpaaGreatDoor
open Go Go.RowKit
set_option maxRecDepth 100000 in
set_option maxHeartbeats 4000000 in
theorem wrongR_2 (A B : Option Addr) (V : List (Int × Thing)) (E : List ((Int × Int) × Thing)) (cV cE : Nat) (u v lab wt : Int) (w : World) (hV : SlAt encV 3 w A V) (hE : SlAt encE 4 w B E) (hl : V.length ≤ 4096) (hle : E.length ≤ 4096) :
  Calls Tryz.prog 155 #[.agg #[.slice A V.length cV, .slice B E.length cE], .agg #[.int .i64 2, .int .i64 u, .int .i64 v, .int .u8 lab, .int .i64 wt]] w fun e w' => e = .returned (.int .i64 (wrongR 2 u v wt V E)) ∧ Ext w w' := by
 have p0 : pairsB 2 = true := by decide
 have p1 : weighsB 2 = true := by decide
 obtain ⟨hb,he⟩ := blk2 w #[.slice A V.length cV, .slice B E.length cE] #[.int .i64 2, .int .i64 u, .int .i64 v, .int .u8 lab, .int .i64 wt] 30 160
 have d0 := hb.cells 0 (v := .slice A V.length cV) rfl
 have d1 := hb.cells 1 (v := .slice B E.length cE) rfl
 obtain ⟨c0,c1,c2,c3,c4⟩ := EditAt.of' he
 have hV1 := hV.ext (ext_self2 w (.cells #[.slice A V.length cV, .slice B E.length cE] 30) (.cells #[.int .i64 2, .int .i64 u, .int .i64 v, .int .u8 lab, .int .i64 wt] 160))
 have hE1 := hE.ext (ext_self2 w (.cells #[.slice A V.length cV, .slice B E.length cE] 30) (.cells #[.int .i64 2, .int .i64 u, .int .i64 v, .int .u8 lab, .int .i64 wt] 160))
 clear hb he hV hE
 go_enter Tryz.func155,Tryz.ntmps155
 go_wp2_with (first | (go_at_call 158; refine (pair_any _ _ _ _ _ _).mono ?_; rintro e wn ⟨rfl,hn⟩; have hz : Ext ((w.alloc (.cells #[.slice A V.length cV, .slice B E.length cE] 30)).alloc (.cells #[.int .i64 2, .int .i64 u, .int .i64 v, .int .u8 lab, .int .i64 wt] 160)) wn := Ext.trans (by first | exact Ext.refl _ | assumption) hn; clear hn) | (go_at_call 188; refine (rheavy_any _ _ _ _ _ _).mono ?_; rintro e wn ⟨rfl,hn⟩; have hz : Ext ((w.alloc (.cells #[.slice A V.length cV, .slice B E.length cE] 30)).alloc (.cells #[.int .i64 2, .int .i64 u, .int .i64 v, .int .u8 lab, .int .i64 wt] 160)) wn := Ext.trans (by first | exact Ext.refl _ | assumption) hn; clear hn) | (go_at_call 189; refine (find_any A B V cV E.length cE _ _ (hV1.ext (by first | exact Ext.refl _ | assumption)) hl).mono ?_; rintro e wn ⟨rfl,hn⟩; have hz : Ext ((w.alloc (.cells #[.slice A V.length cV, .slice B E.length cE] 30)).alloc (.cells #[.int .i64 2, .int .i64 u, .int .i64 v, .int .u8 lab, .int .i64 wt] 160)) wn := Ext.trans (by first | exact Ext.refl _ | assumption) hn; clear hn) | (go_at_call 119; refine (redge_any A B E V.length cV cE _ _ _ (hE1.ext (by first | exact Ext.refl _ | assumption)) hle).mono ?_; rintro e wn ⟨rfl,hn⟩; have hz : Ext ((w.alloc (.cells #[.slice A V.length cV, .slice B E.length cE] 30)).alloc (.cells #[.int .i64 2, .int .i64 u, .int .i64 v, .int .u8 lab, .int .i64 wt] 160)) wn := Ext.trans (by first | exact Ext.refl _ | assumption) hn; clear hn))
 all_goals (go_ret; refine ⟨ret_int ?_,by first | exact (ext_self2 _ _ _).trans hz | exact ext_self2 _ _ _⟩)
 all_goals (clear c0 c1 c2 c3 c4 d0 d1 hV1 hE1)
 all_goals (unfold wrongR w1B w2B w3B idB heavyB hasV hasE; simp only [p0,p1])
 all_goals ((repeat' split) <;> first | (simp at *; done) | (simp at *; omega) | (simp_all; done) | (simp_all; omega))
end Go.Proofs.YtmokciekndllpaaGreatDoor
namespace Go.Proofs.YtmokciekndllpaaGreatDoor
open Go Go.RowKit
set_option maxRecDepth 100000 in
set_option maxHeartbeats 4000000 in
theorem wrongR_3 (A B : Option Addr) (V : List (Int × Thing)) (E : List ((Int × Int) × Thing)) (cV cE : Nat) (u v lab wt : Int) (w : World) (hV : SlAt encV 3 w A V) (hE : SlAt encE 4 w B E) (hl : V.length ≤ 4096) (hle : E.length ≤ 4096) :
  Calls Tryz.prog 155 #[.agg #[.slice A V.length cV, .slice B E.length cE], .agg #[.int .i64 3, .int .i64 u, .int .i64 v, .int .u8 lab, .int .i64 wt]] w fun e w' => e = .returned (.int .i64 (wrongR 3 u v wt V E)) ∧ Ext w w' := by
 have p0 : pairsB 3 = true := by decide
 have p1 : weighsB 3 = false := by decide
 obtain ⟨hb,he⟩ := blk2 w #[.slice A V.length cV, .slice B E.length cE] #[.int .i64 3, .int .i64 u, .int .i64 v, .int .u8 lab, .int .i64 wt] 30 160
 have d0 := hb.cells 0 (v := .slice A V.length cV) rfl
 have d1 := hb.cells 1 (v := .slice B E.length cE) rfl
 obtain ⟨c0,c1,c2,c3,c4⟩ := EditAt.of' he
 have hV1 := hV.ext (ext_self2 w (.cells #[.slice A V.length cV, .slice B E.length cE] 30) (.cells #[.int .i64 3, .int .i64 u, .int .i64 v, .int .u8 lab, .int .i64 wt] 160))
 have hE1 := hE.ext (ext_self2 w (.cells #[.slice A V.length cV, .slice B E.length cE] 30) (.cells #[.int .i64 3, .int .i64 u, .int .i64 v, .int .u8 lab, .int .i64 wt] 160))
 clear hb he hV hE
 go_enter Tryz.func155,Tryz.ntmps155
 go_wp2_with (first | (go_at_call 158; refine (pair_any _ _ _ _ _ _).mono ?_; rintro e wn ⟨rfl,hn⟩; have hz : Ext ((w.alloc (.cells #[.slice A V.length cV, .slice B E.length cE] 30)).alloc (.cells #[.int .i64 3, .int .i64 u, .int .i64 v, .int .u8 lab, .int .i64 wt] 160)) wn := Ext.trans (by first | exact Ext.refl _ | assumption) hn; clear hn) | (go_at_call 188; refine (rheavy_any _ _ _ _ _ _).mono ?_; rintro e wn ⟨rfl,hn⟩; have hz : Ext ((w.alloc (.cells #[.slice A V.length cV, .slice B E.length cE] 30)).alloc (.cells #[.int .i64 3, .int .i64 u, .int .i64 v, .int .u8 lab, .int .i64 wt] 160)) wn := Ext.trans (by first | exact Ext.refl _ | assumption) hn; clear hn) | (go_at_call 189; refine (find_any A B V cV E.length cE _ _ (hV1.ext (by first | exact Ext.refl _ | assumption)) hl).mono ?_; rintro e wn ⟨rfl,hn⟩; have hz : Ext ((w.alloc (.cells #[.slice A V.length cV, .slice B E.length cE] 30)).alloc (.cells #[.int .i64 3, .int .i64 u, .int .i64 v, .int .u8 lab, .int .i64 wt] 160)) wn := Ext.trans (by first | exact Ext.refl _ | assumption) hn; clear hn) | (go_at_call 119; refine (redge_any A B E V.length cV cE _ _ _ (hE1.ext (by first | exact Ext.refl _ | assumption)) hle).mono ?_; rintro e wn ⟨rfl,hn⟩; have hz : Ext ((w.alloc (.cells #[.slice A V.length cV, .slice B E.length cE] 30)).alloc (.cells #[.int .i64 3, .int .i64 u, .int .i64 v, .int .u8 lab, .int .i64 wt] 160)) wn := Ext.trans (by first | exact Ext.refl _ | assumption) hn; clear hn))
 all_goals (go_ret; refine ⟨ret_int ?_,by first | exact (ext_self2 _ _ _).trans hz | exact ext_self2 _ _ _⟩)
 all_goals (clear c0 c1 c2 c3 c4 d0 d1 hV1 hE1)
 all_goals (unfold wrongR w1B w2B w3B idB heavyB hasV hasE; simp only [p0,p1])
 all_goals ((repeat' split) <;> first | (simp at *; done) | (simp at *; omega) | (simp_all; done) | (simp_all; omega))
set_option maxRecDepth 100000 in
set_option maxHeartbeats 4000000 in
theorem wrongR_7 (A B : Option Addr) (V : List (Int × Thing)) (E : List ((Int × Int) × Thing)) (cV cE : Nat) (u v lab wt : Int) (w : World) (hV : SlAt encV 3 w A V) (hE : SlAt encE 4 w B E) (hl : V.length ≤ 4096) (hle : E.length ≤ 4096) :
  Calls Tryz.prog 155 #[.agg #[.slice A V.length cV, .slice B E.length cE], .agg #[.int .i64 7, .int .i64 u, .int .i64 v, .int .u8 lab, .int .i64 wt]] w fun e w' => e = .returned (.int .i64 (wrongR 7 u v wt V E)) ∧ Ext w w' := by
 have p0 : pairsB 7 = true := by decide
 have p1 : weighsB 7 = true := by decide
 obtain ⟨hb,he⟩ := blk2 w #[.slice A V.length cV, .slice B E.length cE] #[.int .i64 7, .int .i64 u, .int .i64 v, .int .u8 lab, .int .i64 wt] 30 160
 have d0 := hb.cells 0 (v := .slice A V.length cV) rfl
 have d1 := hb.cells 1 (v := .slice B E.length cE) rfl
 obtain ⟨c0,c1,c2,c3,c4⟩ := EditAt.of' he
 have hV1 := hV.ext (ext_self2 w (.cells #[.slice A V.length cV, .slice B E.length cE] 30) (.cells #[.int .i64 7, .int .i64 u, .int .i64 v, .int .u8 lab, .int .i64 wt] 160))
 have hE1 := hE.ext (ext_self2 w (.cells #[.slice A V.length cV, .slice B E.length cE] 30) (.cells #[.int .i64 7, .int .i64 u, .int .i64 v, .int .u8 lab, .int .i64 wt] 160))
 clear hb he hV hE
 go_enter Tryz.func155,Tryz.ntmps155
 go_wp2_with (first | (go_at_call 158; refine (pair_any _ _ _ _ _ _).mono ?_; rintro e wn ⟨rfl,hn⟩; have hz : Ext ((w.alloc (.cells #[.slice A V.length cV, .slice B E.length cE] 30)).alloc (.cells #[.int .i64 7, .int .i64 u, .int .i64 v, .int .u8 lab, .int .i64 wt] 160)) wn := Ext.trans (by first | exact Ext.refl _ | assumption) hn; clear hn) | (go_at_call 188; refine (rheavy_any _ _ _ _ _ _).mono ?_; rintro e wn ⟨rfl,hn⟩; have hz : Ext ((w.alloc (.cells #[.slice A V.length cV, .slice B E.length cE] 30)).alloc (.cells #[.int .i64 7, .int .i64 u, .int .i64 v, .int .u8 lab, .int .i64 wt] 160)) wn := Ext.trans (by first | exact Ext.refl _ | assumption) hn; clear hn) | (go_at_call 189; refine (find_any A B V cV E.length cE _ _ (hV1.ext (by first | exact Ext.refl _ | assumption)) hl).mono ?_; rintro e wn ⟨rfl,hn⟩; have hz : Ext ((w.alloc (.cells #[.slice A V.length cV, .slice B E.length cE] 30)).alloc (.cells #[.int .i64 7, .int .i64 u, .int .i64 v, .int .u8 lab, .int .i64 wt] 160)) wn := Ext.trans (by first | exact Ext.refl _ | assumption) hn; clear hn) | (go_at_call 119; refine (redge_any A B E V.length cV cE _ _ _ (hE1.ext (by first | exact Ext.refl _ | assumption)) hle).mono ?_; rintro e wn ⟨rfl,hn⟩; have hz : Ext ((w.alloc (.cells #[.slice A V.length cV, .slice B E.length cE] 30)).alloc (.cells #[.int .i64 7, .int .i64 u, .int .i64 v, .int .u8 lab, .int .i64 wt] 160)) wn := Ext.trans (by first | exact Ext.refl _ | assumption) hn; clear hn))
 all_goals (go_ret; refine ⟨ret_int ?_,by first | exact (ext_self2 _ _ _).trans hz | exact ext_self2 _ _ _⟩)
 all_goals (clear c0 c1 c2 c3 c4 d0 d1 hV1 hE1)
 all_goals (unfold wrongR w1B w2B w3B idB heavyB hasV hasE; simp only [p0,p1])
 all_goals ((repeat' split) <;> first | (simp at *; done) | (simp at *; omega) | (simp_all; done) | (simp_all; omega))
end Go.Proofs.YtmokciekndllpaaGreatDoor
namespace Go.Proofs.YtmokciekndllpaaGreatDoor
open Go Go.RowKit
set_option maxRecDepth 100000 in
set_option maxHeartbeats 4000000 in
theorem wrongR_6 (A B : Option Addr) (V : List (Int × Thing)) (E : List ((Int × Int) × Thing)) (cV cE : Nat) (u v lab wt : Int) (w : World) (hV : SlAt encV 3 w A V) (hE : SlAt encE 4 w B E) (hl : V.length ≤ 4096) (hle : E.length ≤ 4096) :
  Calls Tryz.prog 155 #[.agg #[.slice A V.length cV, .slice B E.length cE], .agg #[.int .i64 6, .int .i64 u, .int .i64 v, .int .u8 lab, .int .i64 wt]] w fun e w' => e = .returned (.int .i64 (wrongR 6 u v wt V E)) ∧ Ext w w' := by
 have p0 : pairsB 6 = true := by decide
 have p1 : weighsB 6 = false := by decide
 obtain ⟨hb,he⟩ := blk2 w #[.slice A V.length cV, .slice B E.length cE] #[.int .i64 6, .int .i64 u, .int .i64 v, .int .u8 lab, .int .i64 wt] 30 160
 have d0 := hb.cells 0 (v := .slice A V.length cV) rfl
 have d1 := hb.cells 1 (v := .slice B E.length cE) rfl
 obtain ⟨c0,c1,c2,c3,c4⟩ := EditAt.of' he
 have hV1 := hV.ext (ext_self2 w (.cells #[.slice A V.length cV, .slice B E.length cE] 30) (.cells #[.int .i64 6, .int .i64 u, .int .i64 v, .int .u8 lab, .int .i64 wt] 160))
 have hE1 := hE.ext (ext_self2 w (.cells #[.slice A V.length cV, .slice B E.length cE] 30) (.cells #[.int .i64 6, .int .i64 u, .int .i64 v, .int .u8 lab, .int .i64 wt] 160))
 clear hb he hV hE
 go_enter Tryz.func155,Tryz.ntmps155
 go_wp2_with (first | (go_at_call 158; refine (pair_any _ _ _ _ _ _).mono ?_; rintro e wn ⟨rfl,hn⟩; have hz : Ext ((w.alloc (.cells #[.slice A V.length cV, .slice B E.length cE] 30)).alloc (.cells #[.int .i64 6, .int .i64 u, .int .i64 v, .int .u8 lab, .int .i64 wt] 160)) wn := Ext.trans (by first | exact Ext.refl _ | assumption) hn; clear hn) | (go_at_call 188; refine (rheavy_any _ _ _ _ _ _).mono ?_; rintro e wn ⟨rfl,hn⟩; have hz : Ext ((w.alloc (.cells #[.slice A V.length cV, .slice B E.length cE] 30)).alloc (.cells #[.int .i64 6, .int .i64 u, .int .i64 v, .int .u8 lab, .int .i64 wt] 160)) wn := Ext.trans (by first | exact Ext.refl _ | assumption) hn; clear hn) | (go_at_call 189; refine (find_any A B V cV E.length cE _ _ (hV1.ext (by first | exact Ext.refl _ | assumption)) hl).mono ?_; rintro e wn ⟨rfl,hn⟩; have hz : Ext ((w.alloc (.cells #[.slice A V.length cV, .slice B E.length cE] 30)).alloc (.cells #[.int .i64 6, .int .i64 u, .int .i64 v, .int .u8 lab, .int .i64 wt] 160)) wn := Ext.trans (by first | exact Ext.refl _ | assumption) hn; clear hn) | (go_at_call 119; refine (redge_any A B E V.length cV cE _ _ _ (hE1.ext (by first | exact Ext.refl _ | assumption)) hle).mono ?_; rintro e wn ⟨rfl,hn⟩; have hz : Ext ((w.alloc (.cells #[.slice A V.length cV, .slice B E.length cE] 30)).alloc (.cells #[.int .i64 6, .int .i64 u, .int .i64 v, .int .u8 lab, .int .i64 wt] 160)) wn := Ext.trans (by first | exact Ext.refl _ | assumption) hn; clear hn))
 all_goals (go_ret; refine ⟨ret_int ?_,by first | exact (ext_self2 _ _ _).trans hz | exact ext_self2 _ _ _⟩)
 all_goals (clear c0 c1 c2 c3 c4 d0 d1 hV1 hE1)
 all_goals (unfold wrongR w1B w2B w3B idB heavyB hasV hasE; simp only [p0,p1])
 all_goals ((repeat' split) <;> first | (simp at *; done) | (simp at *; omega) | (simp_all; done) | (simp_all; omega))
end Go.Proofs.YtmokciekndllpaaGreatDoor
namespace Go.Proofs
open Go.Shelf
def Tryz.sortV_ren : Go.Shelf.Ren := ⟨fun | 6 => 150 | 15 => 113 | 14 => 186 | 28 => 167 | 29 => 168 | 20 => 200 | 21 => 201 | 22 => 202 | 23 => 203 | 24 => 204 | 25 => 205 | 26 => 206 | 27 => 207 | 46 => 210 | 47 => 191 | 48 => 192 | 49 => 211 | 50 => 212 | 57 => 213 | n => n,fun | 22 => 94 | 24 => 93 | 25 => 190 | 3 => 3 | 39 => 165 | 0 => 0 | 53 => 206 | 55 => 23 | 4 => 4 | 46 => 200 | 45 => 199 | 50 => 114 | 5 => 5 | 9 => 9 | 66 => 230 | 70 => 234 | 76 => 249 | 77 => 226 | n => n,fun | n => n⟩
theorem Tryz.sortV : Go.Proofs.SlLaysF0.n6 Tryz.prog Tryz.sortV_ren := {
 mixed := by kernel_rfl
 f6 := ⟨Tryz.f150.name,by decide,Tryz.func150.trans (congrArg some (by kernel_rfl))⟩
 f14 := ⟨Tryz.f186.name,by decide,Tryz.func186.trans (congrArg some (by kernel_rfl))⟩
 f15 := Tryz.func113.trans (congrArg some (by kernel_rfl))
 f20 := ⟨Tryz.f200.name,by decide,Tryz.func200.trans (congrArg some (by kernel_rfl))⟩
 f21 := ⟨Tryz.f201.name,by decide,Tryz.func201.trans (congrArg some (by kernel_rfl))⟩
 f22 := ⟨Tryz.f202.name,by decide,Tryz.func202.trans (congrArg some (by kernel_rfl))⟩
 f23 := ⟨Tryz.f203.name,by decide,Tryz.func203.trans (congrArg some (by kernel_rfl))⟩
 f24 := ⟨Tryz.f204.name,by decide,Tryz.func204.trans (congrArg some (by kernel_rfl))⟩
 f25 := ⟨Tryz.f205.name,by decide,Tryz.func205.trans (congrArg some (by kernel_rfl))⟩
 f26 := ⟨Tryz.f206.name,by decide,Tryz.func206.trans (congrArg some (by kernel_rfl))⟩
 f27 := ⟨Tryz.f207.name,by decide,Tryz.func207.trans (congrArg some (by kernel_rfl))⟩
 f28 := Tryz.func167.trans (congrArg some (by kernel_rfl))
 f29 := Tryz.func168.trans (congrArg some (by kernel_rfl))
 f46 := ⟨Tryz.f210.name,by decide,Tryz.func210.trans (congrArg some (by kernel_rfl))⟩
 f47 := Tryz.func191.trans (congrArg some (by kernel_rfl))
 f48 := Tryz.func192.trans (congrArg some (by kernel_rfl))
 f49 := ⟨Tryz.f211.name,by decide,Tryz.func211.trans (congrArg some (by kernel_rfl))⟩
 f50 := ⟨Tryz.f212.name,by decide,Tryz.func212.trans (congrArg some (by kernel_rfl))⟩
 f57 := ⟨Tryz.f213.name,by decide,Tryz.func213.trans (congrArg some (by kernel_rfl))⟩
 t0 := Tryz.underlying0
 a0 := Tryz.isAgg0
 z0 := Tryz.sizeOf0
 v0 := Tryz.zeroValue0
 t3 := Tryz.underlying3
 a3 := Tryz.isAgg3
 z3 := Tryz.sizeOf3
 v3 := Tryz.zeroValue3
 t4 := Tryz.underlying4
 a4 := Tryz.isAgg4
 z4 := Tryz.sizeOf4
 v4 := Tryz.zeroValue4
 t5 := Tryz.underlying5
 a5 := Tryz.isAgg5
 z5 := Tryz.sizeOf5
 v5 := Tryz.zeroValue5
 t9 := Tryz.underlying9
 a9 := Tryz.isAgg9
 z9 := Tryz.sizeOf9
 v9 := Tryz.zeroValue9
 t22 := Tryz.underlying94
 a22 := Tryz.isAgg94
 z22 := Tryz.sizeOf94
 v22 := Tryz.zeroValue94
 t25 := Tryz.underlying190
 a25 := Tryz.isAgg190
 z25 := Tryz.sizeOf190
 v25 := Tryz.zeroValue190
 t39 := Tryz.underlying165
 a39 := Tryz.isAgg165
 z39 := Tryz.sizeOf165
 v39 := Tryz.zeroValue165
 t45 := Tryz.underlying199
 a45 := Tryz.isAgg199
 z45 := Tryz.sizeOf199
 v45 := Tryz.zeroValue199
 t46 := Tryz.underlying200
 a46 := Tryz.isAgg200
 z46 := Tryz.sizeOf200
 v46 := Tryz.zeroValue200
 t50 := Tryz.underlying114
 a50 := Tryz.isAgg114
 z50 := Tryz.sizeOf114
 v50 := Tryz.zeroValue114
 t53 := Tryz.underlying206
 a53 := Tryz.isAgg206
 z53 := Tryz.sizeOf206
 v53 := Tryz.zeroValue206
 t55 := Tryz.underlying23
 a55 := Tryz.isAgg23
 z55 := Tryz.sizeOf23
 v55 := Tryz.zeroValue23
 t66 := Tryz.underlying230
 a66 := Tryz.isAgg230
 z66 := Tryz.sizeOf230
 v66 := Tryz.zeroValue230
 t70 := Tryz.underlying234
 a70 := Tryz.isAgg234
 z70 := Tryz.sizeOf234
 v70 := Tryz.zeroValue234
 t76 := Tryz.underlying249
 a76 := Tryz.isAgg249
 z76 := Tryz.sizeOf249
 v76 := Tryz.zeroValue249
 t77 := Tryz.underlying226
 a77 := Tryz.isAgg226
 z77 := Tryz.sizeOf226
 v77 := Tryz.zeroValue226 }
def Tryz.sortE_ren : Go.Shelf.Ren := ⟨fun | 6 => 78 | 15 => 113 | 14 => 123 | 28 => 167 | 29 => 168 | 20 => 175 | 21 => 176 | 22 => 177 | 23 => 178 | 24 => 179 | 25 => 180 | 26 => 181 | 27 => 182 | 46 => 197 | 47 => 191 | 48 => 192 | 49 => 198 | 50 => 199 | 57 => 209 | n => n,fun | 22 => 57 | 24 => 61 | 25 => 124 | 3 => 3 | 39 => 165 | 0 => 0 | 53 => 206 | 55 => 23 | 4 => 4 | 46 => 200 | 45 => 199 | 50 => 114 | 5 => 5 | 9 => 9 | 66 => 230 | 70 => 234 | 76 => 249 | 77 => 226 | n => n,fun | n => n⟩
theorem Tryz.sortE : Go.Proofs.SlLaysF0.n6 Tryz.prog Tryz.sortE_ren := {
 mixed := by kernel_rfl
 f6 := ⟨Tryz.f78.name,by decide,Tryz.func78.trans (congrArg some (by kernel_rfl))⟩
 f14 := ⟨Tryz.f123.name,by decide,Tryz.func123.trans (congrArg some (by kernel_rfl))⟩
 f15 := Tryz.func113.trans (congrArg some (by kernel_rfl))
 f20 := ⟨Tryz.f175.name,by decide,Tryz.func175.trans (congrArg some (by kernel_rfl))⟩
 f21 := ⟨Tryz.f176.name,by decide,Tryz.func176.trans (congrArg some (by kernel_rfl))⟩
 f22 := ⟨Tryz.f177.name,by decide,Tryz.func177.trans (congrArg some (by kernel_rfl))⟩
 f23 := ⟨Tryz.f178.name,by decide,Tryz.func178.trans (congrArg some (by kernel_rfl))⟩
 f24 := ⟨Tryz.f179.name,by decide,Tryz.func179.trans (congrArg some (by kernel_rfl))⟩
 f25 := ⟨Tryz.f180.name,by decide,Tryz.func180.trans (congrArg some (by kernel_rfl))⟩
 f26 := ⟨Tryz.f181.name,by decide,Tryz.func181.trans (congrArg some (by kernel_rfl))⟩
 f27 := ⟨Tryz.f182.name,by decide,Tryz.func182.trans (congrArg some (by kernel_rfl))⟩
 f28 := Tryz.func167.trans (congrArg some (by kernel_rfl))
 f29 := Tryz.func168.trans (congrArg some (by kernel_rfl))
 f46 := ⟨Tryz.f197.name,by decide,Tryz.func197.trans (congrArg some (by kernel_rfl))⟩
 f47 := Tryz.func191.trans (congrArg some (by kernel_rfl))
 f48 := Tryz.func192.trans (congrArg some (by kernel_rfl))
 f49 := ⟨Tryz.f198.name,by decide,Tryz.func198.trans (congrArg some (by kernel_rfl))⟩
 f50 := ⟨Tryz.f199.name,by decide,Tryz.func199.trans (congrArg some (by kernel_rfl))⟩
 f57 := ⟨Tryz.f209.name,by decide,Tryz.func209.trans (congrArg some (by kernel_rfl))⟩
 t0 := Tryz.underlying0
 a0 := Tryz.isAgg0
 z0 := Tryz.sizeOf0
 v0 := Tryz.zeroValue0
 t3 := Tryz.underlying3
 a3 := Tryz.isAgg3
 z3 := Tryz.sizeOf3
 v3 := Tryz.zeroValue3
 t4 := Tryz.underlying4
 a4 := Tryz.isAgg4
 z4 := Tryz.sizeOf4
 v4 := Tryz.zeroValue4
 t5 := Tryz.underlying5
 a5 := Tryz.isAgg5
 z5 := Tryz.sizeOf5
 v5 := Tryz.zeroValue5
 t9 := Tryz.underlying9
 a9 := Tryz.isAgg9
 z9 := Tryz.sizeOf9
 v9 := Tryz.zeroValue9
 t22 := Tryz.underlying57
 a22 := Tryz.isAgg57
 z22 := Tryz.sizeOf57
 v22 := Tryz.zeroValue57
 t25 := Tryz.underlying124
 a25 := Tryz.isAgg124
 z25 := Tryz.sizeOf124
 v25 := Tryz.zeroValue124
 t39 := Tryz.underlying165
 a39 := Tryz.isAgg165
 z39 := Tryz.sizeOf165
 v39 := Tryz.zeroValue165
 t45 := Tryz.underlying199
 a45 := Tryz.isAgg199
 z45 := Tryz.sizeOf199
 v45 := Tryz.zeroValue199
 t46 := Tryz.underlying200
 a46 := Tryz.isAgg200
 z46 := Tryz.sizeOf200
 v46 := Tryz.zeroValue200
 t50 := Tryz.underlying114
 a50 := Tryz.isAgg114
 z50 := Tryz.sizeOf114
 v50 := Tryz.zeroValue114
 t53 := Tryz.underlying206
 a53 := Tryz.isAgg206
 z53 := Tryz.sizeOf206
 v53 := Tryz.zeroValue206
 t55 := Tryz.underlying23
 a55 := Tryz.isAgg23
 z55 := Tryz.sizeOf23
 v55 := Tryz.zeroValue23
 t66 := Tryz.underlying230
 a66 := Tryz.isAgg230
 z66 := Tryz.sizeOf230
 v66 := Tryz.zeroValue230
 t70 := Tryz.underlying234
 a70 := Tryz.isAgg234
 z70 := Tryz.sizeOf234
 v70 := Tryz.zeroValue234
 t76 := Tryz.underlying249
 a76 := Tryz.isAgg249
 z76 := Tryz.sizeOf249
 v76 := Tryz.zeroValue249
 t77 := Tryz.underlying226
 a77 := Tryz.isAgg226
 z77 := Tryz.sizeOf226
 v77 := Tryz.zeroValue226 }
end Go.Proofs
