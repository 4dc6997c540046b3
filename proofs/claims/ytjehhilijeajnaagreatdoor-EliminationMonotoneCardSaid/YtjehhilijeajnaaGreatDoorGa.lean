/- THE SMALL FUNCTIONS OF graph: what each returns. Conditions: see each theorem. -/
import Derived.Test.YtjehhilijeajnaaGreatDoorRows
import Derived.Test.YtjehhilijeajnaaGreatDoorMap
import Derived.WalkKit
import Derived.WalkSpells
import Derived.WalkLawsBesides
import Derived.BigQuiet
import Derived.Deep.QuietTactic
namespace Go.Proofs.YtjehhilijeajnaaGreatDoor
open Go Go.RowKit

theorem ret_bool {a b : Bool} (h : a = b) : Ending.returned (.bool a) = .returned (.bool b) := by rw [h]
theorem ret_int {k : IntKind} {a b : Int} (h : a = b) : Ending.returned (.int k a) = .returned (.int k b) := by rw [h]

theorem ext_alloc {a b : World} (o : Obj) (h : Ext a b) : Ext a (b.alloc o) := h.alloc o
theorem ext_drew {a b : World} (h : Ext a b) : Ext a b.drew := h.drew
theorem ext_set {a b : World} (p : Addr) (u : Value) (h : Ext a b) (hp : a.heap.size ≤ p.block) : Ext a (b.setCell p u) := Below.setCell h hp u
attribute [go_sem] ext_alloc ext_drew ext_set Ext.refl

def idB (n : Int) : Bool := decide (0 ≤ n) && decide (n < 1024)
def pairsB (n : Int) : Bool := n == 2 || n == 3 || n == 6 || n == 7
def weighsB (n : Int) : Bool := n == 0 || n == 2 || n == 5 || n == 7
def heavyB (n : Int) : Bool := decide (n < -1048576) || decide (1048576 < n)

theorem id_any (n : Int) (w : World) : Calls Tryz.prog 91 #[.int .i64 n] w fun e w' => e = .returned (.bool (idB n)) ∧ w' = w := by
  go_enter Tryz.func91, Tryz.ntmps91
  go_wp2
  all_goals (go_ret; exact ⟨ret_bool (by unfold idB; simp [*]; try omega), rfl⟩)

theorem pairs_any (n : Int) (w : World) : Calls Tryz.prog 92 #[.int .i64 n] w fun e w' => e = .returned (.bool (pairsB n)) ∧ w' = w := by
  go_enter Tryz.func92, Tryz.ntmps92
  go_wp2
  all_goals (go_ret; exact ⟨ret_bool (by unfold pairsB; simp [*]), rfl⟩)

theorem weighs_any (n : Int) (w : World) : Calls Tryz.prog 93 #[.int .i64 n] w fun e w' => e = .returned (.bool (weighsB n)) ∧ w' = w := by
  go_enter Tryz.func93, Tryz.ntmps93
  go_wp2
  all_goals (go_ret; exact ⟨ret_bool (by unfold weighsB; simp [*]), rfl⟩)

theorem heavy_any (n : Int) (w : World) : Calls Tryz.prog 94 #[.int .i64 n] w fun e w' => e = .returned (.bool (heavyB n)) ∧ w' = w := by
  go_enter Tryz.func94, Tryz.ntmps94
  go_wp2
  all_goals (go_ret; exact ⟨ret_bool (by unfold heavyB; simp [*]; try omega), rfl⟩)

theorem between_any (a b : Int) (w : World) :
    Calls Tryz.prog 88 #[.int .i64 a, .int .i64 b] w fun e w' => e = .returned (.agg #[.int .i64 (min a b), .int .i64 (max a b)]) ∧ Ext w w' := by
  go_enter Tryz.func88, Tryz.ntmps88
  go_wp2
  · have e1 : min a b = b := by omega
    have e2 : max a b = a := by omega
    rw [e1, e2]
    exact bodyPost_ret (by simp [results, Tryz.results88, go_sem]) rfl ⟨rfl, (Ext.refl w).alloc _⟩
  · have e1 : min a b = a := by omega
    have e2 : max a b = b := by omega
    rw [e1, e2]
    exact bodyPost_ret (by simp [results, Tryz.results88, go_sem]) rfl ⟨rfl, (Ext.refl w).alloc _⟩
  · have e0 : a = b := by omega
    subst e0
    rw [Int.min_self, Int.max_self]
    exact bodyPost_ret (by simp [results, Tryz.results88, go_sem]) rfl ⟨rfl, (Ext.refl w).alloc _⟩

/-- the captured edit lies in block g -/
def EditAt (w : World) (g : Nat) (op u v lab wt : Int) : Prop :=
  (∀ W, Ext w W → W.cell? ⟨g, 0, none⟩ = some (.int .i64 op)) ∧ (∀ W, Ext w W → W.cell? ⟨g, 1, none⟩ = some (.int .i64 u)) ∧ (∀ W, Ext w W → W.cell? ⟨g, 2, none⟩ = some (.int .i64 v)) ∧
  (∀ W, Ext w W → W.cell? ⟨g, 3, none⟩ = some (.int .u8 lab)) ∧ (∀ W, Ext w W → W.cell? ⟨g, 4, none⟩ = some (.int .i64 wt))
theorem EditAt.ext {w w' : World} {g : Nat} {op u v lab wt : Int} (h : EditAt w g op u v lab wt) (hx : Ext w w') : EditAt w' g op u v lab wt :=
  ⟨fun W k => h.1 W (hx.trans k), fun W k => h.2.1 W (hx.trans k), fun W k => h.2.2.1 W (hx.trans k), fun W k => h.2.2.2.1 W (hx.trans k), fun W k => h.2.2.2.2 W (hx.trans k)⟩

def w1B (op : Int) : Bool := decide (op < 0) || decide (8 ≤ op)
def w2B (op u v wt : Int) : Bool := !idB u || pairsB op && !idB v || weighsB op && heavyB wt
def w3B (op u v : Int) : Bool := pairsB op && u == v
def w4B (op : Int) (iu : Bool) : Bool := op == 0 && iu
def w5B (op : Int) (iu iv : Bool) : Bool := op != 0 && !pairsB op && !iu || op == 2 && !(iu && iv)
def w6B (op : Int) (ie : Bool) : Bool := pairsB op && op != 2 && !ie
def w7B (op : Int) (ie : Bool) : Bool := op == 2 && ie
def w8B (op : Int) (ne : Nat) : Bool := op == 2 && decide (1024 ≤ ne)

section
variable (op u v lab wt : Int) (g : Nat) (w : World) (he : EditAt w g op u v lab wt)
include he

theorem wrong1_any : Calls Tryz.prog 89 #[.pointer (some ⟨g, 0, none⟩)] w fun e w' => e = .returned (.bool (w1B op)) ∧ w' = w := by
  obtain ⟨c0, c1, c2, c3, c4⟩ := he
  go_enter Tryz.func89, Tryz.ntmps89
  go_wp2
  all_goals (go_ret; exact ⟨ret_bool (by unfold w1B; simp [*]; try omega), rfl⟩)

theorem wrong2_any  : Calls Tryz.prog 90 #[.pointer (some ⟨g, 0, none⟩)] w fun e w' => e = .returned (.bool (w2B op u v wt)) ∧ w' = w := by
  obtain ⟨c0, c1, c2, c3, c4⟩ := he
  go_enter Tryz.func90, Tryz.ntmps90
  go_wp2_with (first | (go_at_call 91; refine (id_any _ _).mono ?_; rintro e w' ⟨rfl, rfl⟩) | (go_at_call 92; refine (pairs_any _ _).mono ?_; rintro e w' ⟨rfl, rfl⟩) | (go_at_call 93; refine (weighs_any _ _).mono ?_; rintro e w' ⟨rfl, rfl⟩) | (go_at_call 94; refine (heavy_any _ _).mono ?_; rintro e w' ⟨rfl, rfl⟩))
  all_goals (go_ret; exact ⟨ret_bool (by unfold w2B; simp_all), rfl⟩)

theorem wrong3_any  : Calls Tryz.prog 95 #[.pointer (some ⟨g, 0, none⟩)] w fun e w' => e = .returned (.bool (w3B op u v)) ∧ w' = w := by
  obtain ⟨c0, c1, c2, c3, c4⟩ := he
  go_enter Tryz.func95, Tryz.ntmps95
  go_wp2_with ((go_at_call 92; refine (pairs_any _ _).mono ?_; rintro e w' ⟨rfl, rfl⟩))
  all_goals (go_ret; exact ⟨ret_bool (by unfold w3B; simp_all), rfl⟩)

theorem wrong4_any (gu : Nat) (iu : Bool) (hu : ∀ W, Ext w W → W.cell? ⟨gu, 0, none⟩ = some (.bool iu)) : Calls Tryz.prog 96 #[.pointer (some ⟨g, 0, none⟩), .pointer (some ⟨gu, 0, none⟩)] w fun e w' => e = .returned (.bool (w4B op iu)) ∧ w' = w := by
  obtain ⟨c0, c1, c2, c3, c4⟩ := he
  go_enter Tryz.func96, Tryz.ntmps96
  go_wp2_with (fail)
  all_goals (go_ret; exact ⟨ret_bool (by unfold w4B; simp_all), rfl⟩)

theorem wrong5_any (gu : Nat) (iu : Bool) (hu : ∀ W, Ext w W → W.cell? ⟨gu, 0, none⟩ = some (.bool iu)) (gv : Nat) (iv : Bool) (hv : ∀ W, Ext w W → W.cell? ⟨gv, 0, none⟩ = some (.bool iv)) : Calls Tryz.prog 97 #[.pointer (some ⟨g, 0, none⟩), .pointer (some ⟨gu, 0, none⟩), .pointer (some ⟨gv, 0, none⟩)] w fun e w' => e = .returned (.bool (w5B op iu iv)) ∧ w' = w := by
  obtain ⟨c0, c1, c2, c3, c4⟩ := he
  go_enter Tryz.func97, Tryz.ntmps97
  go_wp2_with ((go_at_call 92; refine (pairs_any _ _).mono ?_; rintro e w' ⟨rfl, rfl⟩))
  all_goals (go_ret; exact ⟨ret_bool (by unfold w5B; simp_all), rfl⟩)

theorem wrong6_any (ge : Nat) (ie : Bool) (hie : ∀ W, Ext w W → W.cell? ⟨ge, 0, none⟩ = some (.bool ie)) : Calls Tryz.prog 98 #[.pointer (some ⟨g, 0, none⟩), .pointer (some ⟨ge, 0, none⟩)] w fun e w' => e = .returned (.bool (w6B op ie)) ∧ w' = w := by
  obtain ⟨c0, c1, c2, c3, c4⟩ := he
  go_enter Tryz.func98, Tryz.ntmps98
  go_wp2_with ((go_at_call 92; refine (pairs_any _ _).mono ?_; rintro e w' ⟨rfl, rfl⟩))
  all_goals (go_ret; exact ⟨ret_bool (by unfold w6B; simp_all), rfl⟩)

theorem wrong7_any (ge : Nat) (ie : Bool) (hie : ∀ W, Ext w W → W.cell? ⟨ge, 0, none⟩ = some (.bool ie)) : Calls Tryz.prog 99 #[.pointer (some ⟨g, 0, none⟩), .pointer (some ⟨ge, 0, none⟩)] w fun e w' => e = .returned (.bool (w7B op ie)) ∧ w' = w := by
  obtain ⟨c0, c1, c2, c3, c4⟩ := he
  go_enter Tryz.func99, Tryz.ntmps99
  go_wp2_with (fail)
  all_goals (go_ret; exact ⟨ret_bool (by unfold w7B; simp_all), rfl⟩)

theorem wrong8_any (gg bg be ne : Nat) (hg : ∀ W, Ext w W → W.cell? ⟨gg, 0, none⟩ = some (.pointer (some ⟨bg, 0, none⟩))) (hm : ∀ W, Ext w W → W.cell? ⟨bg, 1, none⟩ = some (.map (some be))) (hn : ∀ ty, (Builtin.len_ #[122] ty #[.map (some be)]).run Tryz.prog w = .ok (.int .i64 ne) w) : Calls Tryz.prog 100 #[.pointer (some ⟨g, 0, none⟩), .pointer (some ⟨gg, 0, none⟩)] w fun e w' => e = .returned (.bool (w8B op ne)) ∧ w' = w := by
  obtain ⟨c0, c1, c2, c3, c4⟩ := he
  go_enter Tryz.func100, Tryz.ntmps100
  go_wp2_with (fail)
  all_goals (go_ret; exact ⟨ret_bool (by unfold w8B; simp_all; try omega), rfl⟩)

end

end Go.Proofs.YtjehhilijeajnaaGreatDoor
