/- THE SMALL FUNCTIONS OF graph: what each returns. Conditions: see each theorem. -/
import Derived.Test.YtmfkkkhddigkfaaGreatDoorRows
import Derived.Test.YtmfkkkhddigkfaaGreatDoorMap
import Derived.WalkKit
import Derived.WalkSpells
import Derived.WalkLawsBesides
import Derived.BigQuiet
import Derived.Deep.QuietTactic
namespace Go.Proofs.YtmfkkkhddigkfaaGreatDoor
open Go Go.RowKit

theorem ret_bool {a b : Bool} (h : a = b) : Ending.returned (.bool a) = .returned (.bool b) := by rw [h]
theorem ret_int {k : IntKind} {a b : Int} (h : a = b) : Ending.returned (.int k a) = .returned (.int k b) := by rw [h]

theorem ext_alloc {a b : World} (o : Obj) (h : Ext a b) : Ext a (b.alloc o) := h.alloc o
theorem ext_drew {a b : World} (h : Ext a b) : Ext a b.drew := h.drew
theorem ext_set {a b : World} (p : Addr) (u : Value) (h : Ext a b) (hp : a.heap.size ≤ p.block) : Ext a (b.setCell p u) := Below.setCell h hp u
attribute [go_sem] ext_alloc ext_drew ext_set Ext.refl

def idB (n : Int) : Bool := decide (0 ≤ n) && decide (n < 1024)
def pairsB (n : Int) : Bool := n == 2 || n == 3 || n == 6 || n == 7
def weighsB (n : Int) : Bool := n == 0 || n == 2 || n == 5 || n == 7
def heavyB (n : Int) : Bool := decide (n < -1048576) || decide (1048576 < n)

theorem id_any (n : Int) (w : World) : Calls Tryz.prog 119 #[.int .i64 n] w fun e w' => e = .returned (.bool (idB n)) ∧ w' = w := by
  go_enter Tryz.func119, Tryz.ntmps119
  go_wp2
  all_goals (go_ret; exact ⟨ret_bool (by unfold idB; simp [*]; try omega), rfl⟩)

theorem pairs_any (n : Int) (w : World) : Calls Tryz.prog 120 #[.int .i64 n] w fun e w' => e = .returned (.bool (pairsB n)) ∧ w' = w := by
  go_enter Tryz.func120, Tryz.ntmps120
  go_wp2
  all_goals (go_ret; exact ⟨ret_bool (by unfold pairsB; simp [*]), rfl⟩)

theorem weighs_any (n : Int) (w : World) : Calls Tryz.prog 121 #[.int .i64 n] w fun e w' => e = .returned (.bool (weighsB n)) ∧ w' = w := by
  go_enter Tryz.func121, Tryz.ntmps121
  go_wp2
  all_goals (go_ret; exact ⟨ret_bool (by unfold weighsB; simp [*]), rfl⟩)

theorem heavy_any (n : Int) (w : World) : Calls Tryz.prog 122 #[.int .i64 n] w fun e w' => e = .returned (.bool (heavyB n)) ∧ w' = w := by
  go_enter Tryz.func122, Tryz.ntmps122
  go_wp2
  all_goals (go_ret; exact ⟨ret_bool (by unfold heavyB; simp [*]; try omega), rfl⟩)

theorem between_any (a b : Int) (w : World) :
    Calls Tryz.prog 116 #[.int .i64 a, .int .i64 b] w fun e w' => e = .returned (.agg #[.int .i64 (min a b), .int .i64 (max a b)]) ∧ Ext w w' := by
  go_enter Tryz.func116, Tryz.ntmps116
  go_wp2
  · have e1 : min a b = b := by omega
    have e2 : max a b = a := by omega
    rw [e1, e2]
    exact bodyPost_ret (by simp [results, Tryz.results116, go_sem]) rfl ⟨rfl, (Ext.refl w).alloc _⟩
  · have e1 : min a b = a := by omega
    have e2 : max a b = b := by omega
    rw [e1, e2]
    exact bodyPost_ret (by simp [results, Tryz.results116, go_sem]) rfl ⟨rfl, (Ext.refl w).alloc _⟩
  · have e0 : a = b := by omega
    subst e0
    rw [Int.min_self, Int.max_self]
    exact bodyPost_ret (by simp [results, Tryz.results116, go_sem]) rfl ⟨rfl, (Ext.refl w).alloc _⟩

/-- the captured edit lies in block g -/
def EditAt (w : World) (g : Nat) (op u v lab wt : Int) : Prop :=
  (∀ W, Ext w W → W.cell? ⟨g, 0, none⟩ = some (.int .i64 op)) ∧ (∀ W, Ext w W → W.cell? ⟨g, 1, none⟩ = some (.int .i64 u)) ∧ (∀ W, Ext w W → W.cell? ⟨g, 2, none⟩ = some (.int .i64 v)) ∧
  (∀ W, Ext w W → W.cell? ⟨g, 3, none⟩ = some (.int .u8 lab)) ∧ (∀ W, Ext w W → W.cell? ⟨g, 4, none⟩ = some (.int .i64 wt))
theorem EditAt.ext {w w' : World} {g : Nat} {op u v lab wt : Int} (h : EditAt w g op u v lab wt) (hx : Ext w w') : EditAt w' g op u v lab wt :=
  ⟨fun W k => h.1 W (hx.trans k), fun W k => h.2.1 W (hx.trans k), fun W k => h.2.2.1 W (hx.trans k), fun W k => h.2.2.2.1 W (hx.trans k), fun W k => h.2.2.2.2 W (hx.trans k)⟩

def w1B (op : Int) : Bool := decide (op < 0) || decide (8 ≤ op)
def w2B (op u v wt : Int) : Bool := !idB u || pairsB op && !idB v || weighsB op && heavyB wt
def w3B (op u v : Int) : Bool := pairsB op && u == v
def w4B (op : Int) (iu : Bool) : Bool := op == 0 && iu
def w5B (op : Int) (iu iv : Bool) : Bool := op != 0 && !pairsB op && !iu || op == 2 && !(iu && iv)
def w6B (op : Int) (ie : Bool) : Bool := pairsB op && op != 2 && !ie
def w7B (op : Int) (ie : Bool) : Bool := op == 2 && ie
def w8B (op : Int) (ne : Nat) : Bool := op == 2 && decide (1024 ≤ ne)

section
variable (op u v lab wt : Int) (g : Nat) (w : World) (he : EditAt w g op u v lab wt)
include he

theorem wrong1_any : Calls Tryz.prog 117 #[.pointer (some ⟨g, 0, none⟩)] w fun e w' => e = .returned (.bool (w1B op)) ∧ w' = w := by
  obtain ⟨c0, c1, c2, c3, c4⟩ := he
  go_enter Tryz.func117, Tryz.ntmps117
  go_wp2
  all_goals (go_ret; exact ⟨ret_bool (by unfold w1B; simp [*]; try omega), rfl⟩)

theorem wrong2_any  : Calls Tryz.prog 118 #[.pointer (some ⟨g, 0, none⟩)] w fun e w' => e = .returned (.bool (w2B op u v wt)) ∧ w' = w := by
  obtain ⟨c0, c1, c2, c3, c4⟩ := he
  go_enter Tryz.func118, Tryz.ntmps118
  go_wp2_with (first | (go_at_call 119; refine (id_any _ _).mono ?_; rintro e w' ⟨rfl, rfl⟩) | (go_at_call 120; refine (pairs_any _ _).mono ?_; rintro e w' ⟨rfl, rfl⟩) | (go_at_call 121; refine (weighs_any _ _).mono ?_; rintro e w' ⟨rfl, rfl⟩) | (go_at_call 122; refine (heavy_any _ _).mono ?_; rintro e w' ⟨rfl, rfl⟩))
  all_goals (go_ret; exact ⟨ret_bool (by unfold w2B; simp_all), rfl⟩)

theorem wrong3_any  : Calls Tryz.prog 123 #[.pointer (some ⟨g, 0, none⟩)] w fun e w' => e = .returned (.bool (w3B op u v)) ∧ w' = w := by
  obtain ⟨c0, c1, c2, c3, c4⟩ := he
  go_enter Tryz.func123, Tryz.ntmps123
  go_wp2_with ((go_at_call 120; refine (pairs_any _ _).mono ?_; rintro e w' ⟨rfl, rfl⟩))
  all_goals (go_ret; exact ⟨ret_bool (by unfold w3B; simp_all), rfl⟩)

theorem wrong4_any (gu : Nat) (iu : Bool) (hu : ∀ W, Ext w W → W.cell? ⟨gu, 0, none⟩ = some (.bool iu)) : Calls Tryz.prog 124 #[.pointer (some ⟨g, 0, none⟩), .pointer (some ⟨gu, 0, none⟩)] w fun e w' => e = .returned (.bool (w4B op iu)) ∧ w' = w := by
  obtain ⟨c0, c1, c2, c3, c4⟩ := he
  go_enter Tryz.func124, Tryz.ntmps124
  go_wp2_with (fail)
  all_goals (go_ret; exact ⟨ret_bool (by unfold w4B; simp_all), rfl⟩)

theorem wrong5_any (gu : Nat) (iu : Bool) (hu : ∀ W, Ext w W → W.cell? ⟨gu, 0, none⟩ = some (.bool iu)) (gv : Nat) (iv : Bool) (hv : ∀ W, Ext w W → W.cell? ⟨gv, 0, none⟩ = some (.bool iv)) : Calls Tryz.prog 125 #[.pointer (some ⟨g, 0, none⟩), .pointer (some ⟨gu, 0, none⟩), .pointer (some ⟨gv, 0, none⟩)] w fun e w' => e = .returned (.bool (w5B op iu iv)) ∧ w' = w := by
  obtain ⟨c0, c1, c2, c3, c4⟩ := he
  go_enter Tryz.func125, Tryz.ntmps125
  go_wp2_with ((go_at_call 120; refine (pairs_any _ _).mono ?_; rintro e w' ⟨rfl, rfl⟩))
  all_goals (go_ret; exact ⟨ret_bool (by unfold w5B; simp_all), rfl⟩)

theorem wrong6_any (ge : Nat) (ie : Bool) (hie : ∀ W, Ext w W → W.cell? ⟨ge, 0, none⟩ = some (.bool ie)) : Calls Tryz.prog 126 #[.pointer (some ⟨g, 0, none⟩), .pointer (some ⟨ge, 0, none⟩)] w fun e w' => e = .returned (.bool (w6B op ie)) ∧ w' = w := by
  obtain ⟨c0, c1, c2, c3, c4⟩ := he
  go_enter Tryz.func126, Tryz.ntmps126
  go_wp2_with ((go_at_call 120; refine (pairs_any _ _).mono ?_; rintro e w' ⟨rfl, rfl⟩))
  all_goals (go_ret; exact ⟨ret_bool (by unfold w6B; simp_all), rfl⟩)

theorem wrong7_any (ge : Nat) (ie : Bool) (hie : ∀ W, Ext w W → W.cell? ⟨ge, 0, none⟩ = some (.bool ie)) : Calls Tryz.prog 127 #[.pointer (some ⟨g, 0, none⟩), .pointer (some ⟨ge, 0, none⟩)] w fun e w' => e = .returned (.bool (w7B op ie)) ∧ w' = w := by
  obtain ⟨c0, c1, c2, c3, c4⟩ := he
  go_enter Tryz.func127, Tryz.ntmps127
  go_wp2_with (fail)
  all_goals (go_ret; exact ⟨ret_bool (by unfold w7B; simp_all), rfl⟩)

theorem wrong8_any (gg bg be ne : Nat) (hg : ∀ W, Ext w W → W.cell? ⟨gg, 0, none⟩ = some (.pointer (some ⟨bg, 0, none⟩))) (hm : ∀ W, Ext w W → W.cell? ⟨bg, 1, none⟩ = some (.map (some be))) (hn : ∀ ty, (Builtin.len_ #[134] ty #[.map (some be)]).run Tryz.prog w = .ok (.int .i64 ne) w) : Calls Tryz.prog 128 #[.pointer (some ⟨g, 0, none⟩), .pointer (some ⟨gg, 0, none⟩)] w fun e w' => e = .returned (.bool (w8B op ne)) ∧ w' = w := by
  obtain ⟨c0, c1, c2, c3, c4⟩ := he
  go_enter Tryz.func128, Tryz.ntmps128
  go_wp2_with (fail)
  all_goals (go_ret; exact ⟨ret_bool (by unfold w8B; simp_all; try omega), rfl⟩)

end

end Go.Proofs.YtmfkkkhddigkfaaGreatDoor
