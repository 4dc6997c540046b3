/- Parts of a proof, laid together: F1, Sq, Ob2, Ipa, Mn, Fg, Ce, Rv. Each part says its own conditions. -/
import Derived.Test.YtjehhilijeajnaaGreatDoorC3
import Derived.Test.YtjehhilijeajnaaGreatDoorC7
import Derived.Test.YtjehhilijeajnaaGreatDoorC9
import Derived.Test.YtjehhilijeajnaaGreatDoorC1
import Derived.LaidMore
import Derived.Stop.Joined
import Derived.MakeChecks
import Derived.Test.YtjehhilijeajnaaGreatDoorC8
import Derived.Test.YtjehhilijeajnaaGreatDoorC6
import Derived.Shelf.RegionOpenPlain
import Derived.Deep.LoopGhost
import Derived.Sort.WalkB12
import Derived.Lib.SlicesMore
import Derived.Lib.SliceRun
/- law01.From: a list of numbers as a set. Conditions: see each theorem. -/
namespace Go.Proofs.YtjehhilijeajnaaGreatDoor
open Go Go.RowKit
attribute [local go_sem] qUpon lUpon

theorem bitW_shl (n : Nat) : IntKind.u64.wrap (2 ^ (n % 64)) = bitW n := by
  rw [IntKind.wrap_u64]
  have h3 : 2 ^ (n % 64) < 2 ^ 64 := Nat.pow_lt_pow_right (by omega) (by omega)
  have e : ((2 : Int) ^ (n % 64)) = ((2 ^ (n % 64) : Nat) : Int) := by simp
  unfold bitW
  rw [e]
  generalize 2 ^ (n % 64) = m at h3
  omega
theorem bitW_shl' (n : Nat) : IntKind.u64.wrap (2 ^ ((n : Int) % 64).toNat) = bitW n := by
  rw [show ((n : Int) % 64).toNat = n % 64 by omega]
  exact bitW_shl n
theorem tmod64 (n : Nat) : ((n : Nat) : Int).tmod 64 = ((n % 64 : Nat) : Int) := by
  rw [Int.tmod_eq_emod_of_nonneg (by omega)]
  omega

/-- a set with one more element, in memory: all that the walk needs behind the store -/
theorem with_step {w wr w3 w4 : World} {b4 b2 n N : Nat} {T : TypeId} {A : Option Addr} {L : List Int} (hB : Blk wr b4 T (setC N)) (hA : Blk wr b2 T (setC 0)) (hs : SlAt encI 1 wr A L) (hx : Ext w wr) (hx3 : Ext wr w3) (hx4 : Ext (w3.setCell ⟨b4, n / 64, none⟩ (.int .u64 (bits .or .u64 (wd N (n / 64)) (bitW n)))) w4) (hb : w.heap.size ≤ b4) (hne : b2 ≠ b4) :
    Blk w4 b4 T (setC (N ||| 2 ^ n)) ∧ Blk w4 b2 T (setC 0) ∧ SlAt encI 1 w4 A L ∧ Ext w w4 := by
  have hk3 : Keep [b4] w3 (w3.setCell ⟨b4, n / 64, none⟩ (.int .u64 (bits .or .u64 (wd N (n / 64)) (bitW n)))) := Keep.setCell _ _ _ _
  refine ⟨?_, ((hA.ext hx3).keep hk3 (by simpa using hne)).ext hx4, ((hs.ext hx3).keep_S (hB.ext hx3) encI_nu encI0 hk3).ext hx4, ((hx.trans hx3).of_new hk3 (by simpa using hb)).trans hx4⟩
  have h := ((hB.ext hx3).set (n / 64) (.int .u64 (bits .or .u64 (wd N (n / 64)) (bitW n)))).ext hx4
  rwa [setC_with N n] at h
set_option maxRecDepth 100000 in
set_option maxHeartbeats 8000000 in
theorem from01_any (A : Option Addr) (L : List Int) (cL : Nat) (w : World) (hL : SlAt encI 1 w A L) (_hl : L.length ≤ 4096) :
    Calls Tryz.prog 24 #[.slice A L.length cL] w fun e w' => e = .returned (.agg (setC (fromS L))) ∧ Ext w w' := by
  have hB0 := hide (Blk.new w 56 (setC 0))
  have hs0 := hide hL
  clear hL
  go_enter Tryz.func24, Tryz.ntmps24
  go_wp2_with fail
  have hx1 := hide ((ext_self1 w (.cells (setC 0) 56)).trans (ext_self1 _ (.cells (setC 0) 56)))
  have hB2 := hide ((unhide hB0).ext (ext_self1 (w.alloc (.cells (setC 0) 56)) (.cells (setC 0) 56)))
  have hB4 := hide (Blk.new (w.alloc (.cells (setC 0) 56)) 56 (setC 0))
  have hs : (w.alloc (.cells (setC 0) 56)).heap.size = w.heap.size + 1 := World.size_alloc _ _
  rw [hs] at hB4
  clear hs hB0
  have hz : setC 0 = #[.int .u64 0, .int .u64 0, .int .u64 0, .int .u64 0, .int .u64 0, .int .u64 0, .int .u64 0, .int .u64 0, .int .u64 0, .int .u64 0, .int .u64 0, .int .u64 0, .int .u64 0, .int .u64 0, .int .u64 0, .int .u64 0] := rfl
  rw [hz] at hx1 hB2 hB4
  generalize (w.alloc (.cells #[.int .u64 0, .int .u64 0, .int .u64 0, .int .u64 0, .int .u64 0, .int .u64 0, .int .u64 0, .int .u64 0, .int .u64 0, .int .u64 0, .int .u64 0, .int .u64 0, .int .u64 0, .int .u64 0, .int .u64 0, .int .u64 0] 56)).alloc (.cells #[.int .u64 0, .int .u64 0, .int .u64 0, .int .u64 0, .int .u64 0, .int .u64 0, .int .u64 0, .int .u64 0, .int .u64 0, .int .u64 0, .int .u64 0, .int .u64 0, .int .u64 0, .int .u64 0, .int .u64 0, .int .u64 0] 56) = W1 at *
  rw [← hz] at hB4 hB2
  clear hz
  have hlo := hide (show w.heap.size ≤ w.heap.size + 1 ∧ w.heap.size ≠ w.heap.size + 1 by omega)
  have hlo2 := hide (Nat.le_refl w.heap.size)
  generalize hb4e : w.heap.size + 1 = b4 at *
  generalize hb2e : w.heap.size = b2 at *
  have hlo : Hid (w.heap.size ≤ b4 ∧ b2 ≠ b4) := by rw [hb2e]; exact hlo
  have hs1 := hide ((unhide hs0).ext (unhide hx1))
  clear hs0
  go_loopw [4] (fun i wr => ∃ k : Nat, k ≤ L.length ∧ i = .int .i64 k ∧ Blk wr b4 56 (setC (fromS (L.take k))) ∧ Blk wr b2 56 (setC 0) ∧ SlAt encI 1 wr A L ∧ Ext w wr) (fun i _ => L.length - (intOf i).toNat)
  case atStart => exact ⟨0, Nat.zero_le _, rfl, unhide hB4, unhide hB2, unhide hs1, unhide hx1⟩
  case round =>
    obtain ⟨k, hk, rfl, hB, hA, hs, hx⟩ := hrel
    have hB' := hide hB
    have hA' := hide hA
    have hs' := hide hs
    have hx' := hide hx
    clear hB4 hB2 hs1 hx1 hB hA hs hx
    by_cases hlt : k < L.length
    · have hB := unhide hB'
      obtain ⟨bb, off, rfl, c0⟩ := atI (unhide hs') hlt
      have hn' := hide (fromS_next L k hlt)
      generalize L[k] = x at c0 hn'
      generalize fromS (L.take k) = N at hB hB' hn'
      have hself := Ext.refl wr
      by_cases hf : fitB x = true
      · obtain ⟨n, rfl⟩ : ∃ n : Nat, x = n := ⟨x.toNat, by simp [fitB] at hf; omega⟩
        have hn : n < 1024 := by simp [fitB] at hf; omega
        have hN := hide (show withS N (n : Int) = N ||| 2 ^ n by rw [withS, if_pos hf, Int.toNat_natCast])
        obtain ⟨h1, hw, h6, h7, h8⟩ := idx_facts hn
        have h9 := tmod64 n
        have h10 := bitW_shl' n
        have k0 := cell_of hB hn
        have z0 : ¬ (n : Int) < 0 := by omega
        have z1 : (n : Int) < 1024 := by omega
        clear hB hf
        go_wp2_with fail
        refine wp_region_ext (P := Tryz.prog) [0,1,2,3,4,5,6,7,8,9,10,11,12,13,14,15,16,17,18,19] [20] 1 #[true,true,true,true,true,true,true,true,true,true,true,true,true,true,true,true,true,true,true,true,false] (by kernel_rfl) (by kernel_rfl) rfl (by rfl) ?_
        iterate 20
          refine ql_want (v := ?_) rfl (by rfl) (fun W hW => ?_) ?_
          rotate_left
          · go_simp
            first | done | rfl
          go_frame
        refine wpQL_nil (fun w3 hx3 => ?_)
        have c1 := k0 w3 hx3
        have f1 := ((unhide hB').ext hx3).frozen (n / 64)
        refine lx_one (i := 20) (by kernel_rfl) rfl (by rfl) #[true,true,true,true,true,true,true,true,true,true,true,true,true,true,true,true,true,true,true,true,true] (by rfl) ?_
        go_simp
        intro w4 hx4
        have hst := with_step (unhide hB') (unhide hA') (unhide hs') (unhide hx') hx3 hx4 (unhide hlo).1 (unhide hlo).2
        have hB3 := hide hst.1
        have hA3 := hide hst.2.1
        have hs3 := hide hst.2.2.1
        have hx5 := hide hst.2.2.2
        clear hB' hA' hs' hx' hx3 hx4 c0 c1 f1 k0 h1 hw h6 h7 h8 h9 h10 hst hself
        refine wpX_done (by kernel_rfl) ?_
        try go_frame
        go_wp2_with fail
        go_roundw
        case rel => exact ⟨k + 1, by omega, by go_num, by rw [unhide hn', unhide hN]; exact unhide hB3, unhide hA3, unhide hs3, unhide hx5⟩
        case measure => simp [intOf]; omega
      · have hN := hide (show withS N x = N by rw [withS, if_neg hf])
        clear hB
        by_cases h0 : x < 0
        · go_wp2_with fail
          go_roundw
          case rel => exact ⟨k + 1, by omega, by go_num, by rw [unhide hn', unhide hN]; exact unhide hB', unhide hA', unhide hs', unhide hx'⟩
          case measure => simp [intOf]; omega
        · have h1 : ¬ x < 1024 := by simp [fitB] at hf; omega
          go_wp2_with fail
          go_roundw
          case rel => exact ⟨k + 1, by omega, by go_num, by rw [unhide hn', unhide hN]; exact unhide hB', unhide hA', unhide hs', unhide hx'⟩
          case measure => simp [intOf]; omega
    · have hke : k = L.length := by omega
      have hB := unhide hB'
      have hA := unhide hA'
      rw [hke, List.take_length] at hB hB'
      have hself := Ext.refl wr
      clear hlt
      obtain ⟨N, hN⟩ : ∃ N, fromS L = N := ⟨_, rfl⟩
      rw [hN] at hB hB'
      have hN' := hide hN
      clear hN
      have e0 := hB.cells 0 (v := .int .u64 (wd N 0)) rfl
      have e1 := hB.cells 1 (v := .int .u64 (wd N 1)) rfl
      have e2 := hB.cells 2 (v := .int .u64 (wd N 2)) rfl
      have e3 := hB.cells 3 (v := .int .u64 (wd N 3)) rfl
      have e4 := hB.cells 4 (v := .int .u64 (wd N 4)) rfl
      have e5 := hB.cells 5 (v := .int .u64 (wd N 5)) rfl
      have e6 := hB.cells 6 (v := .int .u64 (wd N 6)) rfl
      have e7 := hB.cells 7 (v := .int .u64 (wd N 7)) rfl
      have e8 := hB.cells 8 (v := .int .u64 (wd N 8)) rfl
      have e9 := hB.cells 9 (v := .int .u64 (wd N 9)) rfl
      have e10 := hB.cells 10 (v := .int .u64 (wd N 10)) rfl
      have e11 := hB.cells 11 (v := .int .u64 (wd N 11)) rfl
      have e12 := hB.cells 12 (v := .int .u64 (wd N 12)) rfl
      have e13 := hB.cells 13 (v := .int .u64 (wd N 13)) rfl
      have e14 := hB.cells 14 (v := .int .u64 (wd N 14)) rfl
      have e15 := hB.cells 15 (v := .int .u64 (wd N 15)) rfl
      have g0 := hA.frozen 0
      have g1 := hA.frozen 1
      have g2 := hA.frozen 2
      have g3 := hA.frozen 3
      have g4 := hA.frozen 4
      have g5 := hA.frozen 5
      have g6 := hA.frozen 6
      have g7 := hA.frozen 7
      have g8 := hA.frozen 8
      have g9 := hA.frozen 9
      have g10 := hA.frozen 10
      have g11 := hA.frozen 11
      have g12 := hA.frozen 12
      have g13 := hA.frozen 13
      have g14 := hA.frozen 14
      have g15 := hA.frozen 15
      have z0 := hA.cells 0 (v := .int .u64 (wd 0 0)) rfl
      have z1 := hA.cells 1 (v := .int .u64 (wd 0 1)) rfl
      have z2 := hA.cells 2 (v := .int .u64 (wd 0 2)) rfl
      have z3 := hA.cells 3 (v := .int .u64 (wd 0 3)) rfl
      have z4 := hA.cells 4 (v := .int .u64 (wd 0 4)) rfl
      have z5 := hA.cells 5 (v := .int .u64 (wd 0 5)) rfl
      have z6 := hA.cells 6 (v := .int .u64 (wd 0 6)) rfl
      have z7 := hA.cells 7 (v := .int .u64 (wd 0 7)) rfl
      have z8 := hA.cells 8 (v := .int .u64 (wd 0 8)) rfl
      have z9 := hA.cells 9 (v := .int .u64 (wd 0 9)) rfl
      have z10 := hA.cells 10 (v := .int .u64 (wd 0 10)) rfl
      have z11 := hA.cells 11 (v := .int .u64 (wd 0 11)) rfl
      have z12 := hA.cells 12 (v := .int .u64 (wd 0 12)) rfl
      have z13 := hA.cells 13 (v := .int .u64 (wd 0 13)) rfl
      have z14 := hA.cells 14 (v := .int .u64 (wd 0 14)) rfl
      have z15 := hA.cells 15 (v := .int .u64 (wd 0 15)) rfl
      clear hB hA
      go_wp2_with fail
      refine bodyPost_ret (ret_cell1 rfl rfl (load_Set _ b2 N (Blk.set16 N (unhide hA')))) rfl ?_
      exact ⟨by rw [unhide hN'], (unhide hx').of_new (Keep.set16 wr b2 N) (by simp; omega)⟩
end Go.Proofs.YtjehhilijeajnaaGreatDoor
/- Small laws for the walks of law 21. Conditions: see each theorem. -/
namespace Go.Proofs.YtjehhilijeajnaaGreatDoor
open Go Go.RowKit

theorem qUpon_of {P : Program} {W : World} {v : Value} {r : Result Next} (h : r = .ok (.value v) W) : qUpon P Ext W v r := by rw [h]; exact ⟨rfl, Ext.refl W⟩
theorem from_sAt {V : List (Int × Thing)} {E : List ((Int × Int) × Thing)} {L : List Int} (hi : GInv V E) (ho : Ord V L) {i : Nat} (hl : i < L.length) : eqS (sAt E L i) (fromS (neaR E L i)) = true := by
  rw [neaR_eq hi ho hl, eqS_iff]
  intro k hk
  rw [fromS_bit, Bool.eq_iff_iff, Bool.and_eq_true, decide_eq_true_eq, decide_eq_true_eq, mem_toL']
  constructor
  · intro h; exact ⟨hk, by omega, by omega, h⟩
  · rintro ⟨_, _, _, h⟩; exact h
theorem eqS_self (N : Nat) : eqS N N = true := eqS_iff.2 fun _ _ => rfl
theorem hgt_ok (C : Option Addr) (L : List Int) (cL g bv be : Nat) (V : List (Int × Thing)) (E : List ((Int × Int) × Thing)) (w : World) (hL : SlAt encI 1 w C L) (hl : L.length ≤ 1024) (hg : IsG w g bv be V E) (hT : Tab w) (ho : Ord V L) :
    Calls Tryz.prog 13 #[.pointer (some ⟨g, 0, none⟩), .slice C L.length cL] w fun e w' => e = .returned (.tuple #[.int .i64 (hgtM (treeR E L L.length)), .int .i64 0]) ∧ Ext w w' := by
  have hi := hg.inv
  have hpar := parents_ok C L cL g bv be V E w hL hl hg hT (ord_check ho (ho.len hi))
  rw [tree_eq hi ho] at hpar
  exact height_gen _ _ (treeR E L L.length) 0 w (tree_up hi ho) (by rw [treeR_len]; omega) (hpar.mono fun e w' ⟨A', c', h1, h2, h3⟩ => ⟨A', c', h1, h2, h3⟩)
theorem rem_nat {a n : Nat} (_hn : 0 < n) : (a : Int).tmod (n : Int) = ((a % n : Nat) : Int) := by
  rw [Int.tmod_eq_emod_of_nonneg (by omega)]
  exact (Int.natCast_emod _ _).symm
end Go.Proofs.YtjehhilijeajnaaGreatDoor
/- ARGUMENTS OPENED, further: slices of ints and of bytes; the table that the row lists as laid. Conditions: see each theorem. -/
namespace Go.Proofs.YtjehhilijeajnaaGreatDoor
open Go Go.RowKit Go.ChangeShapes Go.WideShapes Go.Deep

section
variable {H : Type} {enc : TypeId × Value → H} {w : World} {base : Nat} {spare : Nat → Bool} {held : Bool} {fuel : Nat} {x : DataW H × List MemPlace} {a : Option Addr} {len cap : Nat}
theorem open_bytes (h : DataW.trod enc Tryz.prog w base spare held fuel 23 [.slice a len cap] = some x) : ∃ L : List Int, L.length = len ∧ SlAt encU8 1 w a L ∧ (∀ d ∈ L, 0 ≤ d ∧ d < 256) ∧ len ≤ 9223372036854775807 ∧ len ≤ cap := by
  rcases open_slice Tryz.underlying23 h with h0 | ⟨a', len', cap', m, n, D, Pl, hcs, hb, hl, hm, hmm, hx, hi⟩
  · have h0 := h0.1
    simp at h0
    obtain ⟨rfl, rfl, rfl⟩ := h0
    exact ⟨[], rfl, SlAt.nil, by simp, by omega, by omega⟩
  · simp at hcs
    obtain ⟨rfl, rfl, rfl⟩ := hcs
    obtain ⟨L, h1, h2, h3⟩ := slAt_of (α := Int) (enc := encU8) (k := 1) (w := w) (a := a') (len := len) (p := fun d => 0 ≤ d ∧ d < 256) (fun x => ⟨_, rfl⟩) (fun i hil => by
      have hle : len ≤ m := by rw [hmm]; split <;> omega
      obtain ⟨cs', hc, ht'⟩ := hi i (by omega)
      obtain ⟨k, e, _, wk⟩ := DataW.trod_int Tryz.underlying5 ht'
      subst e
      obtain ⟨_, hcl, hat⟩ := World.cells?_some hc
      have hk : Tryz.prog.cellsOf 5 = 1 := by kernel_rfl
      refine ⟨k, fun j u hu => ?_, by have := Go.bounds_u8 wk; omega⟩
      match j, hu with
      | 0, hu =>
        simp [encU8] at hu
        subst hu
        have h0 := hat 0 (by rw [hk]; omega)
        rw [hk] at h0
        rw [Go.Deep.add_add] at h0
        simpa using h0)
    exact ⟨L, h1, h2, h3, by have := hm; unfold maxLen at this; omega, hl⟩
theorem open_ints (h : DataW.trod enc Tryz.prog w base spare held fuel 29 [.slice a len cap] = some x) : ∃ L : List Int, L.length = len ∧ SlAt encI 1 w a L ∧ (∀ d ∈ L, i64ok d) ∧ len ≤ 9223372036854775807 ∧ len ≤ cap := by
  rcases open_slice Tryz.underlying29 h with h0 | ⟨a', len', cap', m, n, D, Pl, hcs, hb, hl, hm, hmm, hx, hi⟩
  · have h0 := h0.1
    simp at h0
    obtain ⟨rfl, rfl, rfl⟩ := h0
    exact ⟨[], rfl, SlAt.nil, by simp, by omega, by omega⟩
  · simp at hcs
    obtain ⟨rfl, rfl, rfl⟩ := hcs
    obtain ⟨L, h1, h2, h3⟩ := slAt_of (α := Int) (enc := encI) (k := 1) (w := w) (a := a') (len := len) (p := i64ok) (fun x => ⟨_, rfl⟩) (fun i hil => by
      have hle : len ≤ m := by rw [hmm]; split <;> omega
      obtain ⟨cs', hc, ht'⟩ := hi i (by omega)
      obtain ⟨k, e, _, wk⟩ := DataW.trod_int Tryz.underlying3 ht'
      subst e
      obtain ⟨_, hcl, hat⟩ := World.cells?_some hc
      have hk : Tryz.prog.cellsOf 3 = 1 := by kernel_rfl
      refine ⟨k, fun j u hu => ?_, i64_of_wf wk⟩
      match j, hu with
      | 0, hu =>
        simp [encI] at hu
        subst hu
        have h0 := hat 0 (by rw [hk]; omega)
        rw [hk] at h0
        rw [Go.Deep.add_add] at h0
        simpa using h0)
    exact ⟨L, h1, h2, h3, by have := hm; unfold maxLen at this; omega, hl⟩
end

theorem gTab : Tryz.prog.globalNamed "math/bits.deBruijn64tab" = some 0 := by kernel_rfl
theorem tTab : (Tryz.prog.globals[0]?).map (·.type) = some 173 := by kernel_rfl
def laidL : List (String × DataW Unit) := [("math/bits.deBruijn64tab", Rows.laid_math_bits_deBruijn64tab)]
theorem laid_list {H : Type} : (Rows.laid_math_bits_deBruijn64tab : DataW H) = .agg (Lib.deBruijn64tab.map fun (n : Nat) => DataW.lit (.int .u8 (n : Int))) := by kernel_rfl
theorem tab_len : Lib.deBruijn64tab.length = 64 := by decide
theorem tab_of_laid {W : World} (h : laidMetH Tryz.prog laidL W) : Tab W := by
  rw [MakeChecks.laidMetH_plain _ _ _ (by kernel_rfl)] at h
  obtain ⟨ps, ⟨g0, t0, cs0, f0, p0, q0, hg0, ht0, hv0, hd0, _⟩, _⟩ := h
  obtain rfl := Option.some.inj (gTab.symm.trans hg0)
  obtain rfl := Option.some.inj (tTab.symm.trans ht0)
  obtain ⟨xs, m1, rfl, hx1, hlen, hn3, hel⟩ := DataW.trod_array Tryz.underlying173 hd0
  rw [laid_list] at hx1
  simp only [Prod.mk.injEq, DataW.agg.injEq] at hx1
  have hc8 : Tryz.prog.cellsOf 5 = 1 := by kernel_rfl
  intro j hj
  have hj64 : j < 64 := by rw [tab_len] at hj; exact hj
  have hjx : j < xs.length := by omega
  have h0 := hel j hj64
  rw [List.getElem?_eq_getElem hjx] at h0
  obtain ⟨k, e1, e2, _⟩ := DataW.trod_int Tryz.underlying5 h0
  have hl := congrArg (fun l => l[j]?) hx1.1
  simp only [List.getElem?_map, List.getElem?_eq_getElem hjx, List.getElem?_eq_getElem hj, Option.map_some, e2, Option.some.injEq, DataW.lit.injEq, Lit.int.injEq, true_and] at hl
  rw [World.var?_cell hg0 hv0 j]
  rw [hc8, Nat.mul_one] at e1
  have e3 : (cs0.toList.drop j)[0]? = some (.int .u8 k) := by
    have := congrArg (fun l => l[0]?) e1
    simpa using this
  rw [List.getElem?_drop, Nat.add_zero, Array.getElem?_toList] at e3
  rw [e3, ← hl]
  simp [hj]
end Go.Proofs.YtjehhilijeajnaaGreatDoor
/- EDITS, plainly: when an edit is right, what it makes of the lists. No program in sight. Conditions: see each theorem. -/
namespace Go.Proofs.YtjehhilijeajnaaGreatDoor
open Go Go.RowKit

def erD (s : GS) (d : Ed) : Int := wrongR d.1 d.2.1 d.2.2.1 d.2.2.2.2 s.1 s.2
theorem wrongR_ok {op u v wt : Int} {V : List (Int × Thing)} {E : List ((Int × Int) × Thing)} (hop : op = 0 ∨ op = 1 ∨ op = 2 ∨ op = 3 ∨ op = 4 ∨ op = 5 ∨ op = 6 ∨ op = 7) (h2 : w2B op u v wt = false) (h3 : w3B op u v = false)
    (k0 : op = 0 → hasV u V = false) (k1 : op ≠ 0 → hasV u V = true) (k2 : op = 2 → hasV v V = true ∧ hasE u v E = false ∧ E.length < 1024) (k3 : op = 3 ∨ op = 6 ∨ op = 7 → hasE u v E = true) : wrongR op u v wt V E = 0 := by
  unfold wrongR
  have h1 : w1B op = false := by unfold w1B; simp; omega
  rw [h1, h2, h3, if_neg (by simp), if_neg (by simp), if_neg (by simp)]
  generalize hasV u V = iu at *
  generalize hasV v V = iv at *
  generalize hasE u v E = ie at *
  generalize E.length = n at *
  rcases hop with rfl | rfl | rfl | rfl | rfl | rfl | rfl | rfl <;> simp [pairsB] at k0 k1 k2 k3 ⊢ <;> simp_all
theorem hasV_iff {u : Int} {V : List (Int × Thing)} : hasV u V = true ↔ u ∈ V.map (·.1) := by
  rw [hasV_look, lookM_isSome, List.mem_map]
theorem hasE_iff {u v : Int} {E : List ((Int × Int) × Thing)} (hlo : ∀ e ∈ E, e.1.1 < e.1.2) : hasE u v E = true ↔ (min u v, max u v) ∈ E.map (·.1) := by
  rw [hasE_look hlo, lookM_isSome, List.mem_map]
theorem refV_same {op u lab wt : Int} {V : List (Int × Thing)} (h0 : op ≠ 0) (h1 : op ≠ 1) (h4 : op ≠ 4) (h5 : op ≠ 5) : refV op u lab wt V = V := by
  unfold refV
  rw [if_neg h0]
  split
  · rfl
  · rw [flat_map (g := id) (fun x _ => by simp [fV, h1, h4, h5])]
    simp
theorem refE_same {op u v lab wt : Int} {E : List ((Int × Int) × Thing)} (h1 : op ≠ 1) (h2 : op ≠ 2) (h3 : op ≠ 3) (h6 : op ≠ 6) (h7 : op ≠ 7) : refE op u v lab wt E = E := by
  unfold refE
  split
  · rfl
  · first
      | rw [if_neg h2, flat_zip (g := fun x => [x]) (fun x i _ => by simp [fE, h1, h3, h6, h7])]
      | rw [flat_zip (g := fun x => [x]) (fun x i _ => by simp [fE, h1, h3, h6, h7])]
    simp
theorem refV_1 {u lab wt : Int} {V : List (Int × Thing)} : refV 1 u lab wt V = V.filter fun p => decide (p.1 ≠ u) := by
  simp only [refV, Int.reduceEq, if_false]
  exact flat_filter (fun x _ => by by_cases hh : x.1 = u <;> simp [fV, hh])
theorem refV_4 {u lab wt : Int} {V : List (Int × Thing)} : refV 4 u lab wt V = V.map fun p => if p.1 = u then (p.1, (lab, p.2.2)) else p := by
  simp only [refV, Int.reduceEq, if_false]
  exact flat_map (fun x _ => by by_cases hh : x.1 = u <;> simp [fV, hh])
theorem refV_5 {u lab wt : Int} {V : List (Int × Thing)} : refV 5 u lab wt V = V.map fun p => if p.1 = u then (p.1, (p.2.1, wt)) else p := by
  simp only [refV, Int.reduceEq, if_false]
  exact flat_map (fun x _ => by by_cases hh : x.1 = u <;> simp [fV, hh])
theorem refE_1 {u v lab wt : Int} {E : List ((Int × Int) × Thing)} : refE 1 u v lab wt E = E.filter fun q => !atB u q.1 := by
  simp only [refE, Int.reduceEq, if_false]
  rw [flat_zip (g := fun x => if (!atB u x.1) = true then [x] else []) (fun x i _ => by
    by_cases h1 : x.1.1 = u <;> by_cases h2 : x.1.2 = u <;> simp [fE, atB, h1, h2]), flat_filter (fun x _ => rfl)]
section
variable {u v lab wt : Int} {E : List ((Int × Int) × Thing)} (hlo : ∀ e ∈ E, e.1.1 < e.1.2) (hn : (E.map (·.1)).Nodup)
include hlo hn
theorem refE_3 : refE 3 u v lab wt E = E.filter fun q => decide (q.1 ≠ (min u v, max u v)) := by
  simp only [refE, Int.reduceEq, if_false]
  rw [flat_zip (g := fun x => if (decide (x.1 ≠ (min u v, max u v))) = true then [x] else []) (fun x i hx => by
    have hp := pos_iff (u := u) (v := v) hlo hn hx
    rw [show posD 3 u v E = posI (isE u v) E from by simp [posD, pairsB]]
    by_cases hh : x.1 = (min u v, max u v)
    · simp [fE, hp.2 hh, hh]
    · have : ¬ ((i : Int) = posI (isE u v) E) := fun e => hh (hp.1 e)
      simp [fE, hh, this]), flat_filter (fun x _ => rfl)]
theorem refE_6 : refE 6 u v lab wt E = E.map fun q => if q.1 = (min u v, max u v) then (q.1, (lab, q.2.2)) else q := by
  simp only [refE, Int.reduceEq, if_false]
  rw [flat_zip (g := fun q => [if q.1 = (min u v, max u v) then (q.1, (lab, q.2.2)) else q]) (fun x i hx => by
    have hp := pos_iff (u := u) (v := v) hlo hn hx
    rw [show posD 6 u v E = posI (isE u v) E from by simp [posD, pairsB]]
    by_cases hh : x.1 = (min u v, max u v)
    · simp only [fE, Int.reduceEq, false_and, hp.2 hh, and_self, if_true, if_false, hh]
    · have : ¬ ((i : Int) = posI (isE u v) E) := fun e => hh (hp.1 e)
      simp [fE, hh, this]), flat_map (fun x _ => rfl)]
theorem refE_7 : refE 7 u v lab wt E = E.map fun q => if q.1 = (min u v, max u v) then (q.1, (q.2.1, wt)) else q := by
  simp only [refE, Int.reduceEq, if_false]
  rw [flat_zip (g := fun q => [if q.1 = (min u v, max u v) then (q.1, (q.2.1, wt)) else q]) (fun x i hx => by
    have hp := pos_iff (u := u) (v := v) hlo hn hx
    rw [show posD 7 u v E = posI (isE u v) E from by simp [posD, pairsB]]
    by_cases hh : x.1 = (min u v, max u v)
    · simp only [fE, Int.reduceEq, false_and, hp.2 hh, and_self, if_true, if_false, hh]
    · have : ¬ ((i : Int) = posI (isE u v) E) := fun e => hh (hp.1 e)
      simp [fE, hh, this]), flat_map (fun x _ => rfl)]
end
theorem eqV_of {A B : List (Int × Thing)} (hp : A.Perm B) (ha : A.Pairwise ltV) (hb : B.Pairwise ltV) : A = B := hp.eq_of_pairwise (fun a b _ _ h h' => by unfold ltV at h h'; omega) ha hb
theorem eqE_of {A B : List ((Int × Int) × Thing)} (hp : A.Perm B) (ha : A.Pairwise ltE) (hb : B.Pairwise ltE) : A = B := hp.eq_of_pairwise (fun a b _ _ h h' => by unfold ltE at h h'; omega) ha hb
theorem stD_ok {op u v lab wt : Int} {V : List (Int × Thing)} {E : List ((Int × Int) × Thing)} (h : wrongR op u v wt V E = 0) : stD (V, E) (op, (u, (v, (lab, wt)))) = (refV op u lab wt V, refE op u v lab wt E) := by
  unfold stD nxV nxE
  simp only [h, if_true]
end Go.Proofs.YtjehhilijeajnaaGreatDoor
/- ELIMINATION, plain: an edge or a vertex taken out; edges added. No program in sight. Conditions: see each theorem. -/
namespace Go.Proofs.YtjehhilijeajnaaGreatDoor
open Go

section
variable {V : List (Int × Thing)} {E : List ((Int × Int) × Thing)} {L : List Int}
theorem adj0_sub {E' : List ((Int × Int) × Thing)} (h : ∀ e ∈ E', e ∈ E) (u v : Int) (ha : Adj0 E' u v) : Adj0 E u v := by
  obtain ⟨e, he, h1⟩ := ha
  exact ⟨e, h e he, h1⟩
/-- an edge taken out -/
theorem out_edge (hi : GInv V E) {e : (Int × Int) × Thing} (he : e ∈ E) : wrongR 3 e.1.1 e.1.2 0 V E = 0 ∧ nxV 3 e.1.1 e.1.2 0 0 V E = V ∧ ∀ f ∈ nxE 3 e.1.1 e.1.2 0 0 V E, f ∈ E := by
  have hlt := hi.lo e he
  obtain ⟨⟨t1, h1⟩, t2, h2⟩ := hi.ends e he
  have hw : wrongR 3 e.1.1 e.1.2 0 V E = 0 := by
    refine wrongR_ok (by omega) ?_ ?_ (by omega) (fun _ => hasV_iff.2 (List.mem_map.2 ⟨_, h1, rfl⟩)) (by omega) (fun _ => (hasE_iff hi.lo).2 (List.mem_map.2 ⟨e, he, ?_⟩))
    · have a := hi.ids _ h1
      have b := hi.ids _ h2
      simp [w2B, idB, heavyB] at a b ⊢
      omega
    · simp [w3B, pairsB]; try omega
    · rw [Prod.ext_iff]
      exact ⟨by simp only; omega, by simp only; omega⟩
  refine ⟨hw, ?_, ?_⟩
  · unfold nxV
    rw [if_pos hw, refV_same (by omega) (by omega) (by omega) (by omega)]
  · unfold nxE
    rw [if_pos hw, refE_3 hi.lo (se_nodup hi.se)]
    intro f hf
    exact (List.mem_filter.1 hf).1
/-- a vertex taken out -/
theorem out_vertex (hi : GInv V E) {x : Int} (hx : x ∈ V.map (·.1)) : wrongR 1 x 0 0 V E = 0 ∧ nxV 1 x 0 0 0 V E = V.filter (fun p => decide (p.1 ≠ x)) ∧ ∀ f ∈ nxE 1 x 0 0 0 V E, f ∈ E := by
  obtain ⟨p, hp, rfl⟩ := List.mem_map.1 hx
  have hw : wrongR 1 p.1 0 0 V E = 0 := by
    refine wrongR_ok (by omega) ?_ ?_ (by omega) (fun _ => hasV_iff.2 hx) (by omega) (by omega)
    · have a := hi.ids _ hp
      simp [w2B, idB, heavyB] at a ⊢
      omega
    · simp [w3B, pairsB]
  refine ⟨hw, ?_, ?_⟩
  · unfold nxV
    rw [if_pos hw, refV_1]
  · unfold nxE
    rw [if_pos hw, refE_1]
    intro f hf
    exact (List.mem_filter.1 hf).1
theorem mem_era {k : Nat} (hn : L.Nodup) (hk : k < L.length) {x : Int} : x ∈ L.eraseIdx k ↔ x ∈ L ∧ x ≠ L[k] := by
  rw [List.eraseIdx_eq_take_drop_succ, List.mem_append]
  have h0 : L = L.take k ++ L[k] :: L.drop (k + 1) := by rw [← List.drop_eq_getElem_cons hk, List.take_append_drop]
  have h1 : x ∈ L ↔ x ∈ L.take k ∨ x = L[k] ∨ x ∈ L.drop (k + 1) := by
    conv => lhs; rw [h0]
    rw [List.mem_append, List.mem_cons]
  have h2 : L[k] ∉ L.take k := fun h => by
    obtain ⟨i, hi, e⟩ := List.getElem_of_mem h
    rw [List.getElem_take] at e
    have := (List.getElem_inj hn).1 e
    rw [List.length_take] at hi
    omega
  have h3 : L[k] ∉ L.drop (k + 1) := not_drop hn hk
  rw [h1]
  constructor
  · rintro (h | h)
    · exact ⟨.inl h, fun e => h2 (e ▸ h)⟩
    · exact ⟨.inr (.inr h), fun e => h3 (e ▸ h)⟩
  · rintro ⟨h | h | h, hne⟩
    · exact .inl h
    · exact absurd h hne
    · exact .inr h
theorem ord_out (ho : Ord V L) {k : Nat} (hk : k < L.length) : Ord (V.filter fun p => decide (p.1 ≠ L[k])) (L.eraseIdx k) where
  nodup := (List.eraseIdx_sublist L k).nodup ho.nodup
  mem := fun x => by
    rw [mem_era ho.nodup hk, ho.mem, List.mem_map, List.mem_map]
    constructor
    · rintro ⟨⟨p, hp, rfl⟩, hne⟩
      exact ⟨p, List.mem_filter.2 ⟨hp, by simpa using hne⟩, rfl⟩
    · rintro ⟨p, hp, rfl⟩
      have := List.mem_filter.1 hp
      exact ⟨⟨p, this.1, rfl⟩, by simpa using this.2⟩
end
end Go.Proofs.YtjehhilijeajnaaGreatDoor
/- ELIMINATION, plain: the filled graph as edges added one by one. No program in sight. Conditions: see each theorem. -/
namespace Go.Proofs.YtjehhilijeajnaaGreatDoor
open Go

theorem mem_refE2 {u v lab wt : Int} {E : List ((Int × Int) × Thing)} {e : (Int × Int) × Thing} : e ∈ refE 2 u v lab wt E ↔ e ∈ E ∨ e = ((min u v, max u v), (lab, wt)) := by
  simp only [refE, Int.reduceEq, if_false, if_true]
  rw [insF_eq]
  exact (insP_perm _ _ _).mem_iff.trans (by simp)
theorem add_adj : ∀ (C : List ((Int × Int) × Thing)) (V : List (Int × Thing)) (E : List ((Int × Int) × Thing)), GInv V E → (∀ c ∈ C, c.1.1 < c.1.2) → fe erE stE C (V, E) = 0 →
    (C.foldl stE (V, E)).1 = V ∧ GInv V (C.foldl stE (V, E)).2 ∧ ∀ u v, Adj0 (C.foldl stE (V, E)).2 u v ↔ Adj0 E u v ∨ ∃ c ∈ C, c.1 = (min u v, max u v)
  | [], V, E, hi, _, _ => ⟨rfl, hi, fun u v => by simp⟩
  | x :: C, V, E, hi, hc, h0 => by
    rw [fe] at h0
    by_cases hx : erE (V, E) x = 0
    · rw [if_pos hx] at h0
      have hw : wrongR 2 x.1.1 x.1.2 x.2.2 V E = 0 := hx
      have hst : stE (V, E) x = (V, refE 2 x.1.1 x.1.2 x.2.1 x.2.2 E) := by
        unfold stE nxV nxE
        simp only [hw, if_true]
        rw [refV_same (by omega) (by omega) (by omega) (by omega)]
      have hi2 : GInv V (refE 2 x.1.1 x.1.2 x.2.1 x.2.2 E) := by
        have := hi.step (lab := x.2.1) hw
        rwa [refV_same (by omega) (by omega) (by omega) (by omega)] at this
      rw [hst] at h0
      obtain ⟨h1, h2, h3⟩ := add_adj C V _ hi2 (fun c h => hc c (by simp [h])) h0
      rw [List.foldl_cons, hst]
      refine ⟨h1, h2, fun u v => ?_⟩
      rw [h3]
      have hlt := hc x (by simp)
      have hm : (min x.1.1 x.1.2, max x.1.1 x.1.2) = x.1 := by
        rw [Prod.ext_iff]
        exact ⟨by simp only; omega, by simp only; omega⟩
      constructor
      · rintro (⟨e, he, h4⟩ | ⟨c, hc, h4⟩)
        · rcases mem_refE2.1 he with h5 | h5
          · exact .inl ⟨e, h5, h4⟩
          · rw [h5] at h4
            exact .inr ⟨x, by simp, hm.symm.trans h4⟩
        · exact .inr ⟨c, by simp [hc], h4⟩
      · rintro (⟨e, he, h4⟩ | ⟨c, hc, h4⟩)
        · exact .inl ⟨e, mem_refE2.2 (.inl he), h4⟩
        · rcases List.mem_cons.1 hc with rfl | hc
          · exact .inl ⟨_, mem_refE2.2 (.inr rfl), hm.trans h4⟩
          · exact .inr ⟨c, hc, h4⟩
    · rw [if_neg hx] at h0
      exact absurd h0 hx
section
variable {V : List (Int × Thing)} {E : List ((Int × Int) × Thing)} {L : List Int}
/-- the edges that come in, in order -/
def comeE (E : List ((Int × Int) × Thing)) (L : List Int) : List ((Int × Int) × Thing) := (fillS (comeK E L L.length)).map edgeP
theorem comeE_lt (hi : GInv V E) (ho : Ord V L) : ∀ c ∈ comeE E L, c.1.1 < c.1.2 := by
  intro c hc
  obtain ⟨p, hp, rfl⟩ := List.mem_map.1 hc
  exact ((mem_comeK hi ho (Nat.le_refl _)).1 ((fillS_perm _).mem_iff.1 hp)).1
theorem filled_adj (hi : GInv V E) (ho : Ord V L) (h0 : addErr V E (comeE E L) = 0) : (addS V E (comeE E L)).1 = V ∧ GInv V (addS V E (comeE E L)).2 ∧ ∀ u v, Adj0 (addS V E (comeE E L)).2 u v ↔ Adj E L L.length u v := by
  obtain ⟨h1, h2, h3⟩ := add_adj (comeE E L) V E hi (comeE_lt hi ho) h0
  refine ⟨h1, h2, fun u v => (h3 u v).trans ?_⟩
  constructor
  · rintro (h | ⟨c, hc, h⟩)
    · exact Adj.mono (k := 0) h (Nat.zero_le _)
    · obtain ⟨p, hp, rfl⟩ := List.mem_map.1 hc
      have h4 := ((mem_comeK hi ho (Nat.le_refl _)).1 ((fillS_perm _).mem_iff.1 hp)).2.1
      have h : p = (min u v, max u v) := h
      rw [h] at h4
      rcases Int.le_total u v with h5 | h5
      · rwa [show min u v = u by omega, show max u v = v by omega] at h4
      · rw [show min u v = v by omega, show max u v = u by omega] at h4
        exact h4.symm
  · intro h
    by_cases h0 : Adj0 E u v
    · exact .inl h0
    · refine .inr ⟨edgeP (min u v, max u v), List.mem_map.2 ⟨_, (fillS_perm _).mem_iff.2 ((mem_comeK hi ho (Nat.le_refl _)).2 ?_), rfl⟩, rfl⟩
      have hne := Adj.ne hi h
      refine ⟨by simp only; omega, ?_, ?_⟩
      · rcases Int.le_total u v with h5 | h5
        · simp only; rwa [show min u v = u by omega, show max u v = v by omega]
        · simp only; rw [show min u v = v by omega, show max u v = u by omega]; exact h.symm
      · simp only
        rcases Int.le_total u v with h5 | h5
        · rwa [show min u v = u by omega, show max u v = v by omega]
        · rw [show min u v = v by omega, show max u v = u by omega]
          exact fun h6 => h0 (Adj.symm (k := 0) (E := E) (L := L) h6)
/-- what the reference makes: the graph, or nothing -/
def filledR (V : List (Int × Thing)) (E C : List ((Int × Int) × Thing)) : GS := if addErr V E C = 0 then addS V E C else ([], [])
end
end Go.Proofs.YtjehhilijeajnaaGreatDoor
/- ELIMINATION, plain: the filled graph of a graph made by 60 edits has few edges. No program in sight. Conditions: see each theorem. -/
namespace Go.Proofs.YtjehhilijeajnaaGreatDoor
open Go

theorem refV_len1 {op u lab wt : Int} {V : List (Int × Thing)} : (refV op u lab wt V).length ≤ V.length + (if op = 0 then 1 else 0) := by
  unfold refV
  by_cases h0 : op = 0
  · rw [if_pos h0, if_pos h0, insF_eq, (insP_perm _ _ _).length_eq]
    simp
  · rw [if_neg h0, if_neg h0]
    split
    · exact Nat.le_refl _
    · have := (flat_sub (g := (·.1)) (fV_sub op u lab wt) V).length_le
      simpa using this
theorem refE_len1 {op u v lab wt : Int} {E : List ((Int × Int) × Thing)} : (refE op u v lab wt E).length ≤ E.length + (if op = 2 then 1 else 0) := by
  unfold refE
  by_cases h0 : op = 0
  · rw [if_pos h0]; omega
  · rw [if_neg h0]
    by_cases h2 : op = 2
    · rw [if_pos h2, if_pos h2, insF_eq, (insP_perm _ _ _).length_eq]
      simp
    · rw [if_neg h2, if_neg h2]
      have := (flatE_sub op u lab wt (posD op u v E) E).length_le
      simpa using this
theorem stD_len1 (s : GS) (d : Ed) : (stD s d).1.length + (stD s d).2.length ≤ s.1.length + s.2.length + 1 := by
  unfold stD nxV nxE
  simp only
  have h1 := refV_len1 (op := d.1) (u := d.2.1) (lab := d.2.2.2.1) (wt := d.2.2.2.2) (V := s.1)
  have h2 := refE_len1 (op := d.1) (u := d.2.1) (v := d.2.2.1) (lab := d.2.2.2.1) (wt := d.2.2.2.2) (E := s.2)
  split
  · split at h1 <;> split at h2 <;> omega
  · omega
theorem foldD_len : ∀ (l : List Ed) (s : GS), (l.foldl stD s).1.length + (l.foldl stD s).2.length ≤ s.1.length + s.2.length + l.length
  | [], s => Nat.le_refl _
  | d :: l, s => by
    have h1 := stD_len1 s d
    have h2 := foldD_len l (stD s d)
    rw [List.foldl_cons, List.length_cons]
    omega
theorem mdS_few (L : List Ed) : (mdS L).1.length + (mdS L).2.length ≤ 60 := by
  unfold mdS
  have h1 := foldD_len (L.take 60) ([], [])
  have h2 : (L.take 60).length ≤ 60 := by rw [List.length_take]; omega
  simp only [List.length_nil] at h1
  omega

theorem len_le_gen {α : Type} [DecidableEq α] : ∀ (l m : List α), l.Nodup → (∀ x ∈ l, x ∈ m) → l.length ≤ m.length
  | [], _, _, _ => Nat.zero_le _
  | a :: r, m, hn, hs => by
    have ha : a ∈ m := hs a (by simp)
    obtain ⟨hna, hnr⟩ := List.nodup_cons.1 hn
    have h1 := len_le_gen r (m.erase a) hnr (fun x hx => (List.mem_erase_of_ne (fun e => hna (by rw [← e]; exact hx))).2 (hs x (by simp [hx])))
    have h2 := (List.perm_cons_erase ha).length_eq
    simp only [List.length_cons] at h2 ⊢
    omega
theorem prod_len (T : List Int) : ∀ S : List Int, (S.flatMap fun u => T.map fun v => (u, v)).length = S.length * T.length
  | [] => by simp
  | a :: S => by
    rw [List.flatMap_cons, List.length_append, prod_len T S, List.length_map, List.length_cons, Nat.add_mul, Nat.one_mul, Nat.add_comm]
theorem pairs_few (S : List Int) (K : List (Int × Int)) (hn : K.Nodup) (h : ∀ p ∈ K, p.1 < p.2 ∧ p.1 ∈ S ∧ p.2 ∈ S) : 2 * K.length ≤ S.length * S.length := by
  have h1 : (K ++ K.map fun p => (p.2, p.1)).Nodup := by
    refine List.nodup_append.2 ⟨hn, ?_, ?_⟩
    · rw [List.nodup_iff_pairwise_ne, List.pairwise_map]
      exact (List.nodup_iff_pairwise_ne.1 hn).imp fun {a b} hab e => hab (by
        rw [Prod.mk.injEq] at e
        exact Prod.ext e.2 e.1)
    · intro a ha b hb e
      obtain ⟨p, hp, rfl⟩ := List.mem_map.1 hb
      have h1 := (h a ha).1
      have h2 := (h p hp).1
      rw [e] at h1
      simp only at h1
      omega
  have h2 := len_le_gen _ (S.flatMap fun u => S.map fun v => (u, v)) h1 (by
    intro p hp
    rw [List.mem_flatMap]
    rcases List.mem_append.1 hp with hp | hp
    · exact ⟨p.1, (h p hp).2.1, List.mem_map.2 ⟨p.2, (h p hp).2.2, rfl⟩⟩
    · obtain ⟨q, hq, rfl⟩ := List.mem_map.1 hp
      exact ⟨q.2, (h q hq).2.2, List.mem_map.2 ⟨q.1, (h q hq).2.1, rfl⟩⟩)
  rw [prod_len, List.length_append, List.length_map] at h2
  omega

section
variable {V : List (Int × Thing)} {E : List ((Int × Int) × Thing)} {L : List Int}
/-- the vertices at which an edge ends -/
def actV (V : List (Int × Thing)) (E : List ((Int × Int) × Thing)) : List Int := (V.map (·.1)).filter fun x => E.any fun e => e.1.1 == x || e.1.2 == x
theorem mem_actV {x : Int} : x ∈ actV V E ↔ x ∈ V.map (·.1) ∧ ∃ e ∈ E, e.1.1 = x ∨ e.1.2 = x := by
  unfold actV
  rw [List.mem_filter, List.any_eq_true]
  simp
theorem actV_nodup (hi : GInv V E) : (actV V E).Nodup := (sv_nodup hi.sv).filter _
theorem actV_len (hi : GInv V E) : (actV V E).length ≤ V.length ∧ (actV V E).length ≤ 2 * E.length := by
  refine ⟨Nat.le_trans (List.length_filter_le _ _) (by simp), ?_⟩
  have := len_le_of_sub (actV V E) (E.map (·.1.1) ++ E.map (·.1.2)) (actV_nodup hi) fun x hx => by
    obtain ⟨_, e, he, h⟩ := mem_actV.1 hx
    rw [List.mem_append, List.mem_map, List.mem_map]
    rcases h with h | h
    · exact .inl ⟨e, he, h⟩
    · exact .inr ⟨e, he, h⟩
  rw [List.length_append, List.length_map, List.length_map] at this
  omega
theorem adj_act (hi : GInv V E) (ho : Ord V L) : ∀ {k : Nat} {u v : Int}, Adj E L k u v → u ∈ actV V E ∧ v ∈ actV V E
  | 0, u, v, h => by
    obtain ⟨h1, h2⟩ := Adj.mem hi ho (k := 0) h
    obtain ⟨e, he, h3⟩ := h
    have h4 : e.1.1 = min u v ∧ e.1.2 = max u v := by rw [h3]; exact ⟨rfl, rfl⟩
    refine ⟨mem_actV.2 ⟨(ho.mem _).1 h1, e, he, by omega⟩, mem_actV.2 ⟨(ho.mem _).1 h2, e, he, by omega⟩⟩
  | k + 1, u, v, h => by
    rcases h with h | ⟨_, _, _, h5, h6⟩
    · exact adj_act hi ho h
    · exact ⟨(adj_act hi ho h5).2, (adj_act hi ho h6).2⟩
theorem filled_few (hi : GInv V E) (ho : Ord V L) (hs : V.length + E.length ≤ 60) : E.length + (comeE E L).length ≤ 1024 ∧ ((comeE E L).map (·.1)).Nodup ∧ ∀ c ∈ comeE E L, c.1.1 < c.1.2 ∧ c.2 = (0, 0) ∧ c.1.1 ∈ V.map (·.1) ∧ c.1.2 ∈ V.map (·.1) ∧ c.1 ∉ E.map (·.1) := by
  have hmap : (comeE E L).map (·.1) = fillS (comeK E L L.length) := by
    unfold comeE
    rw [List.map_map]
    exact (List.map_congr_left fun p _ => rfl).trans (List.map_id _)
  have hC : ((comeE E L).map (·.1)).Nodup := by
    rw [hmap]
    exact (fillS_perm _).nodup_iff.2 (comeK_nodup hi ho (Nat.le_refl _))
  have hm : ∀ p ∈ (comeE E L).map (·.1), p.1 < p.2 ∧ Adj E L L.length p.1 p.2 ∧ ¬ Adj0 E p.1 p.2 := fun p hp => by
    rw [hmap] at hp
    exact (mem_comeK hi ho (Nat.le_refl _)).1 ((fillS_perm _).mem_iff.1 hp)
  have hout : ∀ p ∈ (comeE E L).map (·.1), p ∉ E.map (·.1) := fun p hp h => by
    obtain ⟨h1, _, h2⟩ := hm p hp
    obtain ⟨e, he, h3⟩ := List.mem_map.1 h
    exact h2 ⟨e, he, by rw [h3]; exact Prod.ext (by simp only; omega) (by simp only; omega)⟩
  have hin : ∀ p ∈ E.map (·.1), p.1 < p.2 ∧ Adj E L L.length p.1 p.2 := fun p hp => by
    obtain ⟨e, he, rfl⟩ := List.mem_map.1 hp
    have h1 := hi.lo e he
    exact ⟨h1, Adj.mono (k := 0) ⟨e, he, Prod.ext (by simp only; omega) (by simp only; omega)⟩ (Nat.zero_le _)⟩
  have hk := pairs_few (actV V E) (E.map (·.1) ++ (comeE E L).map (·.1)) (List.nodup_append.2 ⟨se_nodup hi.se, hC, fun a ha b hb e => hout b hb (e ▸ ha)⟩) (by
    intro p hp
    rcases List.mem_append.1 hp with h | h
    · exact ⟨(hin p h).1, adj_act hi ho (hin p h).2⟩
    · exact ⟨(hm p h).1, adj_act hi ho (hm p h).2.1⟩)
  have ha := actV_len hi
  have h40 : (actV V E).length ≤ 40 := by omega
  have h1600 := Nat.mul_le_mul h40 h40
  rw [List.length_append, List.length_map, List.length_map] at hk
  refine ⟨by omega, hC, fun c hc => ?_⟩
  have hcm : c.1 ∈ (comeE E L).map (·.1) := List.mem_map.2 ⟨c, hc, rfl⟩
  obtain ⟨h1, h2, _⟩ := hm _ hcm
  obtain ⟨h3, h4⟩ := Adj.mem hi ho h2
  refine ⟨h1, ?_, (ho.mem _).1 h3, (ho.mem _).1 h4, hout _ hcm⟩
  unfold comeE at hc
  obtain ⟨p, _, rfl⟩ := List.mem_map.1 hc
  rfl
end

theorem add_zero : ∀ (C : List ((Int × Int) × Thing)) (V : List (Int × Thing)) (E : List ((Int × Int) × Thing)), GInv V E →
    (∀ c ∈ C, c.1.1 < c.1.2 ∧ c.2 = (0, 0) ∧ c.1.1 ∈ V.map (·.1) ∧ c.1.2 ∈ V.map (·.1) ∧ c.1 ∉ E.map (·.1)) → (C.map (·.1)).Nodup → E.length + C.length ≤ 1024 → fe erE stE C (V, E) = 0
  | [], V, E, _, _, _, _ => rfl
  | x :: C, V, E, hi, hc, hn, hl => by
    obtain ⟨h1, h2, h3, h4, h5⟩ := hc x (by simp)
    rw [List.length_cons] at hl
    have hr : ∀ y, y ∈ V.map (·.1) → idB y = true := fun y hy => by
      obtain ⟨p, hp, rfl⟩ := List.mem_map.1 hy
      exact hi.ids p hp
    have r3 := hr _ h3
    have r4 := hr _ h4
    have hm : (min x.1.1 x.1.2, max x.1.1 x.1.2) = x.1 := Prod.ext (by simp only; omega) (by simp only; omega)
    have hw : wrongR 2 x.1.1 x.1.2 x.2.2 V E = 0 := by
      refine wrongR_ok (by omega) ?_ ?_ (by omega) (fun _ => hasV_iff.2 h3) (fun _ => ⟨hasV_iff.2 h4, ?_, by omega⟩) (by omega)
      · rw [h2]
        simp [w2B, idB, heavyB, pairsB] at r3 r4 ⊢
        try omega
      · simp [w3B, pairsB]
        try omega
      · rw [Bool.eq_false_iff]
        intro h
        exact h5 (by have := (hasE_iff hi.lo).1 h; rwa [hm] at this)
    have hst : stE (V, E) x = (V, refE 2 x.1.1 x.1.2 x.2.1 x.2.2 E) := by
      unfold stE nxV nxE
      simp only [hw, if_true]
      rw [refV_same (by omega) (by omega) (by omega) (by omega)]
    have hi2 : GInv V (refE 2 x.1.1 x.1.2 x.2.1 x.2.2 E) := by
      have := hi.step (lab := x.2.1) hw
      rwa [refV_same (by omega) (by omega) (by omega) (by omega)] at this
    have hx : erE (V, E) x = 0 := hw
    rw [fe, if_pos hx, hst]
    rw [List.map_cons, List.nodup_cons] at hn
    have hlen := refE_len1 (op := 2) (u := x.1.1) (v := x.1.2) (lab := x.2.1) (wt := x.2.2) (E := E)
    rw [if_pos rfl] at hlen
    refine add_zero C V _ hi2 (fun c hcc => ?_) hn.2 (by omega)
    obtain ⟨g1, g2, g3, g4, g5⟩ := hc c (by simp [hcc])
    refine ⟨g1, g2, g3, g4, fun h => ?_⟩
    obtain ⟨e, he, h6⟩ := List.mem_map.1 h
    rcases mem_refE2.1 he with h7 | h7
    · exact g5 (List.mem_map.2 ⟨e, h7, h6⟩)
    · rw [h7] at h6
      exact hn.1 (List.mem_map.2 ⟨c, hcc, by rw [← h6]; exact hm⟩)
theorem comeF_few {V : List (Int × Thing)} {E : List ((Int × Int) × Thing)} {L : List Int} (hi : GInv V E) (ho : Ord V L) (hl : L.length ≤ 100) : (fillS (comeK E L L.length)).length ≤ 5000 := by
  have h1 := pairs_few L (fillS (comeK E L L.length)) ((fillS_perm _).nodup_iff.2 (comeK_nodup hi ho (Nat.le_refl _))) (fun p hp => by
    have h2 := (mem_comeK hi ho (Nat.le_refl _)).1 ((fillS_perm _).mem_iff.1 hp)
    exact ⟨h2.1, Adj.mem hi ho h2.2.1⟩)
  have h2 := Nat.mul_le_mul hl hl
  omega
/-- the filled graph of a small graph can be built -/
theorem filled_zero {V : List (Int × Thing)} {E : List ((Int × Int) × Thing)} {L : List Int} (hi : GInv V E) (ho : Ord V L) (hs : V.length + E.length ≤ 60) : addErr V E (comeE E L) = 0 := by
  obtain ⟨h1, h2, h3⟩ := filled_few hi ho hs
  exact add_zero _ _ _ hi h3 h2 h1
end Go.Proofs.YtjehhilijeajnaaGreatDoor
/- slices.Clone and slices.Reverse at elimination.Order; elimination.Order.Reversed; palmetteref21.Check. Conditions: see each theorem. -/
namespace Go.Proofs.YtjehhilijeajnaaGreatDoor
open Go Go.RowKit Go.Shelf Go.Sort
attribute [local go_sem] qUpon lUpon

theorem flatI (L : List Int) : L.flatMap encI = L.map (Value.int .i64) := by
  induction L with
  | nil => rfl
  | cons a r ih => rw [List.flatMap_cons, ih]; rfl

set_option maxRecDepth 100000 in
set_option maxHeartbeats 4000000 in
theorem cloneO_any (A : Option Addr) (L : List Int) (cL : Nat) (w : World) (hL : SlAt encI 1 w A L) (hl : L.length ≤ 100) :
    Calls Tryz.prog 71 #[.slice A L.length cL] w fun e w' => ∃ A' c', e = .returned (.slice A' L.length c') ∧ w'.ownsRow w.heap.size 3 1 (.slice A' L.length c') L.length (L.flatMap encI) ∧ Ext w w' := by
  have q := fun (w : World) (a : Option Addr) (n c n' c' : Nat) => Lib.run_eql_slice_nil (P := Tryz.prog) w 30 3 a n c n' c' Tryz.underlying30
  cases A with
  | none =>
    have h0 : L = [] := by
      cases L with
      | nil => rfl
      | cons a r =>
        obtain ⟨b, off, e, _⟩ := hL.at_ (i := 0) (by simp)
        cases e
    subst h0
    have hself := Ext.refl w
    go_enter Tryz.func71, Tryz.ntmps71
    go_wp2_with fail
    go_ret
    exact ⟨none, 0, rfl, World.ownsRow_nil _ _ _ _, hself⟩
  | some a =>
    have hL' := hide hL
    clear hL
    go_enter Tryz.func71, Tryz.ntmps71
    try dsimp only
    repeat ((fail_if_success (with_reducible refine wp_reg (id := 3) ?_)); (first | go_values | go_skip | go_step | go_guarded | go_upon | go_in | go_back | fail))
    with_reducible refine wp_reg (id := 3) ?_
    refine wpO_want rfl ?_
    go_simp
    have hown := hide (World.ownsRow_made (base := w.heap.size) (e := 3) (size := 1) w #[] 0 (Nat.le_refl _) (by decide) rfl)
    have hx1 := hide (ext_self1 w (.cells #[] 3))
    refine wpO_want rfl ?_
    go_simp
    refine wpO_apA (enc := encI) rfl infoI Tryz.underlying30 one_encI (fun _ => rfl) (by decide) (by decide) rfl (xs := []) L rfl rfl rfl ((unhide hL').ext (unhide hx1)) (unhide hown) (by omega) (Below.size (unhide hx1)) ?_
    intro A1 c1 w1 ho1 hg1 hat1
    have hx := hide ((unhide hx1).of_new (Keep.of_grown hg1) (fun z hz => Nat.le_of_eq (List.mem_singleton.1 hz).symm))
    have ho := hide ho1
    clear ho1 hg1 hat1
    try go_frame
    refine wpO_want rfl ?_
    go_simp
    refine wpO_done ?_
    try go_frame
    go_wp2_with fail
    go_ret
    have h := unhide ho
    rw [List.nil_append, Nat.zero_add] at h
    exact ⟨A1, c1, by first | rfl | (rw [Nat.zero_add]; rfl), h, unhide hx⟩

theorem holdsI {w : World} {base T n : Nat} {v : Value} {L : List Int} (h : w.ownsRow base T 1 v n (L.flatMap encI)) (hn : n = L.length) : (v = .slice none 0 0 ∧ L = []) ∨ ∃ b cap, v = .slice (some ⟨b, 0, none⟩) n cap ∧ base ≤ b ∧ Holds Go.Proofs.encI w b 0 L.toArray ∧
    ∀ w' q, w' = putRow Go.Proofs.encI (Sort.ahead w q) b 0 L.reverse.toArray → w'.ownsRow base T 1 v n (L.reverse.flatMap encI) ∧ Keep [b] w w' := by
  subst hn
  rcases h.2 with ⟨rfl, h0⟩ | ⟨b, cap, cur, rfl, hb, hg, hn, hcap, hcur, htake⟩
  · exact .inl ⟨rfl, List.eq_nil_of_length_eq_zero h0⟩
  · refine .inr ⟨b, cap, rfl, hb, ?_, ?_⟩
    · intro j hj
      have hj' : j < L.length := by simpa using hj
      refine ⟨?_, by simp [World.frozen?, hg]⟩
      have h2 : (cur.toList.take (L.length * 1))[j]? = (L.map (Value.int .i64))[j]? := by rw [htake, flatI]
      rw [List.getElem?_take_of_lt (by omega), Array.getElem?_toList] at h2
      simp only [World.cell?, hg, Nat.zero_add, Option.isSome_none, Bool.false_eq_true, if_false]
      rw [h2]
      simp [hj', Go.Proofs.encI]
    · rintro w' q rfl
      have hbl : b < w.heap.size := (Array.getElem?_eq_some_iff.1 hg).1
      have hheap : (putRow Go.Proofs.encI (Sort.ahead w q) b 0 L.reverse.toArray).heap[b]? = some (.cells (putCells Go.Proofs.encI 0 L.reverse.toArray cur) T (0, 0)) := by
        simp [putRow, mapBlock, Sort.ahead, Array.getElem?_modify, hg, onCells]
      refine ⟨⟨by rw [flatI]; simp, .inr ⟨b, cap, _, rfl, hb, hheap, hn, hcap, by simp [putCells, hcur], ?_⟩⟩, ⟨rfl, rfl, rfl, by simp [putRow, mapBlock, Sort.ahead], fun i hi hne => ?_⟩⟩
      · rw [flatI]
        apply List.ext_getElem?
        intro j
        by_cases hj : j < L.length
        · rw [List.getElem?_take_of_lt (by omega), Array.getElem?_toList]
          simp [putCells, hj, show j < cur.size by omega, Go.Proofs.encI]
        · rw [List.getElem?_take_eq_none (by omega), List.getElem?_eq_none (by simp; omega)]
      · have hib : i ≠ b := by simpa using hne
        simp [putRow, mapBlock, Sort.ahead, Array.getElem?_modify, Ne.symm hib]

set_option maxRecDepth 1000000 in
set_option maxHeartbeats 4000000 in
theorem rev_arr (blk cap : Nat) (d : Array Int) (w : World) (hH : Holds Go.Proofs.encI w blk 0 d) (hsz : d.size ≤ 1000000) :
    Calls Tryz.prog 72 #[.slice (some ⟨blk, 0, none⟩) d.size cap] w fun e w' => e = .returned (.tuple #[]) ∧ ∃ n, w' = putRow Go.Proofs.encI (Sort.ahead w n) blk 0 d.reverse := by
  have mixed : Tryz.prog.follows .mixedOrders = true := by kernel_rfl
  go_enter Tryz.func72, Tryz.ntmps72
  go_wp2
  go_loopg [2, 3] d.size (fun k s2 s3 wr => ∃ (i jn : Nat) (jz : Int) (dk : Array Int) (n : Nat), s2 = .int .i64 i ∧ s3 = .int .i64 jz ∧ ((i : Int) < jz → jz = jn ∧ jn < d.size) ∧ (¬ (i : Int) < jz → ¬ i < jn) ∧ jn - i ≤ k ∧
    dk.size = d.size ∧ wr = putRow Go.Proofs.encI (Sort.ahead w n) blk 0 dk ∧ reverseLoop i jn dk = reverseLoop 0 (d.size - 1) d)
  case atStart => exact ⟨0, d.size - 1, (d.size : Int) - 1, d, 0, rfl, rfl, fun h => ⟨by omega, by omega⟩, fun h => by omega, by omega, rfl, (putRow_self Go.Proofs.encI w blk 0 d hH).symm, rfl⟩
  case round =>
    obtain ⟨i, jn, jz, dk, n, rfl, rfl, h1, h2, hk, hds, hwr, heq⟩ := hrel
    by_cases hlt : (i : Int) < jz
    · obtain ⟨rfl, hjn⟩ := h1 hlt
      have hij : i < jn := by omega
      have hHk : Holds Go.Proofs.encI wr blk 0 dk := by rw [hwr]; exact holds_putRow Go.Proofs.encI _ blk 0 d dk (holds_ahead Go.Proofs.encI w n blk 0 d hH) hds
      obtain ⟨ci, fi⟩ := hHk i (by omega)
      obtain ⟨cj, fj⟩ := hHk jn (by omega)
      have A : Aside (wr = putRow Go.Proofs.encI (Sort.ahead w n) blk 0 dk) := hwr
      rw [Nat.zero_add] at ci fi cj fj
      clear hwr hHk hH h1 h2
      go_wp2_with fail
      go_region_o
      go_wp2
      go_roundg (jn - 1 - (i + 1))
      case measure => omega
      case rel =>
        rw [reverseLoop, if_pos hij] at heq
        exact ⟨i + 1, jn - 1, (jn : Int) - 1, swp dk i jn, n + 1, by simp, rfl, fun h => ⟨by omega, by omega⟩, fun h => by omega, Nat.le_refl _, by rw [size_swp]; exact hds,
          by
            have h := fun x y h1 h2 => swap_world Go.Proofs.encI (x := x) (y := y) (i := i) (j := jn) (by omega) (by omega) A.out h1 h2
            simp only [Nat.zero_add] at h
            exact h _ _ (by first | rfl | simp [Go.Proofs.encI, getElem!_pos, show jn < dk.size by omega]) (by first | rfl | simp [Go.Proofs.encI, getElem!_pos, show i < dk.size by omega]), heq⟩
    · have hnot := h2 hlt
      go_wp2
      go_end0
      refine ⟨rfl, n, ?_⟩
      rw [reverseLoop, if_neg hnot] at heq
      rw [← Lib.reverseLoop_reverse, ← heq]
set_option maxRecDepth 100000 in
set_option maxHeartbeats 4000000 in
theorem rev_none (cap : Nat) (w : World) : Calls Tryz.prog 72 #[.slice none 0 cap] w fun e w' => e = .returned (.tuple #[]) ∧ w' = w := by
  go_enter Tryz.func72, Tryz.ntmps72
  go_wp2
  go_loop [2, 3] (fun i j => i = .int .i64 0 ∧ j = .int .i64 (-1)) (fun _ _ => 0)
  case atStart => exact ⟨rfl, rfl⟩
  case round =>
    obtain ⟨rfl, rfl⟩ := hrel
    go_wp2
    go_end0
    exact ⟨rfl, rfl⟩

set_option maxRecDepth 100000 in
set_option maxHeartbeats 4000000 in
theorem reversed_any (A : Option Addr) (L : List Int) (cL : Nat) (w : World) (hL : SlAt encI 1 w A L) (hl : L.length ≤ 100) :
    Calls Tryz.prog 39 #[.slice A L.length cL] w (SlPost encI 1 w L.reverse) := by
  go_enter Tryz.func39, Tryz.ntmps39
  go_wp2_with fail
  refine (cloneO_any A L cL w hL hl).mono ?_
  rintro e w1 ⟨A1, c1, rfl, ho1, hx1⟩
  have hx1' := hide hx1
  clear hx1
  rcases holdsI ho1 rfl with ⟨hv, h0⟩ | ⟨b, cap, hv, hb, hH, hback⟩
  · injection hv with h1 h2 h3
    subst h1
    subst h0
    subst h3
    clear ho1 h2
    simp only [List.length_nil]
    go_wp2_with fail
    have hr := rev_none 0 w1
    refine hr.mono ?_
    rintro e w2 ⟨rfl, rfl⟩
    clear hr
    go_wp2_with fail
    go_ret
    exact SlPost.mk rfl SlAt.nil (unhide hx1')
  · injection hv with h1 h2 h3
    subst h1 h3
    have hH' := hide hH
    have hback' := hide hback
    have hb' := hide hb
    clear ho1 hH hback hb
    go_wp2_with fail
    have hr := rev_arr b c1 L.toArray w1 (unhide hH') (by simp; omega)
    have e1 : L.toArray.size = L.length := by simp
    rw [e1] at hr
    refine hr.mono ?_
    rintro e w2 ⟨rfl, n, hw2⟩
    obtain ⟨ho2, hk2⟩ := unhide hback' w2 n (by rw [hw2]; simp)
    have ho2' := hide ho2
    have hx2 := hide ((unhide hx1').of_new hk2 (by simp; exact unhide hb'))
    clear hr hw2 ho2 hk2 e1
    go_wp2_with fail
    go_ret
    exact SlPost.mk (by simp) (own_at (enc := encI) (own_n (unhide ho2') (by simp)) (fun _ => rfl)) (unhide hx2)

/-- the first k of an order are vertices, none twice -/
def ordB (V : List (Int × Thing)) (L : List Int) : Prop := ∀ i (hi : i < L.length), (0 ≤ posI (fun p => p.1 == L[i]) V) ∧ ∀ j (hj : j < i), L[j]'(Nat.lt_trans hj hi) ≠ L[i]
theorem ordB_ord {V : List (Int × Thing)} {L : List Int} (hl : L.length = V.length) (h : ordB V L) : Ord V L := by
  have hn : L.Nodup := by
    rw [List.nodup_iff_pairwise_ne, List.pairwise_iff_getElem]
    intro i j hi' hj hij
    exact (h j hj).2 i hij
  have hm : ∀ x ∈ L, x ∈ V.map (·.1) := fun x hx => by
    obtain ⟨i, hi', rfl⟩ := List.getElem_of_mem hx
    obtain ⟨p, hp, hp1⟩ := posI_nonneg.1 (h i hi').1
    exact List.mem_map.2 ⟨p, hp, by simpa using hp1⟩
  obtain ⟨_, h2⟩ := nodup_of_sub L (V.map (·.1)) hn hm (by rw [List.length_map]; omega)
  exact ⟨hn, fun x => ⟨hm x, h2 x⟩⟩
theorem ord_ordB {V : List (Int × Thing)} {L : List Int} (h : Ord V L) : ordB V L := fun i hi => by
  refine ⟨posI_nonneg.2 ?_, fun j hj e => ?_⟩
  · obtain ⟨p, hp, e⟩ := List.mem_map.1 ((h.mem _).1 (List.getElem_mem hi))
    exact ⟨p, hp, by simpa using e⟩
  · have := (List.getElem_inj h.nodup).1 e
    omega
/-- a fault found -/
theorem ckr_bad {V : List (Int × Thing)} {E : List ((Int × Int) × Thing)} {L : List Int} (hi : GInv V E) (h : ¬ ordB V L) : checkS L V = 3 := by
  unfold checkS
  rw [if_neg]
  intro h2
  refine h (ord_ordB (check_ord hi ?_))
  unfold checkS
  rw [if_pos h2]
theorem ckr_len {V : List (Int × Thing)} {L : List Int} (h : L.length ≠ V.length) : checkS L V = 3 := by
  unfold checkS
  rw [if_neg (fun h2 => h h2.1)]
theorem ckr_ok {V : List (Int × Thing)} {L : List Int} (hl : L.length = V.length) (h : ordB V L) : checkS L V = 0 := ord_check (ordB_ord hl h) hl

set_option maxRecDepth 100000 in
set_option maxHeartbeats 8000000 in
theorem ckref_any (A B : Option Addr) (V : List (Int × Thing)) (E : List ((Int × Int) × Thing)) (cA cB : Nat) (C : Option Addr) (L : List Int) (cL : Nat) (w : World) (hi : GInv V E) (hV : SlAt encV 3 w A V) (hL : SlAt encI 1 w C L) (hl : L.length ≤ 100) :
    Calls Tryz.prog 38 #[.agg #[.slice A V.length cA, .slice B E.length cB], .slice C L.length cL] w fun e w' => e = .returned (.int .i64 (checkS L V)) ∧ Ext w w' := by
  have hV' := hide hV
  have hL' := hide hL
  have hnV : V.length ≤ 4096 := Nat.le_trans hi.nv (by omega)
  have hi' := hide hi
  clear hV hL
  have hx1 := hide (ext_self1 w (.cells #[.slice A V.length cA, .slice B E.length cB] 28))
  have hB1 := hide (Blk.new w 28 #[.slice A V.length cA, .slice B E.length cB])
  have hV1 := hide ((unhide hV').ext (unhide hx1))
  have hL1 := hide ((unhide hL').ext (unhide hx1))
  clear hV' hL' hi
  by_cases hne : L.length = V.length
  · have e1 : ((L.length : Int) != (V.length : Int)) = false := by simp [hne]
    have hne' := hide hne
    clear hne
    go_enter Tryz.func38, Tryz.ntmps38
    go_wp2_with fail
    generalize w.alloc (.cells #[.slice A V.length cA, .slice B E.length cB] 28) = w1 at *
    generalize w.heap.size = gw at *
    go_loopw [5] (fun iv wr => ∃ k : Nat, k ≤ L.length ∧ iv = .int .i64 k ∧ (∀ i (hi : i < k) (hi' : i < L.length), (0 ≤ posI (fun p => p.1 == L[i]) V) ∧ ∀ j (hj : j < i), L[j]'(Nat.lt_trans hj hi') ≠ L[i]) ∧ Ext w1 wr) (fun iv _ => L.length - (intOf iv).toNat)
    case atStart => exact ⟨0, Nat.zero_le _, rfl, fun i hi => by omega, Ext.refl _⟩
    case round =>
      obtain ⟨k, hk, rfl, hok, hx⟩ := hrel
      have hx' := hide hx
      have hok' := hide hok
      clear hx hok
      by_cases hlt : k < L.length
      · obtain ⟨b, off, rfl, c0⟩ := atI ((unhide hL1).ext (unhide hx')) hlt
        have hat := hide (fun (j : Nat) (hj : j < L.length) => atI_at ((unhide hL1).ext (unhide hx')) hj)
        have q0 := ((unhide hB1).ext (unhide hx')).cells 0 (v := .slice A V.length cA) rfl
        have q1 := ((unhide hB1).ext (unhide hx')).cells 1 (v := .slice B E.length cB) rfl
        have hself := Ext.refl wr
        obtain ⟨x, hxe⟩ : ∃ x, x = L[k] := ⟨_, rfl⟩
        rw [← hxe] at c0
        have hxe' := hide hxe
        obtain ⟨p, hp⟩ : ∃ p, p = posI (fun p => p.1 == x) V := ⟨_, rfl⟩
        have hp' := hide hp
        clear hxe hp
        go_wp2_with fail
        refine wp_region_ext (P := Tryz.prog) [0,1,2,3,4,5,6] [] 0 #[true,true,true,true,true,true,true] (by kernel_rfl) (by kernel_rfl) rfl (by rfl) ?_
        iterate 5
          refine ql_want (v := ?_) rfl (by rfl) (fun W hW => ?_) ?_
          rotate_left
          · go_simp
            first | done | rfl
          go_frame
        refine ql_want (v := .int .i64 p) rfl (by rfl) (fun W hW => ?_) ?_
        · go_simp
          refine (find_any A B V cA E.length cB x W ((unhide hV1).ext ((unhide hx').trans hW)) hnV).mono ?_
          rw [← unhide hp']
          rintro _ _ ⟨h1, h2⟩
          exact ⟨_, h1, rfl, h2⟩
        go_frame
        iterate 1
          refine ql_want (v := ?_) rfl (by rfl) (fun W hW => ?_) ?_
          rotate_left
          · go_simp
            first | done | rfl
          go_frame
        refine wpQL_nil (fun w3 hx3 => ?_)
        refine wpX_done (by kernel_rfl) ?_
        try go_frame
        have hx3' := hide ((unhide hx').trans hx3)
        have hx3s := hide hx3
        clear q0 q1 c0 hself hx3
        by_cases hneg : p < 0
        · have hbad : ¬ ordB V L := fun h => by
            have := (h k hlt).1
            rw [← unhide hxe', ← unhide hp'] at this
            omega
          have hres := ckr_bad (unhide hi') hbad
          clear hbad
          go_wp2_with fail
          go_ret
          exact ⟨by rw [hres]; rfl, (unhide hx1).trans (unhide hx3')⟩
        · have hpos : 0 ≤ p := by omega
          go_wp2_with fail
          go_loopw [6] (fun jv wr => ∃ j : Nat, j ≤ k ∧ jv = .int .i64 j ∧ (∀ j' (h : j' < j) (hl : j' < L.length), L[j'] ≠ x) ∧ Ext w3 wr) (fun jv _ => k - (intOf jv).toNat)
          case atStart => exact ⟨0, Nat.zero_le _, rfl, fun j hj => by omega, Ext.refl _⟩
          case round =>
            obtain ⟨j, hj, rfl, hno, hy⟩ := hrel
            have hy' := hide hy
            have hno' := hide hno
            clear hy hno
            by_cases hjk : j < k
            · have hjl : j < L.length := by omega
              have c1 := fun W (hW : Ext wr W) => unhide hat j hjl W (((unhide hx3s).trans (unhide hy')).trans hW)
              have c2 := fun W (hW : Ext wr W) => unhide hat k hlt W (((unhide hx3s).trans (unhide hy')).trans hW)
              rw [← unhide hxe'] at c2
              obtain ⟨y, hye⟩ : ∃ y, y = L[j] := ⟨_, rfl⟩
              rw [← hye] at c1
              have hye' := hide hye
              have hself := Ext.refl wr
              clear hye
              go_wp2_with fail
              refine wp_region_ext (P := Tryz.prog) [0,1,2,3,4,5,6,7,8] [] 0 #[true,true,true,true,true,true,true,true,true] (by kernel_rfl) (by kernel_rfl) rfl (by rfl) ?_
              iterate 9
                refine ql_want (v := ?_) rfl (by rfl) (fun W hW => ?_) ?_
                rotate_left
                · go_simp
                  first | done | rfl
                go_frame
              refine wpQL_nil (fun w4 hx4 => ?_)
              refine wpX_done (by kernel_rfl) ?_
              try go_frame
              have hx4' := hide ((unhide hy').trans hx4)
              clear c1 c2 hself hx4
              by_cases heq : y = x
              · have e3 : (y == x) = true := by simpa using heq
                have hbad : ¬ ordB V L := fun h => (h k hlt).2 j hjk (by rw [← unhide hye', ← unhide hxe']; exact heq)
                have hres := ckr_bad (unhide hi') hbad
                clear heq hbad
                go_wp2_with fail
                go_ret
                exact ⟨by rw [hres]; rfl, ((unhide hx1).trans (unhide hx3')).trans (unhide hx4')⟩
              · have e3 : (y == x) = false := by simpa using heq
                have hnx : ∀ j' (h : j' < j + 1) (hl : j' < L.length), L[j'] ≠ x := fun j' h hl => by
                  rcases Nat.lt_or_ge j' j with h1 | h1
                  · exact unhide hno' j' h1 hl
                  · have : j' = j := by omega
                    subst this
                    rw [← unhide hye']
                    exact heq
                have hnx' := hide hnx
                clear heq hnx
                go_wp2_with fail
                go_roundw
                case rel => exact ⟨j + 1, by omega, by go_num, unhide hnx', unhide hx4'⟩
                case measure => simp [intOf]; omega
            · have hje : j = k := by omega
              subst hje
              have hok2 : ∀ i (hi : i < j + 1) (hi' : i < L.length), (0 ≤ posI (fun p => p.1 == L[i]) V) ∧ ∀ j' (hj : j' < i), L[j']'(Nat.lt_trans hj hi') ≠ L[i] := fun i h1 h2 => by
                rcases Nat.lt_or_ge i j with h3 | h3
                · exact unhide hok' i h3 h2
                · have : i = j := by omega
                  subst this
                  refine ⟨by rw [← unhide hxe', ← unhide hp']; exact hpos, fun j' hj' => ?_⟩
                  rw [← unhide hxe']
                  exact unhide hno' j' hj' _
              have hok2' := hide hok2
              clear hok2
              go_wp2_with fail
              go_roundw
              case rel => exact ⟨j + 1, by omega, by go_num, unhide hok2', (unhide hx3').trans (unhide hy')⟩
              case measure => simp [intOf]; omega
      · have hke : k = L.length := by omega
        have hres := ckr_ok (unhide hne') (L := L) (fun i hi => unhide hok' i (by omega) hi)
        have hself := Ext.refl wr
        clear hke
        go_wp2_with fail
        go_ret
        exact ⟨by rw [hres]; rfl, (unhide hx1).trans (unhide hx')⟩
  · have e1 : ((L.length : Int) != (V.length : Int)) = true := by simp; omega
    have hres := ckr_len hne
    clear hne
    go_enter Tryz.func38, Tryz.ntmps38
    go_wp2_with fail
    go_ret
    exact ⟨by rw [hres]; rfl, unhide hx1⟩
end Go.Proofs.YtjehhilijeajnaaGreatDoor
