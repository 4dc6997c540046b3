/- Parts of a proof, laid together. Each part says its own conditions. -/
import Derived.Test.YtoacpebmhbkmbaaGreatDoorC18
import Derived.Test.YtoacpebmhbkmbaaGreatDoorC29
import Derived.Test.YtoacpebmhbkmbaaGreatDoorC25
import Derived.Test.YtoacpebmhbkmbaaGreatDoorC20
import Derived.Test.YtoacpebmhbkmbaaGreatDoorC17
import Derived.Test.YtoacpebmhbkmbaaGreatDoorC26
import Derived.Test.YtoacpebmhbkmbaaGreatDoorC28
namespace Go.Proofs.YtoacpebmhbkmbaaGreatDoor
open Go Go.RowKit
attribute [local go_sem] qUpon lUpon
def belS (n : Int) : Nat := 2 ^ (min n.toNat 1024) - 1
theorem wdN_mod (N k i : Nat) : wdN (N % 2 ^ (64 * k)) i = if i < k then wdN N i else 0 := by
 apply Nat.eq_of_testBit_eq
 intro j
 rw [wdN_bit,Nat.testBit_mod_two_pow]
 by_cases h : i < k
 ·rw [if_pos h,wdN_bit,Bool.eq_iff_iff]
  simp only [Bool.and_eq_true,decide_eq_true_eq]
  constructor
  ·rintro ⟨a,_,b⟩; exact ⟨a,b⟩
  ·rintro ⟨a,b⟩; exact ⟨a,by omega,b⟩
 ·rw [if_neg h,Nat.zero_testBit,Bool.eq_iff_iff]
  simp only [Bool.and_eq_true,decide_eq_true_eq,Bool.false_eq_true,iff_false]
  omega
theorem setC_next (N k : Nat) : (setC (N % 2 ^ (64 * k))).setIfInBounds k (.int .u64 (wd N k)) = setC (N % 2 ^ (64 * (k + 1))) := by
 apply Array.ext_getElem?
 intro i
 by_cases hi : i < 16
 ·rw [setC_get _ hi]
  by_cases he : k = i
  ·subst he
   rw [Array.getElem?_setIfInBounds_self_of_lt (by rw [setC_size]; omega)]
   unfold wd
   rw [wdN_mod,if_pos (by omega)]
  ·rw [Array.getElem?_setIfInBounds_ne he,setC_get _ hi]
   unfold wd
   rw [wdN_mod,wdN_mod]
   by_cases h1 : i < k
   ·rw [if_pos h1,if_pos (by omega)]
   ·rw [if_neg h1,if_neg (by omega)]
 ·have h1 : ∀ a : Array Value,a.size = 16 → a[i]? = none := fun a h => Array.getElem?_eq_none (by omega)
  rw [h1 _ (by simp [setC_size]),h1 _ (setC_size _)]
theorem bel_lt {m K : Nat} (h : m ≤ K) : 2 ^ m - 1 < 2 ^ K := by
 have : 2 ^ m ≤ 2 ^ K := Nat.pow_le_pow_right (by decide) h
 have hp : 0 < 2 ^ m := Nat.pow_pos (by decide)
 omega
theorem bel_word (m k c : Nat) (hc : c = min (m - 64 * k) 64) : IntKind.u64.wrap (IntKind.u64.wrap (2 ^ c) - 1) = wd (2 ^ m - 1) k := by
 have h1 : wd (2 ^ m - 1) k = ((2 ^ c - 1 : Nat) : Int) := by unfold wd; rw [wdN_below,hc]
 have hp : 0 < 2 ^ c := Nat.pow_pos (by decide)
 have hle : 2 ^ c ≤ 2 ^ 64 := Nat.pow_le_pow_right (by decide) (by omega)
 have e : ((2 : Int) ^ c) = ((2 ^ c : Nat) : Int) := by simp
 rw [h1,IntKind.wrap_u64,IntKind.wrap_u64,e]
 generalize 2 ^ c = p at *
 omega
set_option maxRecDepth 100000 in
set_option maxHeartbeats 4000000 in
theorem below_any (n : Int) (w : World) :
  Calls Tryz.prog 126 #[.int .i64 n] w fun e w' => e = .returned (.agg (setC (belS n))) ∧ Ext w w' := by
 obtain ⟨m,hm⟩ : ∃ m : Nat,m = min n.toNat 1024 := ⟨_,rfl⟩
 have hm1 : max 0 (min n 1024) = (m : Int) := by omega
 have hm2 : m ≤ 1024 := by omega
 have hbe : belS n = 2 ^ m - 1 := by rw [belS, ← hm]
 have hbe' := hide hbe
 have hB0 := hide (Blk.new w 76 (setC 0))
 clear hbe hm
 go_enter Tryz.func126,Tryz.ntmps126
 go_wp2_with fail
 have hx1 := hide ((ext_self1 w (.cells (setC 0) 76)).trans (ext_self1 _ (.cells (setC 0) 76)))
 have hB2 := hide ((unhide hB0).ext (ext_self1 (w.alloc (.cells (setC 0) 76)) (.cells (setC 0) 76)))
 have hB4 := hide (Blk.new (w.alloc (.cells (setC 0) 76)) 76 (setC 0))
 have hs : (w.alloc (.cells (setC 0) 76)).heap.size = w.heap.size + 1 := World.size_alloc _ _
 rw [hs] at hB4
 clear hs hB0
 have hz : setC 0 = #[.int .u64 0, .int .u64 0, .int .u64 0, .int .u64 0, .int .u64 0, .int .u64 0, .int .u64 0, .int .u64 0, .int .u64 0, .int .u64 0, .int .u64 0, .int .u64 0, .int .u64 0, .int .u64 0, .int .u64 0, .int .u64 0] := rfl
 rw [hz] at hx1 hB2 hB4
 generalize (w.alloc (.cells #[.int .u64 0, .int .u64 0, .int .u64 0, .int .u64 0, .int .u64 0, .int .u64 0, .int .u64 0, .int .u64 0, .int .u64 0, .int .u64 0, .int .u64 0, .int .u64 0, .int .u64 0, .int .u64 0, .int .u64 0, .int .u64 0] 76)).alloc (.cells #[.int .u64 0, .int .u64 0, .int .u64 0, .int .u64 0, .int .u64 0, .int .u64 0, .int .u64 0, .int .u64 0, .int .u64 0, .int .u64 0, .int .u64 0, .int .u64 0, .int .u64 0, .int .u64 0, .int .u64 0, .int .u64 0] 76) = W1 at *
 rw [← hz] at hB4 hB2
 clear hz
 generalize hb4e : w.heap.size + 1 = b4 at *
 generalize hb2e : w.heap.size = b2 at *
 obtain ⟨N,hN⟩ : ∃ N,N = 2 ^ m - 1 := ⟨_,rfl⟩
 have hN' := hide hN
 have hlt2 := hide (bel_lt (K := 64 * 16) hm2)
 rw [← hN] at hlt2
 clear hN
 go_loopw [8] (fun i wr => ∃ k : Nat,k ≤ 16 ∧ i = .int .i64 k ∧ Blk wr b4 76 (setC (N % 2 ^ (64 * k))) ∧ Blk wr b2 76 (setC 0) ∧ Ext w wr) (fun i _ => 16 - (intOf i).toNat)
 case atStart => exact ⟨0,Nat.zero_le _,rfl,by rw [Nat.mul_zero,Nat.pow_zero,Nat.mod_one]; exact unhide hB4,unhide hB2,unhide hx1⟩
 case round =>
  obtain ⟨k,hk,rfl,hB,hA,hx⟩ := hrel
  have hB' := hide hB
  have hA' := hide hA
  have hx' := hide hx
  clear hB4 hB2 hx1
  by_cases hlt : k < 16
  ·obtain ⟨c,hc⟩ : ∃ c : Nat,c = min (m - 64 * k) 64 := ⟨_,rfl⟩
   have w1 : IntKind.i64.wrap (64 * (k : Int)) = 64 * (k : Int) := IntWalk.i64_in _ (by omega)
   have w2 : IntKind.i64.wrap ((m : Int) - 64 * (k : Int)) = (m : Int) - 64 * (k : Int) := IntWalk.i64_in _ (by omega)
   have w3 : max 0 (min ((m : Int) - 64 * (k : Int)) 64) = (c : Int) := by omega
   have w4 := bel_word m k c hc
   rw [← unhide hN'] at w4
   have c0 := hB.cell k
   have f0 := hB.frozen k
   rw [setC_get _ hlt] at c0
   clear hB hA hx hc
   go_wp2_with fail
   go_roundw
   case rel => exact ⟨k + 1,by omega,by go_num,by have h := (unhide hB').set k (.int .u64 (wd N k)); rw [setC_next] at h; exact h,(unhide hA').keep (Keep.setCell _ _ _ _) (by simp; omega),(unhide hx').of_new (Keep.setCell _ _ _ _) (by simp; omega)⟩
   case measure => simp [intOf]; omega
  ·have hke : k = 16 := by omega
   subst hke
   rw [Nat.mod_eq_of_lt (unhide hlt2)] at hB hB'
   rw [← unhide hN'] at hbe'
   have hself := Ext.refl wr
   clear hx hlt2 hN'
   have e0 := hB.cells 0 (v := .int .u64 (wd N 0)) rfl
   have e1 := hB.cells 1 (v := .int .u64 (wd N 1)) rfl
   have e2 := hB.cells 2 (v := .int .u64 (wd N 2)) rfl
   have e3 := hB.cells 3 (v := .int .u64 (wd N 3)) rfl
   have e4 := hB.cells 4 (v := .int .u64 (wd N 4)) rfl
   have e5 := hB.cells 5 (v := .int .u64 (wd N 5)) rfl
   have e6 := hB.cells 6 (v := .int .u64 (wd N 6)) rfl
   have e7 := hB.cells 7 (v := .int .u64 (wd N 7)) rfl
   have e8 := hB.cells 8 (v := .int .u64 (wd N 8)) rfl
   have e9 := hB.cells 9 (v := .int .u64 (wd N 9)) rfl
   have e10 := hB.cells 10 (v := .int .u64 (wd N 10)) rfl
   have e11 := hB.cells 11 (v := .int .u64 (wd N 11)) rfl
   have e12 := hB.cells 12 (v := .int .u64 (wd N 12)) rfl
   have e13 := hB.cells 13 (v := .int .u64 (wd N 13)) rfl
   have e14 := hB.cells 14 (v := .int .u64 (wd N 14)) rfl
   have e15 := hB.cells 15 (v := .int .u64 (wd N 15)) rfl
   have g0 := hA.frozen 0
   have g1 := hA.frozen 1
   have g2 := hA.frozen 2
   have g3 := hA.frozen 3
   have g4 := hA.frozen 4
   have g5 := hA.frozen 5
   have g6 := hA.frozen 6
   have g7 := hA.frozen 7
   have g8 := hA.frozen 8
   have g9 := hA.frozen 9
   have g10 := hA.frozen 10
   have g11 := hA.frozen 11
   have g12 := hA.frozen 12
   have g13 := hA.frozen 13
   have g14 := hA.frozen 14
   have g15 := hA.frozen 15
   have z0 := hA.cells 0 (v := .int .u64 (wd 0 0)) rfl
   have z1 := hA.cells 1 (v := .int .u64 (wd 0 1)) rfl
   have z2 := hA.cells 2 (v := .int .u64 (wd 0 2)) rfl
   have z3 := hA.cells 3 (v := .int .u64 (wd 0 3)) rfl
   have z4 := hA.cells 4 (v := .int .u64 (wd 0 4)) rfl
   have z5 := hA.cells 5 (v := .int .u64 (wd 0 5)) rfl
   have z6 := hA.cells 6 (v := .int .u64 (wd 0 6)) rfl
   have z7 := hA.cells 7 (v := .int .u64 (wd 0 7)) rfl
   have z8 := hA.cells 8 (v := .int .u64 (wd 0 8)) rfl
   have z9 := hA.cells 9 (v := .int .u64 (wd 0 9)) rfl
   have z10 := hA.cells 10 (v := .int .u64 (wd 0 10)) rfl
   have z11 := hA.cells 11 (v := .int .u64 (wd 0 11)) rfl
   have z12 := hA.cells 12 (v := .int .u64 (wd 0 12)) rfl
   have z13 := hA.cells 13 (v := .int .u64 (wd 0 13)) rfl
   have z14 := hA.cells 14 (v := .int .u64 (wd 0 14)) rfl
   have z15 := hA.cells 15 (v := .int .u64 (wd 0 15)) rfl
   clear hB hA
   go_wp2_with fail
   rw [unhide hbe']
   refine bodyPost_ret (ret_cell1 rfl rfl (load_Set _ b2 N (Blk.set16 N (unhide hA')))) rfl ?_
   exact ⟨rfl,(unhide hx').of_new (Keep.set16 wr b2 N) (by simp; omega)⟩
end Go.Proofs.YtoacpebmhbkmbaaGreatDoor
namespace Go.Proofs.YtoacpebmhbkmbaaGreatDoor
open Go
theorem toL_len_le (N : Nat) : (toL N).length ≤ 1024 := by
 have := len_le_sub (toL N) ((List.range 1024).map fun (i : Nat) => (i : Int)) (toL_nodup N) (fun x hx => by
  obtain ⟨h1,h2,_⟩ := mem_toL'.1 hx
  exact List.mem_map.2 ⟨x.toNat,List.mem_range.2 (by omega),by omega⟩)
 simpa using this
theorem mem_or {N M : Nat} {x : Int} : x ∈ toL (N ||| M) ↔ x ∈ toL N ∨ x ∈ toL M := by
 rw [mem_toL',mem_toL',mem_toL',Nat.testBit_or,Bool.or_eq_true]
 constructor
 ·rintro ⟨h1,h2,h3 | h3⟩
  ·exact .inl ⟨h1,h2,h3⟩
  ·exact .inr ⟨h1,h2,h3⟩
 ·rintro (⟨h1,h2,h3⟩ | ⟨h1,h2,h3⟩)
  ·exact ⟨h1,h2, .inl h3⟩
  ·exact ⟨h1,h2, .inr h3⟩
theorem mem_minus {N M : Nat} {x : Int} : x ∈ toL (minusS N M) ↔ x ∈ toL N ∧ x ∉ toL M := by
 rw [mem_toL',mem_toL',mem_toL',minusS_bit,Bool.and_eq_true,Bool.not_eq_true']
 constructor
 ·rintro ⟨h1,h2,h3,h4⟩; exact ⟨⟨h1,h2,h3⟩,fun h => by rw [h.2.2] at h4; cases h4⟩
 ·rintro ⟨⟨h1,h2,h3⟩,h4⟩; exact ⟨h1,h2,h3,by
   cases hb : M.testBit x.toNat
   ·rfl
   ·exact absurd ⟨h1,h2,hb⟩ h4⟩
end Go.Proofs.YtoacpebmhbkmbaaGreatDoor
namespace Go.Proofs.YtoacpebmhbkmbaaGreatDoor
open Go Go.RowKit
attribute [local go_sem] qUpon lUpon
set_option maxRecDepth 100000 in
set_option maxHeartbeats 4000000 in
theorem of_any (A : Option Addr) (L : List Int) (cL : Nat) (w : World) (hL : SlAt encI 1 w A L) (hl : L.length ≤ 4611686018427387904) :
  Calls Tryz.prog 39 #[.slice A L.length cL] w fun e w' => e = .returned (.agg (setC (fromS L))) ∧ Ext w w' := by
 have hL' := hide hL
 have hB2 := hide ((Blk.new w 76 (setC 0)).ext (ext_self1 _ (.cells (setC 0) 76)))
 have hB3 := hide (Blk.new (w.alloc (.cells (setC 0) 76)) 76 (setC 0))
 have hx1 := hide (ext_self2 w (.cells (setC 0) 76) (.cells (setC 0) 76))
 simp only [World.size_alloc] at hB3
 clear hL
 go_enter Tryz.func39,Tryz.ntmps39
 go_wp2_with fail
 have hz : setC 0 = #[.int .u64 0, .int .u64 0, .int .u64 0, .int .u64 0, .int .u64 0, .int .u64 0, .int .u64 0, .int .u64 0, .int .u64 0, .int .u64 0, .int .u64 0, .int .u64 0, .int .u64 0, .int .u64 0, .int .u64 0, .int .u64 0] := rfl
 rw [hz] at hx1 hB2 hB3
 generalize (w.alloc (.cells #[.int .u64 0, .int .u64 0, .int .u64 0, .int .u64 0, .int .u64 0, .int .u64 0, .int .u64 0, .int .u64 0, .int .u64 0, .int .u64 0, .int .u64 0, .int .u64 0, .int .u64 0, .int .u64 0, .int .u64 0, .int .u64 0] 76)).alloc (.cells #[.int .u64 0, .int .u64 0, .int .u64 0, .int .u64 0, .int .u64 0, .int .u64 0, .int .u64 0, .int .u64 0, .int .u64 0, .int .u64 0, .int .u64 0, .int .u64 0, .int .u64 0, .int .u64 0, .int .u64 0, .int .u64 0] 76) = W1 at *
 rw [← hz] at hB2 hB3
 clear hz
 go_loopw [8] (fun i wr => ∃ k : Nat,k ≤ L.length ∧ i = .int .i64 k ∧ Blk wr w.heap.size 76 (setC 0) ∧ Blk wr (w.heap.size + 1) 76 (setC (fromS (L.take k))) ∧ Ext w wr) (fun i _ => L.length - (intOf i).toNat)
 case atStart => exact ⟨0,Nat.zero_le _,rfl,unhide hB2,by rw [List.take_zero]; exact unhide hB3,unhide hx1⟩
 case round =>
  obtain ⟨k,hk,rfl,hB,hC,hx⟩ := hrel
  have hB' := hide hB
  have hC' := hide hC
  have hx' := hide hx
  clear hB2 hB3 hx1
  by_cases hlt : k < L.length
  ·have hLr := (unhide hL').ext hx
   obtain ⟨b,off,rfl,c0⟩ := atI hLr hlt
   have hst := hide (fromS_next L k hlt)
   generalize L[k] = x at c0 hst
   have hself := Ext.refl wr
   clear hB hC hx hLr
   try dsimp only
   repeat (first | (with_reducible refine wp_reg (id := 5) ?_) | go_values | go_step | go_guarded | go_upon | go_in | go_back | fail)
   refine wpO_val rfl (load_SetR (N := fromS (L.take k)) rfl rfl (unhide hC').whole) ?_
   refine wpO_want rfl ?_
   go_simp
   refine wpO_want rfl ?_
   go_simp
   refine (with_any (fromS (L.take k)) x wr).mono ?_
   rintro e W7 ⟨rfl,hx7⟩
   refine ⟨_,rfl, ?_⟩
   have hC7 := (unhide hC').ext hx7
   refine wpO_skip rfl (store_SetR (N := withS (fromS (L.take k)) x) rfl rfl rfl hC7) (wpO_done ?_)
   rw [← unhide hst]
   have hC8 := hide (hC7.row (setC (fromS (L.take (k + 1)))))
   have hB8 := hide (((unhide hB').ext hx7).keep (Keep.setRow W7 (w.heap.size + 1) (setC (fromS (L.take (k + 1))))) (by simp))
   have hx8 := hide (((unhide hx').trans hx7).of_new (Keep.setRow W7 (w.heap.size + 1) (setC (fromS (L.take (k + 1))))) (by simp))
   clear hB' hC' hx' hx7 hC7 c0 hself
   generalize W7.setRow (w.heap.size + 1) (setC (fromS (L.take (k + 1)))) = W8 at *
   go_wp2_with fail
   go_roundw
   case rel => exact ⟨k + 1,by omega,by go_num,unhide hB8,unhide hC8,unhide hx8⟩
   case measure => simp [intOf]; omega
  ·have hke : k = L.length := by omega
   subst hke
   rw [List.take_length] at hC'
   clear hB hC hx
   try dsimp only
   repeat (first | (with_reducible refine wp_reg (id := 7) ?_) | go_values | go_step | go_guarded | go_upon | go_in | go_back | fail)
   refine wpO_val rfl (load_SetR (N := fromS L) rfl rfl (unhide hC').whole) ?_
   refine wpO_skip rfl (store_SetR (N := fromS L) rfl rfl rfl (unhide hB')) (wpO_done ?_)
   go_wp2_with fail
   refine bodyPost_ret (ret_cell1 rfl rfl (load_Set _ w.heap.size (fromS L) ((unhide hB').row _))) rfl ?_
   exact ⟨rfl,(unhide hx').of_new (Keep.setRow wr w.heap.size _) (by simp)⟩
end Go.Proofs.YtoacpebmhbkmbaaGreatDoor
namespace Go.Proofs.YtoacpebmhbkmbaaGreatDoor
open Go Go.RowKit
attribute [local go_sem] qUpon lUpon
theorem len_any (g bv be : Nat) (V : List (Int × Thing)) (E : List ((Int × Int) × Thing)) (w : World) (hg : GraphAt w g bv be V E) :
  Calls Tryz.prog 154 #[.pointer (some ⟨g,0,none⟩)] w fun e w' => e = .returned (.tuple #[.int .i64 V.length, .int .i64 E.length]) ∧ Ext w w' := by
 have d0 := hg.ptr0
 have d1 := hg.ptr1
 have l0 := fun (W : World) (hW : Ext w W) => (hg.vs.ext hW).len Tryz.underlying87
 have l1 := fun (W : World) (hW : Ext w W) => (hg.es.ext hW).len Tryz.underlying88
 clear hg
 go_enter Tryz.func154,Tryz.ntmps154
 go_wp2
 refine wp_region_still (P := Tryz.prog) [0,1,2,3,4,5,6,7,8,9,10,11] [] 0 #[true,true,true,true,true,true,true,true,true,true,true,true] (by kernel_rfl) (by kernel_rfl) rfl (by rfl) ?_
 iterate 12
  refine ql_want (v := ?_) rfl (by rfl) (fun W hW => ?_) ?_
  rotate_left
  ·go_simp
   first | done | rfl | (fail)
  go_frame
 refine wpQL_nil (fun w2 hx2 => ?_)
 refine wpX_done (by kernel_rfl) ?_
 try go_frame
 go_wp2
 go_ret2
 exact ⟨rfl,hx2⟩
end Go.Proofs.YtoacpebmhbkmbaaGreatDoor
namespace Go.Proofs.YtoacpebmhbkmbaaGreatDoor
open Go Go.RowKit
theorem vertices_rel (g bv be : Nat) (V : List (Int × Thing)) (E : List ((Int × Int) × Thing)) (w : World) (hg : IsG w g bv be V E) :
  Calls Tryz.prog 30 #[.pointer (some ⟨g,0,none⟩)] w fun e w' => ∃ A c,e = .returned (.slice A V.length c) ∧ w'.ownsRow w.heap.size 64 3 (.slice A V.length c) V.length (V.flatMap encV) ∧ Ext w w' := by
 have n1 := hg.nV
 obtain ⟨V',E',h1,hV,hE,hi⟩ := hg
 refine (vertices_any g bv be V' E' V w h1 hV hi.sv (by rw [← hV.length_eq]; exact n1)).mono fun e w' ⟨v,he,ho,hx⟩ => ?_
 obtain ⟨A,c,rfl⟩ := own_slice ho
 exact ⟨A,c,he,ho,hx⟩
theorem edges_rel (g bv be : Nat) (V : List (Int × Thing)) (E : List ((Int × Int) × Thing)) (w : World) (hg : IsG w g bv be V E) :
  Calls Tryz.prog 80 #[.pointer (some ⟨g,0,none⟩)] w fun e w' => ∃ A c,e = .returned (.slice A E.length c) ∧ w'.ownsRow w.heap.size 137 4 (.slice A E.length c) E.length (E.flatMap encE) ∧ Ext w w' := by
 have n1 := hg.nE
 obtain ⟨V',E',h1,hV,hE,hi⟩ := hg
 refine (edges_any g bv be V' E' E w h1 hE hi.se (by rw [← hE.length_eq]; exact n1)).mono fun e w' ⟨v,he,ho,hx⟩ => ?_
 obtain ⟨A,c,rfl⟩ := own_slice ho
 exact ⟨A,c,he,ho,hx⟩
end Go.Proofs.YtoacpebmhbkmbaaGreatDoor
namespace Go.Proofs.YtoacpebmhbkmbaaGreatDoor
open Go Go.RowKit
theorem near_rel (g bv be : Nat) (V : List (Int × Thing)) (E : List ((Int × Int) × Thing)) (id : Int) (w : World) (hg : IsG w g bv be V E) : Calls Tryz.prog 44 #[.pointer (some ⟨g,0,none⟩), .int .i64 id] w fun e w' => e = .returned (.agg (setC (nearS id E))) ∧ Ext w w' :=
 near_gen _ id E w hg.nE fun W hW => (edges_rel g bv be V E W (hg.ext hW)).mono fun e w' h => by
  obtain ⟨A,c,he,ho,hx⟩ := h
  exact ⟨A,c,he,own_at ho (fun _ => rfl),hx⟩
theorem vset_rel (g bv be : Nat) (V : List (Int × Thing)) (E : List ((Int × Int) × Thing)) (w : World) (hg : IsG w g bv be V E) : Calls Tryz.prog 40 #[.pointer (some ⟨g,0,none⟩)] w fun e w' => e = .returned (.agg (setC (vS V))) ∧ Ext w w' :=
 vset_gen _ V w hg.nV fun W hW => (vertices_rel g bv be V E W (hg.ext hW)).mono fun e w' h => by
  obtain ⟨A,c,he,ho,hx⟩ := h
  exact ⟨A,c,he,own_at ho (fun _ => rfl),hx⟩
end Go.Proofs.YtoacpebmhbkmbaaGreatDoor
namespace Go.Proofs.YtoacpebmhbkmbaaGreatDoor
open Go Go.RowKit
theorem len_rel (g bv be : Nat) (V : List (Int × Thing)) (E : List ((Int × Int) × Thing)) (w : World) (hg : IsG w g bv be V E) : Calls Tryz.prog 154 #[.pointer (some ⟨g,0,none⟩)] w fun e w' => e = .returned (.tuple #[.int .i64 V.length, .int .i64 E.length]) ∧ Ext w w' := by
 obtain ⟨V',E',h1,hV,hE,hi⟩ := hg
 rw [hV.length_eq,hE.length_eq]
 exact len_any g bv be V' E' w h1
end Go.Proofs.YtoacpebmhbkmbaaGreatDoor
namespace Go.Proofs.YtoacpebmhbkmbaaGreatDoor
open Go Go.RowKit
attribute [local go_sem] qUpon lUpon
def checkS (L : List Int) (V : List (Int × Thing)) : Int := if L.length = V.length ∧ eqS (fromS L) (vS V) = true then 0 else 3
set_option maxRecDepth 100000 in
theorem check_nil (A : Option Addr) (n cL : Nat) (w : World) :
  Calls Tryz.prog 125 #[.slice A n cL, .pointer none] w fun e w' => e = .returned (.int .i64 1) ∧ Ext w w' := by
 have hself := hide (Ext.refl w)
 go_enter Tryz.func125,Tryz.ntmps125
 go_wp2_with fail
 go_ret
 exact ⟨rfl,unhide hself⟩
set_option maxRecDepth 100000 in
set_option maxHeartbeats 4000000 in
theorem check_any (A : Option Addr) (L : List Int) (cL : Nat) (g bv be : Nat) (V : List (Int × Thing)) (E : List ((Int × Int) × Thing)) (w : World) (hL : SlAt encI 1 w A L) (hl : L.length ≤ 4611686018427387904) (hg : IsG w g bv be V E) :
  Calls Tryz.prog 125 #[.slice A L.length cL, .pointer (some ⟨g,0,none⟩)] w fun e w' => e = .returned (.int .i64 (checkS L V)) ∧ Ext w w' := by
 have hL' := hide hL
 have hg' := hide hg
 have hl' := hide hl
 have nV := hg.nV
 clear hL hg
 go_enter Tryz.func125,Tryz.ntmps125
 go_wp2_with fail
 refine (len_rel g bv be V E w (unhide hg')).mono ?_
 rintro e w1 ⟨rfl,hx1⟩
 have hx1' := hide hx1
 clear hx1
 try dsimp only
 repeat (first | (with_reducible refine wp_reg (id := 4) ?_) | go_values | go_step | go_guarded | go_upon | go_in | go_back | fail)
 iterate 5
  refine wpO_want rfl ?_
  go_simp
 by_cases hn : L.length = V.length
 ·have e1 : ((L.length : Int) != (V.length : Int)) = false := by simp [hn]
  have hck : checkS L V = if eqS (fromS L) (vS V) = true then 0 else 3 := by unfold checkS; simp [hn]
  have hck' := hide hck
  clear hck hn
  simp only [e1]
  clear e1
  refine wpO_want rfl ?_
  go_simp
  refine wpO_want rfl ?_
  go_simp
  refine (of_any A L cL w1 ((unhide hL').ext (unhide hx1')) (unhide hl')).mono ?_
  rintro e w2 ⟨rfl,hx2⟩
  refine ⟨_,rfl, ?_⟩
  refine wpO_want rfl ?_
  go_simp
  refine wpO_want rfl ?_
  go_simp
  refine (vset_rel g bv be V E w2 ((unhide hg').ext ((unhide hx1').trans hx2))).mono ?_
  rintro e w3 ⟨rfl,hx3⟩
  refine ⟨_,rfl, ?_⟩
  refine wpO_val rfl (run_neq_Set rfl rfl rfl) ?_
  go_frame
  refine wpO_want rfl ?_
  go_simp
  refine wpO_done ?_
  have hx := hide (((unhide hx1').trans hx2).trans hx3)
  clear hx2 hx3 hx1'
  generalize eqS (fromS L) (vS V) = q at *
  cases q
  ·go_wp2_with fail
   go_ret
   rw [unhide hck']
   exact ⟨rfl,unhide hx⟩
  ·go_wp2_with fail
   go_ret
   rw [unhide hck']
   exact ⟨rfl,unhide hx⟩
 ·have e1 : ((L.length : Int) != (V.length : Int)) = true := by simp; omega
  have hck : checkS L V = 3 := by unfold checkS; rw [if_neg (fun h => hn h.1)]
  have hck' := hide hck
  clear hck hn
  simp only [e1]
  clear e1
  iterate 5
   refine wpO_out (by rfl) ?_
   go_frame
  refine wpO_want rfl ?_
  go_simp
  refine wpO_done ?_
  go_wp2_with fail
  go_ret
  rw [unhide hck']
  exact ⟨rfl,unhide hx1'⟩
end Go.Proofs.YtoacpebmhbkmbaaGreatDoor
namespace Go.Proofs.YtoacpebmhbkmbaaGreatDoor
open Go Go.RowKit
def nrM (M : List (Int × Nat)) (u : Int) : Nat := (lookM M u).getD 0
def comeU (M : List (Int × Nat)) (s : Nat) (u : Int) : List (Int × Int) := (toL (minusS (minusS s (belS (u + 1))) (nrM M u))).map fun v => (u,v)
def comeS (M : List (Int × Nat)) (s : Nat) : List (Int × Int) := (toL s).flatMap (comeU M s)
def updF (s : Nat) (id : Int) (M : List (Int × Nat)) (u : Int) : List (Int × Nat) := putM M u (withoutS (withoutS (nrM M u ||| s) u) id)
def updM (M : List (Int × Nat)) (s : Nat) (id : Int) : List (Int × Nat) := (toL s).foldl (updF s id) M
def stM (M : List (Int × Nat)) (id : Int) : List (Int × Nat) := updM M (nrM M id) id
def m0 (E : List ((Int × Int) × Thing)) (o : List Int) : List (Int × Nat) := o.foldl (fun M id => putM M id (nearS id E)) []
def mAt (E : List ((Int × Int) × Thing)) (o : List Int) (k : Nat) : List (Int × Nat) := (o.take k).foldl stM (m0 E o)
def sAt (E : List ((Int × Int) × Thing)) (o : List Int) (k : Nat) : Nat := nrM (mAt E o k) (o[k]?.getD 0)
def cAt (E : List ((Int × Int) × Thing)) (o : List Int) (k : Nat) : List (Int × Int) := comeS (mAt E o k) (sAt E o k)
theorem mAt_next (E : List ((Int × Int) × Thing)) (o : List Int) (k : Nat) (h : k < o.length) : mAt E o (k + 1) = stM (mAt E o k) o[k] := by
 unfold mAt
 rw [List.take_succ_eq_append_getElem h,List.foldl_append,List.foldl_cons,List.foldl_nil]
theorem m0_next (E : List ((Int × Int) × Thing)) (o : List Int) (k : Nat) (h : k < o.length) : m0 E (o.take (k + 1)) = putM (m0 E (o.take k)) o[k] (nearS o[k] E) := by
 unfold m0
 rw [List.take_succ_eq_append_getElem h,List.foldl_append,List.foldl_cons,List.foldl_nil]
theorem sAt_eq (E : List ((Int × Int) × Thing)) (o : List Int) (k : Nat) (h : k < o.length) : sAt E o k = nrM (mAt E o k) o[k] := by
 unfold sAt
 rw [List.getElem?_eq_getElem h,Option.getD_some]
theorem toL_le (N : Nat) : (toL N).length ≤ 1024 := toK_le N 1024
theorem comeU_le (M : List (Int × Nat)) (s : Nat) (u : Int) : (comeU M s u).length ≤ 1024 := by
 unfold comeU
 rw [List.length_map]
 exact toL_le _
theorem flat_len {α β : Type} {f : α → List β} {c : Nat} (h : ∀ x,(f x).length ≤ c) : ∀ l : List α,(l.flatMap f).length ≤ l.length * c
 | [] => by simp
 | x :: r => by
  rw [List.flatMap_cons,List.length_append,List.length_cons,Nat.add_mul,Nat.one_mul]
  have := h x
  have := flat_len h r
  omega
theorem checkS_mem {L : List Int} {V : List (Int × Thing)} {E : List ((Int × Int) × Thing)} (hi : GInv V E) (h : checkS L V = 0) : ∀ x ∈ V.map (·.1),x ∈ L := by
 intro x hx
 have h2 : eqS (fromS L) (vS V) = true := by
  unfold checkS at h
  split at h
  ·rename_i h2; exact h2.2
  ·cases h
 obtain ⟨p,hp,rfl⟩ := List.mem_map.1 hx
 have hid : idB p.1 = true := hi.ids _ hp
 have h0 : 0 ≤ p.1 ∧ p.1 < 1024 := by simpa [idB] using hid
 have h3 := eqS_iff.1 h2 p.1.toNat (by omega)
 rw [vS_eq,fromS_bit,fromS_bit] at h3
 have e : ((p.1.toNat : Nat) : Int) = p.1 := by omega
 rw [e,decide_eq_true hx] at h3
 have h4 : decide (p.1.toNat < 1024) = true := by simp; omega
 rw [h4] at h3
 simpa using h3
end Go.Proofs.YtoacpebmhbkmbaaGreatDoor
