/- Parts of a proof,laid together. Each part says its own conditions. -/
import Derived.Test.YtmfkkkhddigkfaaGreatDoorP19
import Derived.Test.YtmfkkkhddigkfaaGreatDoorP42
import Derived.Test.YtmfkkkhddigkfaaGreatDoorP44
namespace Go.Proofs.YtmfkkkhddigkfaaGreatDoor
open Go Go.RowKit
attribute [local go_sem] qUpon lUpon
theorem bitW_shl (n : Nat) : IntKind.u64.wrap (2 ^ (n % 64)) = bitW n := by
 rw [IntKind.wrap_u64]
 have h3 : 2 ^ (n % 64) < 2 ^ 64 := Nat.pow_lt_pow_right (by omega) (by omega)
 have e : ((2 : Int) ^ (n % 64)) = ((2 ^ (n % 64) : Nat) : Int) := by simp
 unfold bitW
 rw [e]
 generalize 2 ^ (n % 64) = m at h3
 omega
theorem bitW_shl' (n : Nat) : IntKind.u64.wrap (2 ^ ((n : Int) % 64).toNat) = bitW n := by
 rw [show ((n : Int) % 64).toNat = n % 64 by omega]
 exact bitW_shl n
theorem tmod64 (n : Nat) : ((n : Nat) : Int).tmod 64 = ((n % 64 : Nat) : Int) := by
 rw [Int.tmod_eq_emod_of_nonneg (by omega)]
 omega
theorem with_step {w wr w3 w4 : World} {b4 b2 n N : Nat} {T : TypeId} {A : Option Addr} {L : List Int} (hB : Blk wr b4 T (setC N)) (hA : Blk wr b2 T (setC 0)) (hs : SlAt encI 1 wr A L) (hx : Ext w wr) (hx3 : Ext wr w3) (hx4 : Ext (w3.setCell ⟨b4,n / 64,none⟩ (.int .u64 (bits .or .u64 (wd N (n / 64)) (bitW n)))) w4) (hb : w.heap.size ≤ b4) (hne : b2 ≠ b4) :
  Blk w4 b4 T (setC (N ||| 2 ^ n)) ∧ Blk w4 b2 T (setC 0) ∧ SlAt encI 1 w4 A L ∧ Ext w w4 := by
 have hk3 : Keep [b4] w3 (w3.setCell ⟨b4,n / 64,none⟩ (.int .u64 (bits .or .u64 (wd N (n / 64)) (bitW n)))) := Keep.setCell _ _ _ _
 refine ⟨?_,((hA.ext hx3).keep hk3 (by simpa using hne)).ext hx4,((hs.ext hx3).keep_S (hB.ext hx3) encI_nu encI0 hk3).ext hx4,((hx.trans hx3).of_new hk3 (by simpa using hb)).trans hx4⟩
 have h := ((hB.ext hx3).set (n / 64) (.int .u64 (bits .or .u64 (wd N (n / 64)) (bitW n)))).ext hx4
 rwa [setC_with N n] at h
set_option maxRecDepth 100000 in
set_option maxHeartbeats 8000000 in
theorem from01_any (A : Option Addr) (L : List Int) (cL : Nat) (w : World) (hL : SlAt encI 1 w A L) (_hl : L.length ≤ 4096) :
  Calls Tryz.prog 71 #[.slice A L.length cL] w fun e w' => e = .returned (.agg (setC (fromS L))) ∧ Ext w w' := by
 have hB0 := hide (Blk.new w 51 (setC 0))
 have hs0 := hide hL
 clear hL
 go_enter Tryz.func71,Tryz.ntmps71
 go_wp2_with fail
 have hx1 := hide ((ext_self1 w (.cells (setC 0) 51)).trans (ext_self1 _ (.cells (setC 0) 51)))
 have hB2 := hide ((unhide hB0).ext (ext_self1 (w.alloc (.cells (setC 0) 51)) (.cells (setC 0) 51)))
 have hB4 := hide (Blk.new (w.alloc (.cells (setC 0) 51)) 51 (setC 0))
 have hs : (w.alloc (.cells (setC 0) 51)).heap.size = w.heap.size + 1 := World.size_alloc _ _
 rw [hs] at hB4
 clear hs hB0
 have hz : setC 0 = #[.int .u64 0, .int .u64 0, .int .u64 0, .int .u64 0, .int .u64 0, .int .u64 0, .int .u64 0, .int .u64 0, .int .u64 0, .int .u64 0, .int .u64 0, .int .u64 0, .int .u64 0, .int .u64 0, .int .u64 0, .int .u64 0] := rfl
 rw [hz] at hx1 hB2 hB4
 generalize (w.alloc (.cells #[.int .u64 0, .int .u64 0, .int .u64 0, .int .u64 0, .int .u64 0, .int .u64 0, .int .u64 0, .int .u64 0, .int .u64 0, .int .u64 0, .int .u64 0, .int .u64 0, .int .u64 0, .int .u64 0, .int .u64 0, .int .u64 0] 51)).alloc (.cells #[.int .u64 0, .int .u64 0, .int .u64 0, .int .u64 0, .int .u64 0, .int .u64 0, .int .u64 0, .int .u64 0, .int .u64 0, .int .u64 0, .int .u64 0, .int .u64 0, .int .u64 0, .int .u64 0, .int .u64 0, .int .u64 0] 51) = W1 at *
 rw [← hz] at hB4 hB2
 clear hz
 have hlo := hide (show w.heap.size ≤ w.heap.size + 1 ∧ w.heap.size ≠ w.heap.size + 1 by omega)
 have hlo2 := hide (Nat.le_refl w.heap.size)
 generalize hb4e : w.heap.size + 1 = b4 at *
 generalize hb2e : w.heap.size = b2 at *
 have hlo : Hid (w.heap.size ≤ b4 ∧ b2 ≠ b4) := by rw [hb2e]; exact hlo
 have hs1 := hide ((unhide hs0).ext (unhide hx1))
 clear hs0
 go_loopw [4] (fun i wr => ∃ k : Nat,k ≤ L.length ∧ i = .int .i64 k ∧ Blk wr b4 51 (setC (fromS (L.take k))) ∧ Blk wr b2 51 (setC 0) ∧ SlAt encI 1 wr A L ∧ Ext w wr) (fun i _ => L.length - (intOf i).toNat)
 case atStart => exact ⟨0,Nat.zero_le _,rfl,unhide hB4,unhide hB2,unhide hs1,unhide hx1⟩
 case round =>
  obtain ⟨k,hk,rfl,hB,hA,hs,hx⟩ := hrel
  have hB' := hide hB
  have hA' := hide hA
  have hs' := hide hs
  have hx' := hide hx
  clear hB4 hB2 hs1 hx1 hB hA hs hx
  by_cases hlt : k < L.length
  ·have hB := unhide hB'
   obtain ⟨bb,off,rfl,c0⟩ := atI (unhide hs') hlt
   have hn' := hide (fromS_next L k hlt)
   generalize L[k] = x at c0 hn'
   generalize fromS (L.take k) = N at hB hB' hn'
   have hself := Ext.refl wr
   by_cases hf : fitB x = true
   ·obtain ⟨n,rfl⟩ : ∃ n : Nat,x = n := ⟨x.toNat,by simp [fitB] at hf; omega⟩
    have hn : n < 1024 := by simp [fitB] at hf; omega
    have hN := hide (show withS N (n : Int) = N ||| 2 ^ n by rw [withS,if_pos hf,Int.toNat_natCast])
    obtain ⟨h1,hw,h6,h7,h8⟩ := idx_facts hn
    have h9 := tmod64 n
    have h10 := bitW_shl' n
    have k0 := cell_of hB hn
    have z0 : ¬ (n : Int) < 0 := by omega
    have z1 : (n : Int) < 1024 := by omega
    clear hB hf
    go_wp2_with fail
    refine wp_region_ext (P := Tryz.prog) [0,1,2,3,4,5,6,7,8,9,10,11,12,13,14,15,16,17,18,19] [20] 1 #[true,true,true,true,true,true,true,true,true,true,true,true,true,true,true,true,true,true,true,true,false] (by kernel_rfl) (by kernel_rfl) rfl (by rfl) ?_
    iterate 20
     refine ql_want (v := ?_) rfl (by rfl) (fun W hW => ?_) ?_
     rotate_left
     ·go_simp
      first | done | rfl
     go_frame
    refine wpQL_nil (fun w3 hx3 => ?_)
    have c1 := k0 w3 hx3
    have f1 := ((unhide hB').ext hx3).frozen (n / 64)
    refine lx_one (i := 20) (by kernel_rfl) rfl (by rfl) #[true,true,true,true,true,true,true,true,true,true,true,true,true,true,true,true,true,true,true,true,true] (by rfl) ?_
    go_simp
    intro w4 hx4
    have hst := with_step (unhide hB') (unhide hA') (unhide hs') (unhide hx') hx3 hx4 (unhide hlo).1 (unhide hlo).2
    have hB3 := hide hst.1
    have hA3 := hide hst.2.1
    have hs3 := hide hst.2.2.1
    have hx5 := hide hst.2.2.2
    clear hB' hA' hs' hx' hx3 hx4 c0 c1 f1 k0 h1 hw h6 h7 h8 h9 h10 hst hself
    refine wpX_done (by kernel_rfl) ?_
    try go_frame
    go_wp2_with fail
    go_roundw
    case rel => exact ⟨k + 1,by omega,by go_num,by rw [unhide hn',unhide hN]; exact unhide hB3,unhide hA3,unhide hs3,unhide hx5⟩
    case measure => simp [intOf]; omega
   ·have hN := hide (show withS N x = N by rw [withS,if_neg hf])
    clear hB
    by_cases h0 : x < 0
    ·go_wp2_with fail
     go_roundw
     case rel => exact ⟨k + 1,by omega,by go_num,by rw [unhide hn',unhide hN]; exact unhide hB',unhide hA',unhide hs',unhide hx'⟩
     case measure => simp [intOf]; omega
    ·have h1 : ¬ x < 1024 := by simp [fitB] at hf; omega
     go_wp2_with fail
     go_roundw
     case rel => exact ⟨k + 1,by omega,by go_num,by rw [unhide hn',unhide hN]; exact unhide hB',unhide hA',unhide hs',unhide hx'⟩
     case measure => simp [intOf]; omega
  ·have hke : k = L.length := by omega
   have hB := unhide hB'
   have hA := unhide hA'
   rw [hke,List.take_length] at hB hB'
   have hself := Ext.refl wr
   clear hlt
   obtain ⟨N,hN⟩ : ∃ N,fromS L = N := ⟨_,rfl⟩
   rw [hN] at hB hB'
   have hN' := hide hN
   clear hN
   have e0 := hB.cells 0 (v := .int .u64 (wd N 0)) rfl
   have e1 := hB.cells 1 (v := .int .u64 (wd N 1)) rfl
   have e2 := hB.cells 2 (v := .int .u64 (wd N 2)) rfl
   have e3 := hB.cells 3 (v := .int .u64 (wd N 3)) rfl
   have e4 := hB.cells 4 (v := .int .u64 (wd N 4)) rfl
   have e5 := hB.cells 5 (v := .int .u64 (wd N 5)) rfl
   have e6 := hB.cells 6 (v := .int .u64 (wd N 6)) rfl
   have e7 := hB.cells 7 (v := .int .u64 (wd N 7)) rfl
   have e8 := hB.cells 8 (v := .int .u64 (wd N 8)) rfl
   have e9 := hB.cells 9 (v := .int .u64 (wd N 9)) rfl
   have e10 := hB.cells 10 (v := .int .u64 (wd N 10)) rfl
   have e11 := hB.cells 11 (v := .int .u64 (wd N 11)) rfl
   have e12 := hB.cells 12 (v := .int .u64 (wd N 12)) rfl
   have e13 := hB.cells 13 (v := .int .u64 (wd N 13)) rfl
   have e14 := hB.cells 14 (v := .int .u64 (wd N 14)) rfl
   have e15 := hB.cells 15 (v := .int .u64 (wd N 15)) rfl
   have g0 := hA.frozen 0
   have g1 := hA.frozen 1
   have g2 := hA.frozen 2
   have g3 := hA.frozen 3
   have g4 := hA.frozen 4
   have g5 := hA.frozen 5
   have g6 := hA.frozen 6
   have g7 := hA.frozen 7
   have g8 := hA.frozen 8
   have g9 := hA.frozen 9
   have g10 := hA.frozen 10
   have g11 := hA.frozen 11
   have g12 := hA.frozen 12
   have g13 := hA.frozen 13
   have g14 := hA.frozen 14
   have g15 := hA.frozen 15
   have z0 := hA.cells 0 (v := .int .u64 (wd 0 0)) rfl
   have z1 := hA.cells 1 (v := .int .u64 (wd 0 1)) rfl
   have z2 := hA.cells 2 (v := .int .u64 (wd 0 2)) rfl
   have z3 := hA.cells 3 (v := .int .u64 (wd 0 3)) rfl
   have z4 := hA.cells 4 (v := .int .u64 (wd 0 4)) rfl
   have z5 := hA.cells 5 (v := .int .u64 (wd 0 5)) rfl
   have z6 := hA.cells 6 (v := .int .u64 (wd 0 6)) rfl
   have z7 := hA.cells 7 (v := .int .u64 (wd 0 7)) rfl
   have z8 := hA.cells 8 (v := .int .u64 (wd 0 8)) rfl
   have z9 := hA.cells 9 (v := .int .u64 (wd 0 9)) rfl
   have z10 := hA.cells 10 (v := .int .u64 (wd 0 10)) rfl
   have z11 := hA.cells 11 (v := .int .u64 (wd 0 11)) rfl
   have z12 := hA.cells 12 (v := .int .u64 (wd 0 12)) rfl
   have z13 := hA.cells 13 (v := .int .u64 (wd 0 13)) rfl
   have z14 := hA.cells 14 (v := .int .u64 (wd 0 14)) rfl
   have z15 := hA.cells 15 (v := .int .u64 (wd 0 15)) rfl
   clear hB hA
   go_wp2_with fail
   refine bodyPost_ret (ret_cell1 rfl rfl (load_Set _ b2 N (Blk.set16 N (unhide hA')))) rfl ?_
   exact ⟨by rw [unhide hN'],(unhide hx').of_new (Keep.set16 wr b2 N) (by simp; omega)⟩
end Go.Proofs.YtmfkkkhddigkfaaGreatDoor
namespace Go.Proofs.YtmfkkkhddigkfaaGreatDoor
open Go Go.RowKit Go.Shelf
attribute [local go_sem] qUpon lUpon
attribute [local irreducible] wpO wpX wpQL
theorem eq_from (N : Nat) : eqS N (fromS (toL N)) = true := eqS_iff.2 fun k hk => by
 rw [fromS_bit,decide_eq_true hk,Bool.true_and,Bool.eq_iff_iff,decide_eq_true_eq,mem_toL',Int.toNat_natCast]
 exact ⟨fun h => ⟨by omega,by omega,h⟩,fun h => h.2.2⟩
theorem from01_n (A : Option Addr) (L : List Int) (n cL : Nat) (w : World) (hL : SlAt encI 1 w A L) (hn : n = L.length) (hl : n ≤ 4096) :
  Calls Tryz.prog 71 #[.slice A n cL] w fun e w' => e = .returned (.agg (setC (fromS L))) ∧ Ext w w' := by
 subst hn
 exact from01_any A L cL w hL hl
set_option maxRecDepth 100000 in
set_option maxHeartbeats 16000000 in
theorem rowsQ_any (A B : Option Addr) (l : List Nat) (n cA cB : Nat) (w : World) (hA : SlAt encS 16 w A l) (hB : SSAt w B (l.map toL)) (hn : n = l.length) (hl : n ≤ 4096) :
  Calls Tryz.prog 38 #[.slice A n cA, .slice B n cB] w fun e w' => e = .returned (.bool true) ∧ Ext w w' := by
 have hA' := hide hA
 have hB' := hide hB
 have hn' := hide hn
 have hl' := hide hl
 clear hA hB hn hl
 have hP := hide (Sp.new w)
 refine callsIn_wide.1 (callsIn_of_wp_marks (n := 0) Tryz.func38 rfl trivial (wpIn_wide.2 ?_))
 simp only [Tryz.ntmps38,List.size_toArray,List.length_cons,List.length_nil,Nat.reduceAdd,Nat.reduceSub,Array.replicate_succ,Array.replicate_zero,List.push_toArray,List.append_toArray,List.nil_append,List.cons_append]
 have hnn : ((n : Int) != (n : Int)) = false := by simp
 try dsimp only
 repeat ((fail_if_success (with_reducible refine wp_reg (id := 1) ?_)); (first | go_values | go_skip | go_step | go_guarded | go_upon | go_in | go_back | fail))
 with_reducible refine wp_reg (id := 1) ?_
 iterate 5
  refine wpO_want rfl ?_
  go_simp
 refine wpO_done ?_
 try go_frame
 clear hnn
 try dsimp only
 repeat ((fail_if_success (with_reducible refine wp_reg (id := 3) ?_)); (first | go_values | go_skip | go_step | go_guarded | go_upon | go_in | go_back | fail))
 with_reducible refine wp_reg (id := 3) ?_
 refine wpO_want rfl ?_
 go_simp
 refine wpO_done ?_
 try go_frame
 go_wp2_with fail
 obtain ⟨I0_2,hI0_20⟩ : ∃ I : Nat → Act → World → Prop,I = fun fi a' wr => ∃ (k : Nat),a'.tmps.size = 27 ∧ a'.tmps.getD 0 undef = .slice A n cA ∧ a'.tmps.getD 1 undef = .slice B n cB ∧ a'.tmps.getD 5 undef = .int .i64 (k : Nat) ∧ a'.defers = [] ∧ k ≤ n ∧ Sp w [] w [] [] [] wr ∧ fi = n - k := ⟨_,rfl⟩
 have hI0_2 := hide hI0_20
 clear hI0_20
 refine wp_loop_ix I0_2 (n - 0) ?_ ?_
 ·rw [unhide hI0_2]; exact ⟨0,rfl,rfl,rfl,rfl,rfl,Nat.zero_le _,unhide hP,rfl⟩
 ·rintro fi ⟨tm,dfs⟩ wr hrel
  rw [unhide hI0_2] at hrel
  obtain ⟨k,hsz,e0,e1,e5,hdf,hk,hPr,hfm⟩ := hrel
  obtain ⟨us,rfl⟩ : ∃ us : Nat → Value,tm = #[us 0,us 1,us 2,us 3,us 4,us 5,us 6,us 7,us 8,us 9,us 10,us 11,us 12,us 13,us 14,us 15,us 16,us 17,us 18,us 19,us 20,us 21,us 22,us 23,us 24,us 25,us 26] := ⟨fun i => tm.getD i undef,arr_fn hsz⟩
  have h0 : us 0 = .slice A n cA := e0
  have h1 : us 1 = .slice B n cB := e1
  have h5 : us 5 = .int .i64 (k : Nat) := e5
  have hdf2 : dfs = [] := hdf
  subst hdf2
  clear hdf hsz e0 e1 e5
  simp only [h0,h1,h5]
  clear h0 h1 h5
  clear hP
  have hP := hide hPr
  have hfm' := hide hfm
  clear hPr hfm
  by_cases hlt : k < n
  ·have hil : (k : Int) < (n : Int) := by omega
   have hk2 := hide hlt
   have hkb : (k : Int) ≤ 4096 := by have := unhide hl'; omega
   have hkL : k < l.length := by rw [← unhide hn']; exact hlt
   obtain ⟨ba,oa,rfl,hb7,hcs⟩ := SlAt.set (unhide hA') hkL
   obtain ⟨bb,ob,rfl,hg⟩ := (unhide hB').get (by rw [List.length_map]; omega)
   obtain ⟨ak,ck,hck,hsk⟩ := hg k (by rw [List.length_map]; exact hkL)
   rw [List.getElem_map] at hck hsk
   obtain ⟨c,hc⟩ : ∃ c,c = l[k] := ⟨_,rfl⟩
   rw [← hc] at hcs hck hsk
   obtain ⟨m,hm⟩ : ∃ m,m = (toL c).length := ⟨_,rfl⟩
   rw [← hm] at hck
   have hm' := hide hm
   have hmb := hide (show m ≤ 4096 by rw [hm]; exact Nat.le_trans (toL_len_le _) (by omega))
   have hcs' := hide (fun W (hW : Ext w W) => hcs [] W (hW.keep []) (by simp))
   have hck' := hide (fun W (hW : Ext w W) => hck [] W (hW.keep []) (by simp))
   have hsk' := hide hsk
   have heq := hide (eq_from c)
   clear hcs hck hsk hc hm hg hb7 hk hlt
   try dsimp only
   repeat ((fail_if_success (with_reducible refine wp_reg (id := 4) ?_)); (first | go_values | go_skip | go_step | go_guarded | go_upon | go_in | go_back | fail))
   with_reducible refine wp_reg (id := 4) ?_
   iterate 4
    refine wpO_want rfl ?_
    go_simp
   refine wpO_done ?_
   try go_frame
   go_wp2_with fail
   have c0 := fun W (hW : Keep [] wr W) => unhide hck' W ((unhide hP).extf.trans hW.ext)
   have hself := Keep.refl [] wr
   refine wp_regionK (P := Tryz.prog) [] [0,1,2,3,4,5,6,7,8,9] [] 0 #[true,true,true,true,true,true,true,true,true,true] (by kernel_rfl) (by kernel_rfl) rfl (by rfl) ?_
   iterate 3
    refine ql_want (v := ?_) rfl (by rfl) (fun W hW => ?_) ?_
    rotate_left
    ·go_simp
     first | done | rfl
    go_frame
   refine ql_want (v := .agg (setC c)) rfl (by rfl) (fun W hW => qUpon_ofX (load_SetR rfl rfl (unhide hcs' W ((unhide hP).extf.trans hW.ext)))) ?_
   go_frame
   iterate 4
    refine ql_want (v := ?_) rfl (by rfl) (fun W hW => ?_) ?_
    rotate_left
    ·go_simp
     first | done | rfl
    go_frame
   refine ql_want (v := .agg (setC (fromS (toL c)))) rfl (by rfl) (fun W hW => ?_) ?_
   ·go_simp
    refine (from01_n ak (toL c) m ck W ((unhide hsk').ext ((unhide hP).extf.trans hW.ext)) (unhide hm') (unhide hmb)).mono ?_
    rintro _ _ ⟨h1,h2⟩
    exact ⟨_,h1,rfl,h2⟩
   go_frame
   refine ql_want (v := .bool (!true)) rfl (by rfl) (fun W hW => qUpon_ofX (by rw [run_neq_Set (N := c) (M := fromS (toL c)) rfl (by rfl) (by rfl),unhide heq])) ?_
   go_frame
   simp only [Bool.not_true]
   try go_frame
   refine wpQL_nil (fun y1 hxq => ?_)
   replace hP : Hid (Sp w [] w [] [] [] y1) := hide ((unhide hP).ext hxq)
   clear hxq
   refine wpX_done (by kernel_rfl) ?_
   try go_frame
   clear c0 hself
   go_wp2_with fail
   have h1 := unhide hk2
   refine ⟨n - (k + 1), ?_,by have := unhide hfm'; omega⟩
   rw [unhide hI0_2]
   exact ⟨k + 1,(by first | rfl | trivial),(by first | rfl | trivial),(by first | rfl | trivial),(by first | rfl | (show _ = Value.int _ _; go_num) | go_num),(by first | rfl | trivial),by omega,unhide hP,rfl⟩
  ·have hil : ¬ (k : Int) < (n : Int) := by omega
   try dsimp only
   repeat ((fail_if_success (with_reducible refine wp_reg (id := 4) ?_)); (first | go_values | go_skip | go_step | go_guarded | go_upon | go_in | go_back | fail))
   with_reducible refine wp_reg (id := 4) ?_
   iterate 4
    refine wpO_want rfl ?_
    go_simp
   refine wpO_done ?_
   try go_frame
   go_wp2_with fail
   refine Sp.leaves0 ?_
   exact ⟨_,results_tmp (t := 4) rfl _ _ _,rfl,(unhide hP).extf⟩
end Go.Proofs.YtmfkkkhddigkfaaGreatDoor
