/- Parts of a proof, laid together. Each part says its own conditions. -/
import Derived.Test.YtmokciekndllpaaGreatDoorC10
import Derived.Laws.BitsAll
import Derived.Test.YtmokciekndllpaaGreatDoorC9
namespace Go.Proofs.YtmokciekndllpaaGreatDoor
open Go Go.RowKit
attribute [local go_sem] qUpon lUpon
def setC (N : Nat) : Array Value := #[.int .u64 (wd N 0), .int .u64 (wd N 1), .int .u64 (wd N 2), .int .u64 (wd N 3), .int .u64 (wd N 4), .int .u64 (wd N 5), .int .u64 (wd N 6), .int .u64 (wd N 7), .int .u64 (wd N 8), .int .u64 (wd N 9), .int .u64 (wd N 10), .int .u64 (wd N 11), .int .u64 (wd N 12), .int .u64 (wd N 13), .int .u64 (wd N 14), .int .u64 (wd N 15)]
theorem setC_size (N : Nat) : (setC N).size = 16 := rfl
theorem setC_get (N : Nat) {i : Nat} (h : i < 16) : (setC N)[i]? = some (.int .u64 (wd N i)) := by
 have : i = 0 ∨ i = 1 ∨ i = 2 ∨ i = 3 ∨ i = 4 ∨ i = 5 ∨ i = 6 ∨ i = 7 ∨ i = 8 ∨ i = 9 ∨ i = 10 ∨ i = 11 ∨ i = 12 ∨ i = 13 ∨ i = 14 ∨ i = 15 := by omega
 rcases this with rfl | rfl | rfl | rfl | rfl | rfl | rfl | rfl | rfl | rfl | rfl | rfl | rfl | rfl | rfl | rfl <;> rfl
def fitB (n : Int) : Bool := decide (0 ≤ n) && decide (n < 1024)
theorem fits_any (n : Int) (w : World) :
  Calls Tryz.prog 110 #[.int .i64 n] w fun e w' => e = .returned (.bool (fitB n)) ∧ Ext w w' := by
 go_enter Tryz.func110,Tryz.ntmps110
 unfold fitB
 by_cases h : 0 ≤ n
 ·by_cases h2 : n < 1024
  ·go_wp2_with fail
   go_ret
   simp [h2,Ext.refl] <;> omega
  ·go_wp2_with fail
   go_ret
   simp [Ext.refl] <;> omega
 ·go_wp2_with fail
  go_ret
  simp [Ext.refl] <;> omega
def bitW (n : Nat) : Int := ((2 ^ (n % 64) : Nat) : Int)
theorem bitW_ne (n : Nat) : (bitW n == 0) = false := by
 have : 0 < 2 ^ (n % 64) := Nat.pow_pos (by decide)
 rw [beq_eq_false_iff_ne]
 unfold bitW
 omega
theorem bit_any (n : Nat) (hn : n < 1024) (w : World) :
  Calls Tryz.prog 111 #[.int .i64 n] w fun e w' => e = .returned (.int .u64 (bitW n)) ∧ Ext w w' := by
 have h1 : ((n : Nat) : Int).tmod 64 = ((n % 64 : Nat) : Int) := by
  rw [Int.tmod_eq_emod_of_nonneg (by omega)]
  omega
 have h2 : IntKind.u64.wrap (2 ^ (n % 64)) = ((2 ^ (n % 64) : Nat) : Int) := by
  rw [IntKind.wrap_u64]
  have h3 : 2 ^ (n % 64) < 2 ^ 64 := Nat.pow_lt_pow_right (by omega) (by omega)
  have e : ((2 : Int) ^ (n % 64)) = ((2 ^ (n % 64) : Nat) : Int) := by simp
  rw [e]
  generalize 2 ^ (n % 64) = m at h3
  omega
 go_enter Tryz.func111,Tryz.ntmps111
 go_wp2_with fail
 go_ret
 refine ⟨?_,Ext.refl _⟩
 show Ending.returned (Value.int .u64 (IntKind.u64.wrap (2 ^ (n % 64)))) = _
 rw [h2]
 rfl
theorem cell_of {w : World} {b : Nat} {N n : Nat} (h : Blk w b 25 (setC N)) (hn : n < 1024) : ∀ W,Ext w W → W.cell? ⟨b,n / 64,none⟩ = some (.int .u64 (wd N (n / 64))) := h.cells (n / 64) (setC_get N (by omega))
theorem idx_facts {k : Nat} (hk : k < 1024) : ((k : Nat) : Int).tdiv 64 = (k : Int) / 64 ∧ IntKind.i64.wrap ((k : Int) / 64) = (k : Int) / 64 ∧ 0 ≤ (k : Int) / 64 ∧ (k : Int) / 64 < 16 ∧ ((k : Int) / 64).toNat = k / 64 := by
 refine ⟨Int.tdiv_eq_ediv_of_nonneg (by omega), ?_,by omega,by omega,by omega⟩
 rw [IntWalk.i64_in _ (by omega)]
set_option maxRecDepth 100000 in
theorem has_any (N : Nat) (n : Int) (w : World) :
  Calls Tryz.prog 174 #[.agg (setC N), .int .i64 n] w fun e w' => e = .returned (.bool (fitB n && N.testBit n.toNat)) ∧ Ext w w' := by
 have hB := Blk.new w 25 (setC N)
 by_cases hf : fitB n = true
 ·obtain ⟨k,rfl⟩ : ∃ k : Nat,n = k := ⟨n.toNat,by simp [fitB] at hf; omega⟩
  have hk : k < 1024 := by simp [fitB] at hf; omega
  have c0 := cell_of hB hk
  obtain ⟨h1,hw,h6,h7,h8⟩ := idx_facts hk
  have h2 : bits .and .u64 (wd N (k / 64)) (bitW k) = if N.testBit k then bitW k else 0 := by
   unfold wd bitW
   have h3 : 2 ^ (k % 64) < 2 ^ 64 := Nat.pow_lt_pow_right (by omega) (by omega)
   rw [u64_and_nat _ _ (wdN_lt _ _) h3,wdN_has]
   split <;> rfl
  have h9 := bitW_ne k
  have h5 : fitB (k : Int) = true := hf
  clear hB hf
  go_enter Tryz.func174,Tryz.ntmps174
  go_wp2_with fail
  have hx1 := hide (ext_self1 w (.cells (setC N) 25))
  generalize w.alloc (.cells (setC N) 25) = W1 at *
  generalize w.heap.size = b0 at *
  have hb2 : (fitB (k : Int) && N.testBit ((k : Int)).toNat) = N.testBit k := by rw [h5,Bool.true_and,Int.toNat_natCast]
  have hb2' := hide hb2
  clear hb2
  rcases hb : N.testBit k
  ·rw [hb] at h2
   rw [if_neg (by decide)] at h2
   refine wp_region_ext (P := Tryz.prog) [0,1,2,3,4,5,6,7,8,9,10,11,12] [] 0 #[true,true,true,true,true,true,true,true,true,true,true,true,true] (by kernel_rfl) (by kernel_rfl) rfl (by rfl) ?_
   iterate 13
    refine ql_want (v := ?_) rfl (by rfl) (fun W hW => ?_) ?_
    rotate_left
    ·go_simp
     first | done | rfl | ((go_at_call 110; refine (fits_any _ _).mono ?_; rw [h5]; rintro _ _ ⟨h1,h2⟩; refine ⟨_,h1, ?_,h2⟩; rfl)) | ((go_at_call 111; refine (bit_any k hk _).mono ?_; rintro _ _ ⟨h1,h2⟩; refine ⟨_,h1, ?_,h2⟩; rfl))
    go_frame
   refine wpQL_nil (fun w2 hx2 => ?_)
   refine wpX_done (by kernel_rfl) ?_
   try go_frame
   go_wp2_with fail
   go_ret
   exact ⟨by rw [unhide hb2',hb]; first | rfl | (show Ending.returned (Value.bool (!(bitW k == 0))) = _; rw [h9]; rfl),(unhide hx1).trans hx2⟩
  ·rw [hb] at h2
   rw [if_pos rfl] at h2
   refine wp_region_ext (P := Tryz.prog) [0,1,2,3,4,5,6,7,8,9,10,11,12] [] 0 #[true,true,true,true,true,true,true,true,true,true,true,true,true] (by kernel_rfl) (by kernel_rfl) rfl (by rfl) ?_
   iterate 13
    refine ql_want (v := ?_) rfl (by rfl) (fun W hW => ?_) ?_
    rotate_left
    ·go_simp
     first | done | rfl | ((go_at_call 110; refine (fits_any _ _).mono ?_; rw [h5]; rintro _ _ ⟨h1,h2⟩; refine ⟨_,h1, ?_,h2⟩; rfl)) | ((go_at_call 111; refine (bit_any k hk _).mono ?_; rintro _ _ ⟨h1,h2⟩; refine ⟨_,h1, ?_,h2⟩; rfl))
    go_frame
   refine wpQL_nil (fun w2 hx2 => ?_)
   refine wpX_done (by kernel_rfl) ?_
   try go_frame
   go_wp2_with fail
   go_ret
   exact ⟨by rw [unhide hb2',hb]; first | rfl | (show Ending.returned (Value.bool (!(bitW k == 0))) = _; rw [h9]; rfl),(unhide hx1).trans hx2⟩
 ·have h5 : fitB n = false := by simpa using hf
  have hb2 : (fitB n && N.testBit n.toNat) = false := by rw [h5,Bool.false_and]
  have hb2' := hide hb2
  clear hb2 hB hf
  go_enter Tryz.func174,Tryz.ntmps174
  go_wp2_with fail
  have hx1 := hide (ext_self1 w (.cells (setC N) 25))
  generalize w.alloc (.cells (setC N) 25) = W1 at *
  generalize w.heap.size = b0 at *
  refine wp_region_ext (P := Tryz.prog) [0,1,2,3,4,5,6,7,8,9,10,11,12] [] 0 #[true,true,true,true,true,true,true,true,true,true,true,true,true] (by kernel_rfl) (by kernel_rfl) rfl (by rfl) ?_
  iterate 3
   refine ql_want (v := ?_) rfl (by rfl) (fun W hW => ?_) ?_
   rotate_left
   ·go_simp
    first | done | rfl | ((go_at_call 110; refine (fits_any _ _).mono ?_; rw [h5]; rintro _ _ ⟨h1,h2⟩; refine ⟨_,h1, ?_,h2⟩; rfl))
   go_frame
  iterate 8
   refine ql_skip rfl (by rfl) ?_
   go_frame
  iterate 2
   refine ql_want (v := ?_) rfl (by rfl) (fun W hW => ?_) ?_
   rotate_left
   ·go_simp
    first | done | rfl
   go_frame
  refine wpQL_nil (fun w2 hx2 => ?_)
  refine wpX_done (by kernel_rfl) ?_
  try go_frame
  go_wp2_with fail
  go_ret
  exact ⟨by rw [unhide hb2']; rfl,(unhide hx1).trans hx2⟩
end Go.Proofs.YtmokciekndllpaaGreatDoor
namespace Go.Proofs.YtmokciekndllpaaGreatDoor
open Go Go.RowKit
set_option maxRecDepth 100000 in
set_option maxHeartbeats 4000000 in
theorem do_1 (A B : Option Addr) (V : List (Int × Thing)) (E : List ((Int × Int) × Thing)) (cV cE : Nat) (u v lab wt : Int) (w : World) (hV : SlAt encV 3 w A V) (hE : SlAt encE 4 w B E) (hl : V.length ≤ 4096) (hle : E.length ≤ 4096) (h0 : wrongR 1 u v wt V E = 0) :
  Calls Tryz.prog 108 #[.agg #[.slice A V.length cV, .slice B E.length cE], .agg #[.int .i64 1, .int .i64 u, .int .i64 v, .int .u8 lab, .int .i64 wt]] w fun e w' => ∃ A' cV' B' cE',e = .returned (.tuple #[.agg #[.slice A' (V.flatMap (fV 1 u lab wt)).length cV', .slice B' (E.zipIdx.flatMap (fE 1 u lab wt (posD 1 u v E))).length cE'], .int .i64 0]) ∧
   SlAt encV 3 w' A' (V.flatMap (fV 1 u lab wt)) ∧ SlAt encE 4 w' B' (E.zipIdx.flatMap (fE 1 u lab wt (posD 1 u v E))) ∧ Ext w w' := by
 generalize hpos : posD 1 u v E = pos
 have hpos' := hide hpos
 clear hpos
 have hV' := hide hV
 have hE' := hide hE
 have h0' := hide h0
 clear hV hE h0
 obtain ⟨hb2,hb3,hb4⟩ := blk3 w #[.slice A V.length cV, .slice B E.length cE] #[.int .i64 1, .int .i64 u, .int .i64 v, .int .u8 lab, .int .i64 wt] #[.slice none 0 0, .slice none 0 0] 30 160 30
 have d0 := hb2.cells 0 (v := .slice A V.length cV) rfl
 have d1 := hb2.cells 1 (v := .slice B E.length cE) rfl
 have hq3 := EditAt.of' hb3
 obtain ⟨e0,e1,e2,e3,e4⟩ := hq3
 have hb2' := hide hb2
 have hb3' := hide hb3
 have hb4' := hide hb4
 clear hb2 hb3 hb4
 go_enter Tryz.func108,Tryz.ntmps108
 go_wp2_with (go_at_call 155; refine (wrongR_1 A B V E cV cE u v lab wt _ ((unhide hV').ext (ext_self3 _ _ _ _)) ((unhide hE').ext (ext_self3 _ _ _ _)) hl).mono ?_; rw [unhide h0']; rintro e w2 ⟨rfl,hx2⟩; have hx2' := hide hx2)
 refine wp_abs (fun W => Ext w W ∧ w.heap.size + 1 + 1 < w2.heap.size ∧ W.heap.size = w2.heap.size + 1 ∧ Blk W w.heap.size 30 #[.slice A V.length cV, .slice B E.length cE] ∧ Blk W (w.heap.size + 1) 160 #[.int .i64 1, .int .i64 u, .int .i64 v, .int .u8 lab, .int .i64 wt] ∧
  Blk W (w.heap.size + 1 + 1) 30 #[.slice none 0 0, .slice none 0 0] ∧ Blk W w2.heap.size 30 #[.slice none 0 0, .slice none 0 0]) ?_ ?_
 ·have hq : Ext w2 (w2.alloc (.cells #[.slice none 0 0, .slice none 0 0] 30)) := ext_self1 _ _
  have hq2 := (unhide hx2').trans hq
  exact ⟨(ext_self3 _ _ _ _).trans hq2,by have := (unhide hx2').size; simp at this; omega,by simp,(unhide hb2').ext hq2,(unhide hb3').ext hq2,(unhide hb4').ext hq2,Blk.new _ _ _⟩
 clear d0 d1 e0 e1 e2 e3 e4 hx2 hx2' hb2' hb3' hb4'
 rintro wI ⟨hxI,hn2,hsI,hb2,hb3,hb4,hb7⟩
 generalize hn : w.heap.size = n at *
 generalize hm : w2.heap.size = b7 at *
 go_loopw [8] (fun i wr => ∃ (k : Nat) (o : List (Int × Thing)) (vs : Value),k ≤ V.length ∧ i = .int .i64 k ∧ (V.take k).flatMap (fV 1 u lab wt) = o ∧
  Keep [b7] wI wr ∧ Blk wr b7 30 #[vs, .slice none 0 0] ∧ wr.ownsRow wI.heap.size 141 3 vs o.length (o.flatMap encV)) (fun i _ => V.length - (intOf i).toNat)
 case atStart => exact ⟨0,[],_,Nat.zero_le _,rfl,rfl,Keep.refl _ _,hb7,World.ownsRow_nil _ _ _ _⟩
 case round =>
  obtain ⟨k,o,vs,hk,rfl,hfold,hkeep,hbk,hown⟩ := hrel
  have hkeep' := hide hkeep
  have hbk' := hide hbk
  have hown' := hide hown
  have hol' := hide (show o.length ≤ 5000 by rw [← hfold]; have := flat_le (fV_len 1 u lab wt) (V.take k); rw [List.length_take] at this; omega)
  have hsz' := hide (show wI.heap.size ≤ wr.heap.size from hkeep.size)
  have hnI' := hide (show b7 < wI.heap.size by omega)
  have hxr : Ext w wr := hxI.of_new hkeep (by simp <;> omega)
  have hq2 := hb2.keep hkeep (by simp <;> omega)
  have hq3 := hb3.keep hkeep (by simp <;> omega)
  have hq4' := hide (hb4.keep hkeep (by simp <;> omega))
  have d0 := hq2.cells 0 (v := .slice A V.length cV) rfl
  have d1 := hq2.cells 1 (v := .slice B E.length cE) rfl
  have hq2' := hide hq2
  have hq3' := hide hq3
  obtain ⟨e0,e1,e2,e3,e4⟩ := EditAt.of' hq3
  have r0 := hbk.cells 0 (v := vs) rfl
  have hhI := hide hxI
  have hsI' := hide hsI
  clear hkeep hbk hown hb2 hb3 hb4 hb7 hq2 hq3 hxI hsI
  by_cases hlt : k < V.length
  ·obtain ⟨b,off,rfl,c1,c2,c3⟩ := atV ((unhide hV').ext hxr) hlt
   have st := flat_take hlt hfold
   generalize hy : V[k] = y at c1 c2 c3 st
   obtain ⟨a,⟨l,t⟩⟩ := y
   clear hy hfold
   have st' := hide st
   clear st
   simp only at c1 c2 c3
   by_cases hc : a = u
   ·subst hc
    go_wp2
    go_roundw
    case rel => exact ⟨k + 1,o,vs,by omega,by go_num,by rw [unhide st']; simp [fV],(unhide hkeep').trans ((ext_self1 _ _).keep _),(unhide hbk').ext (ext_self1 _ _),own_ext (unhide hown') (ext_self1 _ _)⟩
    case measure => simp [intOf]; omega
   ·have hc' := hide hc
    go_wp2_with (at_builtin; refine wp_rV (wr.alloc (.cells #[.int .i64 a, .int .u8 l, .int .i64 t] 141)) rfl _ _ rfl wI.heap.size vs o.length o (a,(l,t)) rfl (wr.heap.size + 1) _ (by rfl) (by simp) (by rfl) (by rfl) (own_ext (unhide hown') (ext_self1 _ _)) (Nat.le_trans (unhide hol') (by omega)) (Nat.le_trans (unhide hsz') (Below.size (ext_self1 _ _))) ?_; intro A1 k1 w4 ho4 hg4; obtain ⟨W5,hW5,f1,f2,hk5,hb5,ho5,_,_⟩ := fld_step (i := 0) (unhide hkeep') (unhide hnI') (unhide hbk') (unhide hown') (ext_self2 wr _ _) ho4 hg4 (by simp); have hk5' := hide hk5; have hb5' := hide hb5; have ho5' := hide ho5; clear hk5 hb5 ho5 ho4 hg4)
    go_roundw
    case rel => exact ⟨k + 1,o ++ [(a,(l,t))], .slice A1 (o.length + 1) k1,by omega,by go_num,by rw [unhide st']; simp [fV,unhide hc'],unhide hk5',unhide hb5',by have := unhide ho5'; simpa using this⟩
    case measure => simp [intOf]; omega
  ·have hkE : k = V.length := by omega
   rw [hkE,List.take_length] at hfold
   have hfoldV := hide hfold
   clear hfold
   obtain ⟨As,ks,rfl⟩ := own_slice (unhide hown')
   rename List (Int × Thing) => oV
   rename World => wV
   go_wp2_with (first
    | (go_at_call 158; refine (pair_any _ _ _ _ _ _).mono ?_; rw [show pairsB 1 = false by decide]; rintro e w5 ⟨rfl,hx5⟩; have hx5' := hide hx5)
    | (go_at_call 119; refine (redge_any A B E V.length cV cE u v _ ((unhide hE').ext (hxr.trans hx5)) hle).mono ?_; rintro e w6 ⟨rfl,hx6⟩; have hx6' := hide hx6))
   have hxJ : Ext wV w5 := unhide hx5'
   skip
   skip
   clear hx5 hx5'
   have hxwJ' := hide (hxr.trans hxJ)
   have hbJ' := hide ((unhide hbk').ext hxJ)
   have hoJ' := hide (own_ext (unhide hown') hxJ)
   have hq2J' := hide ((unhide hq2').ext hxJ)
   have hq3J' := hide ((unhide hq3').ext hxJ)
   have hq4J' := hide ((unhide hq4').ext hxJ)
   have hbz' := hide (show wI.heap.size ≤ w5.heap.size by have := unhide hsz'; have := hxJ.size; omega)
   have hnJ' := hide (show b7 < w5.heap.size by have := unhide hbz'; have := unhide hnI'; omega)
   have hwIs := unhide hsI'
   clear d0 d1 e0 e1 e2 e3 e4 r0 hxr hxJ hkeep' hbk' hown' hq2' hq3' hq4' hol' hsz'
   go_loopw [11] (fun i wr => ∃ (k : Nat) (o : List ((Int × Int) × Thing)) (vs : Value),k ≤ E.length ∧ i = .int .i64 k ∧ (E.zipIdx.take k).flatMap (fE 1 u lab wt pos) = o ∧
    Keep [b7] w5 wr ∧ Blk wr b7 30 #[.slice As oV.length ks,vs] ∧ wr.ownsRow w5.heap.size 142 4 vs o.length (o.flatMap encE)) (fun i _ => E.length - (intOf i).toNat)
   case atStart => exact ⟨0,[],_,Nat.zero_le _,rfl,rfl,Keep.refl _ _,unhide hbJ',World.ownsRow_nil _ _ _ _⟩
   case round =>
    obtain ⟨k,o,vs,hk,rfl,hfold,hkeep,hbk,hown⟩ := hrel
    have hkeep' := hide hkeep
    have hbk' := hide hbk
    have hown' := hide hown
    have hol' := hide (show o.length ≤ 5000 by rw [← hfold]; have := flat_le (fE_len 1 u lab wt pos) (E.zipIdx.take k); rw [List.length_take,List.length_zipIdx] at this; omega)
    have hsz' := hide (show w5.heap.size ≤ wr.heap.size from hkeep.size)
    have hxr : Ext w wr := (unhide hxwJ').of_new hkeep (by simp <;> omega)
    have hq2 := (unhide hq2J').keep hkeep (by simp <;> omega)
    have hq3 := (unhide hq3J').keep hkeep (by simp <;> omega)
    have hq4' := hide ((unhide hq4J').keep hkeep (by simp <;> omega))
    have d1 := hq2.cells 1 (v := .slice B E.length cE) rfl
    obtain ⟨e0,e1,e2,e3,e4⟩ := EditAt.of' hq3
    have r0 := hbk.cells 0 (v := .slice As oV.length ks) rfl
    have r1 := hbk.cells 1 (v := vs) rfl
    clear hkeep hbk hown hq2 hq3
    by_cases hlt : k < E.length
    ·obtain ⟨b,off,rfl,c1,c2,c3,c4⟩ := atE ((unhide hE').ext hxr) hlt
     have st := flat_take (l := E.zipIdx) (by simpa using hlt) hfold
     rw [List.getElem_zipIdx,Nat.zero_add] at st
     generalize hy : E[k] = y at c1 c2 c3 c4 st
     obtain ⟨⟨a,b0⟩,⟨l,t⟩⟩ := y
     clear hy hfold
     have st' := hide st
     clear st
     simp only at c1 c2 c3 c4
     by_cases hc1 : a = u
     ·subst hc1
      go_wp2
      go_roundw
      case rel => exact ⟨k + 1,o,vs,by omega,by go_num,by rw [unhide st']; simp [fE],(unhide hkeep').trans ((ext_self1 _ _).keep _),(unhide hbk').ext (ext_self1 _ _),own_ext (unhide hown') (ext_self1 _ _)⟩
      case measure => simp [intOf]; omega
     ·by_cases hc2 : b0 = u
      ·subst hc2
       go_wp2
       go_roundw
       case rel => exact ⟨k + 1,o,vs,by omega,by go_num,by rw [unhide st']; simp [fE],(unhide hkeep').trans ((ext_self1 _ _).keep _),(unhide hbk').ext (ext_self1 _ _),own_ext (unhide hown') (ext_self1 _ _)⟩
       case measure => simp [intOf]; omega
      ·have hc' := hide (show ¬ (a = u ∨ b0 = u) by omega)
       go_wp2_with (at_builtin; refine wp_rE (wr.alloc (.cells #[.int .i64 a, .int .i64 b0, .int .u8 l, .int .i64 t] 142)) rfl _ _ rfl w5.heap.size vs o.length o ((a,b0),(l,t)) rfl (wr.heap.size + 1) _ (by rfl) (by simp) (by rfl) (by rfl) (own_ext (unhide hown') (ext_self1 _ _)) (Nat.le_trans (unhide hol') (by omega)) (Nat.le_trans (unhide hsz') (Below.size (ext_self1 _ _))) ?_; intro A1 k1 w4 ho4 hg4; obtain ⟨W5,hW5,f1,f2,hk5,hb5,ho5,_,_⟩ := fld_step (i := 1) (unhide hkeep') (unhide hnJ') (unhide hbk') (unhide hown') (ext_self2 wr _ _) ho4 hg4 (by simp); have hk5' := hide hk5; have hb5' := hide hb5; have ho5' := hide ho5; clear hk5 hb5 ho5 ho4 hg4)
       any_goals (exfalso; simp_all; done)
       go_roundw
       case rel => exact ⟨k + 1,o ++ [((a,b0),(l,t))], .slice A1 (o.length + 1) k1,by omega,by go_num,by rw [unhide st']; simp [fE,unhide hc'],unhide hk5',unhide hb5',by have := unhide ho5'; simpa using this⟩
       case measure => simp [intOf]; omega
    ·have hkE : k = E.length := by omega
     rw [hkE,List.take_of_length_le (by simp)] at hfold
     obtain ⟨A2,k2,rfl⟩ := own_slice (unhide hown')
     have s0 := (unhide hq4').cell 0
     have s1 := (unhide hq4').cell 1
     have s2 := (unhide hq4').frozen 0
     have s3 := (unhide hq4').frozen 1
     simp at s0 s1
     have hfold' := hide hfold
     clear hfold
     go_wp2
     refine bodyPost_ret (ret_cell2 rfl rfl (load_G2 wr (n + 1 + 1) _ _ _ _ s0 s1)) rfl ?_
     have hbz := unhide hbz'
     have hoV := own_keep (unhide hoJ') (unhide hkeep') (fun g hg e => by
      have h1 : g = b7 := by simpa using hg
      subst h1
      have := (own_base (unhide hoJ') e).1
      omega)
     obtain ⟨q1,q2⟩ := fin_row hxr (b4 := n + 1 + 1) (by omega) hoV (by omega) (.slice As oV.length ks) (.slice A2 o.length k2)
     obtain ⟨q3,q4⟩ := fin_row hxr (b4 := n + 1 + 1) (by omega) (unhide hown') (by omega) (.slice As oV.length ks) (.slice A2 o.length k2)
     obtain ⟨A5,c5,he5,hs5⟩ := SlAt.of_own (enc := encV) (xs := oV) q2 (fun _ => rfl)
     obtain ⟨A6,c6,he6,hs6⟩ := SlAt.of_own (enc := encE) (xs := o) q4 (fun _ => rfl)
     simp only [Value.slice.injEq] at he5 he6
     obtain ⟨rfl,_,rfl⟩ := he5
     obtain ⟨rfl,_,rfl⟩ := he6
     rw [unhide hfoldV,unhide hfold']
     exact ⟨As,ks,A2,k2,rfl,hs5,hs6,q1⟩
end Go.Proofs.YtmokciekndllpaaGreatDoor
namespace Go.Proofs.YtmokciekndllpaaGreatDoor
open Go Go.RowKit
set_option maxRecDepth 100000 in
set_option maxHeartbeats 4000000 in
theorem do_3 (A B : Option Addr) (V : List (Int × Thing)) (E : List ((Int × Int) × Thing)) (cV cE : Nat) (u v lab wt : Int) (w : World) (hV : SlAt encV 3 w A V) (hE : SlAt encE 4 w B E) (hl : V.length ≤ 4096) (hle : E.length ≤ 4096) (h0 : wrongR 3 u v wt V E = 0) :
  Calls Tryz.prog 108 #[.agg #[.slice A V.length cV, .slice B E.length cE], .agg #[.int .i64 3, .int .i64 u, .int .i64 v, .int .u8 lab, .int .i64 wt]] w fun e w' => ∃ A' cV' B' cE',e = .returned (.tuple #[.agg #[.slice A' (V.flatMap (fV 3 u lab wt)).length cV', .slice B' (E.zipIdx.flatMap (fE 3 u lab wt (posD 3 u v E))).length cE'], .int .i64 0]) ∧
   SlAt encV 3 w' A' (V.flatMap (fV 3 u lab wt)) ∧ SlAt encE 4 w' B' (E.zipIdx.flatMap (fE 3 u lab wt (posD 3 u v E))) ∧ Ext w w' := by
 generalize hpos : posD 3 u v E = pos
 have hpos' := hide hpos
 clear hpos
 have hV' := hide hV
 have hE' := hide hE
 have h0' := hide h0
 clear hV hE h0
 obtain ⟨hb2,hb3,hb4⟩ := blk3 w #[.slice A V.length cV, .slice B E.length cE] #[.int .i64 3, .int .i64 u, .int .i64 v, .int .u8 lab, .int .i64 wt] #[.slice none 0 0, .slice none 0 0] 30 160 30
 have d0 := hb2.cells 0 (v := .slice A V.length cV) rfl
 have d1 := hb2.cells 1 (v := .slice B E.length cE) rfl
 have hq3 := EditAt.of' hb3
 obtain ⟨e0,e1,e2,e3,e4⟩ := hq3
 have hb2' := hide hb2
 have hb3' := hide hb3
 have hb4' := hide hb4
 clear hb2 hb3 hb4
 go_enter Tryz.func108,Tryz.ntmps108
 go_wp2_with (go_at_call 155; refine (wrongR_3 A B V E cV cE u v lab wt _ ((unhide hV').ext (ext_self3 _ _ _ _)) ((unhide hE').ext (ext_self3 _ _ _ _)) hl hle).mono ?_; rw [unhide h0']; rintro e w2 ⟨rfl,hx2⟩; have hx2' := hide hx2)
 refine wp_abs (fun W => Ext w W ∧ w.heap.size + 1 + 1 < w2.heap.size ∧ W.heap.size = w2.heap.size + 1 ∧ Blk W w.heap.size 30 #[.slice A V.length cV, .slice B E.length cE] ∧ Blk W (w.heap.size + 1) 160 #[.int .i64 3, .int .i64 u, .int .i64 v, .int .u8 lab, .int .i64 wt] ∧
  Blk W (w.heap.size + 1 + 1) 30 #[.slice none 0 0, .slice none 0 0] ∧ Blk W w2.heap.size 30 #[.slice none 0 0, .slice none 0 0]) ?_ ?_
 ·have hq : Ext w2 (w2.alloc (.cells #[.slice none 0 0, .slice none 0 0] 30)) := ext_self1 _ _
  have hq2 := (unhide hx2').trans hq
  exact ⟨(ext_self3 _ _ _ _).trans hq2,by have := (unhide hx2').size; simp at this; omega,by simp,(unhide hb2').ext hq2,(unhide hb3').ext hq2,(unhide hb4').ext hq2,Blk.new _ _ _⟩
 clear d0 d1 e0 e1 e2 e3 e4 hx2 hx2' hb2' hb3' hb4'
 rintro wI ⟨hxI,hn2,hsI,hb2,hb3,hb4,hb7⟩
 generalize hn : w.heap.size = n at *
 generalize hm : w2.heap.size = b7 at *
 go_loopw [8] (fun i wr => ∃ (k : Nat) (o : List (Int × Thing)) (vs : Value),k ≤ V.length ∧ i = .int .i64 k ∧ (V.take k).flatMap (fV 3 u lab wt) = o ∧
  Keep [b7] wI wr ∧ Blk wr b7 30 #[vs, .slice none 0 0] ∧ wr.ownsRow wI.heap.size 141 3 vs o.length (o.flatMap encV)) (fun i _ => V.length - (intOf i).toNat)
 case atStart => exact ⟨0,[],_,Nat.zero_le _,rfl,rfl,Keep.refl _ _,hb7,World.ownsRow_nil _ _ _ _⟩
 case round =>
  obtain ⟨k,o,vs,hk,rfl,hfold,hkeep,hbk,hown⟩ := hrel
  have hkeep' := hide hkeep
  have hbk' := hide hbk
  have hown' := hide hown
  have hol' := hide (show o.length ≤ 5000 by rw [← hfold]; have := flat_le (fV_len 3 u lab wt) (V.take k); rw [List.length_take] at this; omega)
  have hsz' := hide (show wI.heap.size ≤ wr.heap.size from hkeep.size)
  have hnI' := hide (show b7 < wI.heap.size by omega)
  have hxr : Ext w wr := hxI.of_new hkeep (by simp <;> omega)
  have hq2 := hb2.keep hkeep (by simp <;> omega)
  have hq3 := hb3.keep hkeep (by simp <;> omega)
  have hq4' := hide (hb4.keep hkeep (by simp <;> omega))
  have d0 := hq2.cells 0 (v := .slice A V.length cV) rfl
  have d1 := hq2.cells 1 (v := .slice B E.length cE) rfl
  have hq2' := hide hq2
  have hq3' := hide hq3
  obtain ⟨e0,e1,e2,e3,e4⟩ := EditAt.of' hq3
  have r0 := hbk.cells 0 (v := vs) rfl
  have hhI := hide hxI
  have hsI' := hide hsI
  clear hkeep hbk hown hb2 hb3 hb4 hb7 hq2 hq3 hxI hsI
  by_cases hlt : k < V.length
  ·obtain ⟨b,off,rfl,c1,c2,c3⟩ := atV ((unhide hV').ext hxr) hlt
   have st := flat_take hlt hfold
   generalize hy : V[k] = y at c1 c2 c3 st
   obtain ⟨a,⟨l,t⟩⟩ := y
   clear hy hfold
   have st' := hide st
   clear st
   simp only at c1 c2 c3
   by_cases hc : a = u
   ·subst hc
    go_wp2_with (at_builtin; refine wp_rV (wr.alloc (.cells #[.int .i64 a, .int .u8 l, .int .i64 t] 141)) rfl _ _ rfl wI.heap.size vs o.length o (a,(l,t)) rfl (wr.heap.size + 1) _ (by rfl) (by simp) (by rfl) (by rfl) (own_ext (unhide hown') (ext_self1 _ _)) (Nat.le_trans (unhide hol') (by omega)) (Nat.le_trans (unhide hsz') (Below.size (ext_self1 _ _))) ?_; intro A1 k1 w4 ho4 hg4; obtain ⟨W5,hW5,f1,f2,hk5,hb5,ho5,_,_⟩ := fld_step (i := 0) (unhide hkeep') (unhide hnI') (unhide hbk') (unhide hown') (ext_self2 wr _ _) ho4 hg4 (by simp); have hk5' := hide hk5; have hb5' := hide hb5; have ho5' := hide ho5; clear hk5 hb5 ho5 ho4 hg4)
    go_roundw
    case rel => exact ⟨k + 1,o ++ [(a,(l,t))], .slice A1 (o.length + 1) k1,by omega,by go_num,by rw [unhide st']; simp [fV],unhide hk5',unhide hb5',by have := unhide ho5'; simpa using this⟩
    case measure => simp [intOf]; omega
   ·have hc' := hide hc
    go_wp2_with (at_builtin; refine wp_rV (wr.alloc (.cells #[.int .i64 a, .int .u8 l, .int .i64 t] 141)) rfl _ _ rfl wI.heap.size vs o.length o (a,(l,t)) rfl (wr.heap.size + 1) _ (by rfl) (by simp) (by rfl) (by rfl) (own_ext (unhide hown') (ext_self1 _ _)) (Nat.le_trans (unhide hol') (by omega)) (Nat.le_trans (unhide hsz') (Below.size (ext_self1 _ _))) ?_; intro A1 k1 w4 ho4 hg4; obtain ⟨W5,hW5,f1,f2,hk5,hb5,ho5,_,_⟩ := fld_step (i := 0) (unhide hkeep') (unhide hnI') (unhide hbk') (unhide hown') (ext_self2 wr _ _) ho4 hg4 (by simp); have hk5' := hide hk5; have hb5' := hide hb5; have ho5' := hide ho5; clear hk5 hb5 ho5 ho4 hg4)
    go_roundw
    case rel => exact ⟨k + 1,o ++ [(a,(l,t))], .slice A1 (o.length + 1) k1,by omega,by go_num,by rw [unhide st']; simp [fV,unhide hc'],unhide hk5',unhide hb5',by have := unhide ho5'; simpa using this⟩
    case measure => simp [intOf]; omega
  ·have hkE : k = V.length := by omega
   rw [hkE,List.take_length] at hfold
   have hfoldV := hide hfold
   clear hfold
   obtain ⟨As,ks,rfl⟩ := own_slice (unhide hown')
   rename List (Int × Thing) => oV
   rename World => wV
   go_wp2_with (first
    | (go_at_call 158; refine (pair_any _ _ _ _ _ _).mono ?_; rw [show pairsB 3 = true by decide]; rintro e w5 ⟨rfl,hx5⟩; have hx5' := hide hx5)
    | (go_at_call 119; refine (redge_any A B E V.length cV cE u v _ ((unhide hE').ext (hxr.trans hx5)) hle).mono ?_; rintro e w6 ⟨rfl,hx6⟩; have hx6' := hide hx6))
   have hxJ : Ext wV w6 := (unhide hx5').trans (unhide hx6')
   have hpp : posI (isE u v) E = pos := by have := unhide hpos'; simpa [posD,pairsB] using this
   rw [hpp]
   clear hpp hx5 hx6 hx5' hx6'
   have hxwJ' := hide (hxr.trans hxJ)
   have hbJ' := hide ((unhide hbk').ext hxJ)
   have hoJ' := hide (own_ext (unhide hown') hxJ)
   have hq2J' := hide ((unhide hq2').ext hxJ)
   have hq3J' := hide ((unhide hq3').ext hxJ)
   have hq4J' := hide ((unhide hq4').ext hxJ)
   have hbz' := hide (show wI.heap.size ≤ w6.heap.size by have := unhide hsz'; have := hxJ.size; omega)
   have hnJ' := hide (show b7 < w6.heap.size by have := unhide hbz'; have := unhide hnI'; omega)
   have hwIs := unhide hsI'
   clear d0 d1 e0 e1 e2 e3 e4 r0 hxr hxJ hkeep' hbk' hown' hq2' hq3' hq4' hol' hsz'
   go_loopw [11] (fun i wr => ∃ (k : Nat) (o : List ((Int × Int) × Thing)) (vs : Value),k ≤ E.length ∧ i = .int .i64 k ∧ (E.zipIdx.take k).flatMap (fE 3 u lab wt pos) = o ∧
    Keep [b7] w6 wr ∧ Blk wr b7 30 #[.slice As oV.length ks,vs] ∧ wr.ownsRow w6.heap.size 142 4 vs o.length (o.flatMap encE)) (fun i _ => E.length - (intOf i).toNat)
   case atStart => exact ⟨0,[],_,Nat.zero_le _,rfl,rfl,Keep.refl _ _,unhide hbJ',World.ownsRow_nil _ _ _ _⟩
   case round =>
    obtain ⟨k,o,vs,hk,rfl,hfold,hkeep,hbk,hown⟩ := hrel
    have hkeep' := hide hkeep
    have hbk' := hide hbk
    have hown' := hide hown
    have hol' := hide (show o.length ≤ 5000 by rw [← hfold]; have := flat_le (fE_len 3 u lab wt pos) (E.zipIdx.take k); rw [List.length_take,List.length_zipIdx] at this; omega)
    have hsz' := hide (show w6.heap.size ≤ wr.heap.size from hkeep.size)
    have hxr : Ext w wr := (unhide hxwJ').of_new hkeep (by simp <;> omega)
    have hq2 := (unhide hq2J').keep hkeep (by simp <;> omega)
    have hq3 := (unhide hq3J').keep hkeep (by simp <;> omega)
    have hq4' := hide ((unhide hq4J').keep hkeep (by simp <;> omega))
    have d1 := hq2.cells 1 (v := .slice B E.length cE) rfl
    obtain ⟨e0,e1,e2,e3,e4⟩ := EditAt.of' hq3
    have r0 := hbk.cells 0 (v := .slice As oV.length ks) rfl
    have r1 := hbk.cells 1 (v := vs) rfl
    clear hkeep hbk hown hq2 hq3
    by_cases hlt : k < E.length
    ·obtain ⟨b,off,rfl,c1,c2,c3,c4⟩ := atE ((unhide hE').ext hxr) hlt
     have st := flat_take (l := E.zipIdx) (by simpa using hlt) hfold
     rw [List.getElem_zipIdx,Nat.zero_add] at st
     generalize hy : E[k] = y at c1 c2 c3 c4 st
     obtain ⟨⟨a,b0⟩,⟨l,t⟩⟩ := y
     clear hy hfold
     have st' := hide st
     clear st
     simp only at c1 c2 c3 c4
     by_cases hp : (k : Int) = pos
     ·subst hp
      go_wp2
      go_roundw
      case rel => exact ⟨k + 1,o,vs,by omega,by go_num,by rw [unhide st']; simp [fE],(unhide hkeep').trans ((ext_self1 _ _).keep _),(unhide hbk').ext (ext_self1 _ _),own_ext (unhide hown') (ext_self1 _ _)⟩
      case measure => simp [intOf]; omega
     ·have hc' := hide hp
      go_wp2_with (at_builtin; refine wp_rE (wr.alloc (.cells #[.int .i64 a, .int .i64 b0, .int .u8 l, .int .i64 t] 142)) rfl _ _ rfl w6.heap.size vs o.length o ((a,b0),(l,t)) rfl (wr.heap.size + 1) _ (by rfl) (by simp) (by rfl) (by rfl) (own_ext (unhide hown') (ext_self1 _ _)) (Nat.le_trans (unhide hol') (by omega)) (Nat.le_trans (unhide hsz') (Below.size (ext_self1 _ _))) ?_; intro A1 k1 w4 ho4 hg4; obtain ⟨W5,hW5,f1,f2,hk5,hb5,ho5,_,_⟩ := fld_step (i := 1) (unhide hkeep') (unhide hnJ') (unhide hbk') (unhide hown') (ext_self2 wr _ _) ho4 hg4 (by simp); have hk5' := hide hk5; have hb5' := hide hb5; have ho5' := hide ho5; clear hk5 hb5 ho5 ho4 hg4)
      go_roundw
      case rel => exact ⟨k + 1,o ++ [((a,b0),(l,t))], .slice A1 (o.length + 1) k1,by omega,by go_num,by rw [unhide st']; simp [fE,unhide hc'],unhide hk5',unhide hb5',by have := unhide ho5'; simpa using this⟩
      case measure => simp [intOf]; omega
    ·have hkE : k = E.length := by omega
     rw [hkE,List.take_of_length_le (by simp)] at hfold
     obtain ⟨A2,k2,rfl⟩ := own_slice (unhide hown')
     have s0 := (unhide hq4').cell 0
     have s1 := (unhide hq4').cell 1
     have s2 := (unhide hq4').frozen 0
     have s3 := (unhide hq4').frozen 1
     simp at s0 s1
     have hfold' := hide hfold
     clear hfold
     go_wp2
     refine bodyPost_ret (ret_cell2 rfl rfl (load_G2 wr (n + 1 + 1) _ _ _ _ s0 s1)) rfl ?_
     have hbz := unhide hbz'
     have hoV := own_keep (unhide hoJ') (unhide hkeep') (fun g hg e => by
      have h1 : g = b7 := by simpa using hg
      subst h1
      have := (own_base (unhide hoJ') e).1
      omega)
     obtain ⟨q1,q2⟩ := fin_row hxr (b4 := n + 1 + 1) (by omega) hoV (by omega) (.slice As oV.length ks) (.slice A2 o.length k2)
     obtain ⟨q3,q4⟩ := fin_row hxr (b4 := n + 1 + 1) (by omega) (unhide hown') (by omega) (.slice As oV.length ks) (.slice A2 o.length k2)
     obtain ⟨A5,c5,he5,hs5⟩ := SlAt.of_own (enc := encV) (xs := oV) q2 (fun _ => rfl)
     obtain ⟨A6,c6,he6,hs6⟩ := SlAt.of_own (enc := encE) (xs := o) q4 (fun _ => rfl)
     simp only [Value.slice.injEq] at he5 he6
     obtain ⟨rfl,_,rfl⟩ := he5
     obtain ⟨rfl,_,rfl⟩ := he6
     rw [unhide hfoldV,unhide hfold']
     exact ⟨As,ks,A2,k2,rfl,hs5,hs6,q1⟩
end Go.Proofs.YtmokciekndllpaaGreatDoor
