/- Parts of a proof, laid together. Each part says its own conditions. -/
import Derived.Test.YtoacpebmhbkmbaaGreatDoorT32
import Derived.Test.YtoacpebmhbkmbaaGreatDoorT35
namespace Go.Proofs.YtoacpebmhbkmbaaGreatDoor
open Go Go.RowKit Go.Shelf
attribute [local go_sem] qUpon lUpon
attribute [local irreducible] wpO wpX wpQL
def nbG (nb : List (List Bool)) (i k : Nat) : Bool := (nb.getD i []).getD k false
structure PAt (W : World) (Ai At An : Option Addr) (n : Nat) (ids : List Int) (th : List Bool) (nb : List (List Bool)) (hs : List Sl) : Prop where
 le : n ≤ 4096
 li : ids.length = n
 lt : th.length = n
 lh : hs.length = n
 ai : SlAt encI 1 W Ai ids
 at_ : SlAt encB 1 W At th
 an : SlAt encSl 1 W An hs
 row : ∀ i,i < n → ∃ b o c,hs[i]? = some (some ⟨b,o,none⟩,n,c) ∧ ∀ k,k < n → ∀ W',Ext W W' → W'.cell? ⟨b,o + k,none⟩ = some (.bool (nbG nb i k))
section
variable {W W' : World} {Ai At An : Option Addr} {n : Nat} {ids : List Int} {th : List Bool} {nb : List (List Bool)} {hs : List Sl}
theorem PAt.ext (h : PAt W Ai At An n ids th nb hs) (hx : Ext W W') : PAt W' Ai At An n ids th nb hs :=
 ⟨h.le,h.li,h.lt,h.lh,h.ai.ext hx,h.at_.ext hx,h.an.ext hx,fun i hi => by
  obtain ⟨b,o,c,h1,h2⟩ := h.row i hi
  exact ⟨b,o,c,h1,fun k hk W2 h3 => h2 k hk W2 (hx.trans h3)⟩⟩
theorem PAt.thc (h : PAt W Ai At An n ids th nb hs) {k : Nat} (hk : k < n) : ∃ b off,At = some ⟨b,off,none⟩ ∧ ∀ W',Ext W W' → W'.cell? ⟨b,off + k,none⟩ = some (.bool (th.getD k false)) := by
 have hl : k < th.length := by rw [h.lt]; exact hk
 obtain ⟨b,off,hA,hc⟩ := h.at_.at_ hl
 refine ⟨b,off,hA,fun W2 h2 => ?_⟩
 have := hc 0 (.bool th[k]) rfl W2 h2
 rw [show off + k * 1 + 0 = off + k by omega] at this
 rw [this,List.getD_eq_getElem?_getD,List.getElem?_eq_getElem hl]
 rfl
theorem PAt.nbc (h : PAt W Ai At An n ids th nb hs) {i : Nat} (hi : i < n) : ∃ b off b2 o2 c2,An = some ⟨b,off,none⟩ ∧ (∀ W',Ext W W' → W'.cell? ⟨b,off + i,none⟩ = some (.slice (some ⟨b2,o2,none⟩) n c2)) ∧ ∀ k,k < n → ∀ W',Ext W W' → W'.cell? ⟨b2,o2 + k,none⟩ = some (.bool (nbG nb i k)) := by
 have hl : i < hs.length := by rw [h.lh]; exact hi
 obtain ⟨b2,o2,c2,h1,h2⟩ := h.row i hi
 rw [List.getElem?_eq_getElem hl] at h1
 have h1 := Option.some.inj h1
 obtain ⟨b,off,hA,hc⟩ := h.an.at_ hl
 refine ⟨b,off,b2,o2,c2,hA,fun W2 h3 => ?_,h2⟩
 have := hc 0 (.slice hs[i].1 hs[i].2.1 hs[i].2.2) rfl W2 h3
 rw [show off + i * 1 + 0 = off + i by omega] at this
 rw [this,h1]
end
def cntB (f : Nat → Bool) (k : Nat) : Nat := ((List.range k).filter f).length
theorem cntB_succ (f : Nat → Bool) (k : Nat) : cntB f (k + 1) = cntB f k + (if f k = true then 1 else 0) := by
 unfold cntB
 rw [List.range_succ,List.filter_append,List.length_append]
 by_cases h : f k = true <;> simp [h]
theorem cntB_yes {f : Nat → Bool} {k : Nat} (h : f k = true) : cntB f (k + 1) = cntB f k + 1 := by rw [cntB_succ,if_pos h]
theorem cntB_no {f : Nat → Bool} {k : Nat} (h : f k = false) : cntB f (k + 1) = cntB f k := by rw [cntB_succ,h]; rfl
theorem cntB_le (f : Nat → Bool) (k : Nat) : cntB f k ≤ k := by
 unfold cntB
 exact Nat.le_trans (List.length_filter_le _ _) (by rw [List.length_range]; exact Nat.le_refl _)
def degF (th : List Bool) (nb : List (List Bool)) (i : Nat) (k : Nat) : Bool := th.getD k false && nbG nb i k
def degB (th : List Bool) (nb : List (List Bool)) (n i : Nat) : Nat := cntB (degF th nb i) n
set_option maxRecDepth 100000 in
set_option maxHeartbeats 16000000 in
theorem degree22_any (Ai At An : Option Addr) (n ci ct cn : Nat) (ids : List Int) (th : List Bool) (nb : List (List Bool)) (hs : List Sl) (i : Nat) (w : World) (hp : PAt w Ai At An n ids th nb hs) (hi : i < n) :
  Calls Tryz.prog 63 #[.agg #[.slice Ai n ci, .slice At n ct, .slice An n cn], .int .i64 i] w fun e w' => e = .returned (.int .i64 (degB th nb n i : Nat)) ∧ Ext w w' := by
 have hp' := hide hp
 have hi' := hide hi
 have hnb := hide hp.le
 clear hp hi
 have hP := hide (Sp.new w)
 refine callsIn_wide.1 (callsIn_of_wp_marks (n := 0) Tryz.func63 rfl trivial (wpIn_wide.2 ?_))
 simp only [Tryz.ntmps63,List.size_toArray,List.length_cons,List.length_nil,Nat.reduceAdd,Nat.reduceSub,Array.replicate_succ,Array.replicate_zero,List.push_toArray,List.append_toArray,List.nil_append,List.cons_append]
 try dsimp only
 repeat ((fail_if_success (with_reducible refine wp_reg (id := 0) ?_)); (first | go_values | go_skip | go_step | go_guarded | go_upon | go_in | go_back | fail))
 with_reducible refine wp_reg (id := 0) ?_
 refine (unhide hP).allocO 109 #[.slice Ai n ci, .slice At n ct, .slice An n cn] rfl (run_box (v := .agg #[.slice Ai n ci, .slice At n ct, .slice An n cn]) rfl rfl) ?_
 intro r2 y1 hQ
 replace hP : Hid (Sp w [] w [] [(r2,109, #[.slice Ai n ci, .slice At n ct, .slice An n cn])] [] y1) := hide hQ
 clear hQ
 refine wpO_want rfl ?_
 go_simp
 refine wpO_done ?_
 try go_frame
 go_wp2_with fail
 obtain ⟨I1_2,hI1_20⟩ : ∃ I : Nat → Act → World → Prop,I = fun fi a' wr => ∃ (k : Nat), ∃ (z : Nat),a'.tmps.size = 32 ∧ a'.tmps.getD 1 undef = .int .i64 (i : Nat) ∧ a'.tmps.getD 2 undef = .pointer (some ⟨r2,0,none⟩) ∧ a'.tmps.getD 5 undef = .int .i64 (z : Nat) ∧ a'.tmps.getD 6 undef = .int .i64 (k : Nat) ∧ a'.defers = [] ∧ k ≤ n ∧ z = cntB (degF th nb i) k ∧ Sp w [] w [] [(r2,109, #[.slice Ai n ci, .slice At n ct, .slice An n cn])] [] wr ∧ fi = n - k := ⟨_,rfl⟩
 have hI1_2 := hide hI1_20
 clear hI1_20
 refine wp_loop_ix I1_2 (n - 0) ?_ ?_
 ·rw [unhide hI1_2]; exact ⟨0,0,rfl,rfl,rfl,rfl,rfl,rfl,Nat.zero_le _,rfl,unhide hP,rfl⟩
 ·rintro fi ⟨tm,dfs⟩ wr hrel
  rw [unhide hI1_2] at hrel
  obtain ⟨k,z,hsz,e1,e2,e5,e6,hdf,hkn,hz,hPr,hfm⟩ := hrel
  obtain ⟨us,rfl⟩ : ∃ us : Nat → Value,tm = #[us 0,us 1,us 2,us 3,us 4,us 5,us 6,us 7,us 8,us 9,us 10,us 11,us 12,us 13,us 14,us 15,us 16,us 17,us 18,us 19,us 20,us 21,us 22,us 23,us 24,us 25,us 26,us 27,us 28,us 29,us 30,us 31] := ⟨fun i => tm.getD i undef,arr_fn hsz⟩
  have h1 : us 1 = .int .i64 (i : Nat) := e1
  have h2 : us 2 = .pointer (some ⟨r2,0,none⟩) := e2
  have h5 : us 5 = .int .i64 (z : Nat) := e5
  have h6 : us 6 = .int .i64 (k : Nat) := e6
  have hdf2 : dfs = [] := hdf
  subst hdf2
  clear hdf hsz e1 e2 e5 e6
  simp only [h1,h2,h5,h6]
  clear h1 h2 h5 h6
  clear hP
  have hP := hide hPr
  have hfm' := hide hfm
  have hz' := hide hz
  clear hPr hfm hz
  by_cases hlt : k < n
  ·have hil : (k : Int) < (n : Int) := by omega
   have hk2 := hide hlt
   have hkb : (k : Int) ≤ 4096 := by have := unhide hnb; omega
   have hzb : (z : Int) ≤ 4096 := by have := unhide hz'; have := cntB_le (degF th nb i) k; omega
   have hii : (i : Int) < (n : Int) := by have := unhide hi'; omega
   have hpw := (unhide hp').ext (unhide hP).extf
   obtain ⟨bt,ot,rfl,c0⟩ := hpw.thc hlt
   obtain ⟨bn,on,br,or',cr,rfl,c1,c2⟩ := hpw.nbc (unhide hi')
   have c2 := c2 k hlt
   obtain ⟨x,hx⟩ : ∃ x,x = th.getD k false := ⟨_,rfl⟩
   obtain ⟨y,hy⟩ : ∃ y,y = nbG nb i k := ⟨_,rfl⟩
   have hxy := hide (show degF th nb i k = (x && y) by rw [hx,hy]; rfl)
   rw [← hx] at c0
   rw [← hy] at c2
   clear hlt hkn hx hy hpw
   have q0 := (unhide hP).cell 0 0 (v := .slice Ai n ci) rfl rfl
   have q1 := (unhide hP).cell 0 1 (v := .slice (some ⟨bt,ot,none⟩) n ct) rfl rfl
   have q2 := (unhide hP).cell 0 2 (v := .slice (some ⟨bn,on,none⟩) n cn) rfl rfl
   have hself := Ext.refl wr
   try dsimp only
   repeat ((fail_if_success (with_reducible refine wp_reg (id := 3) ?_)); (first | go_values | go_skip | go_step | go_guarded | go_upon | go_in | go_back | fail))
   with_reducible refine wp_reg (id := 3) ?_
   iterate 5
    refine wpO_want rfl ?_
    go_simp
   refine wpO_done ?_
   try go_frame
   cases x
   ·skip
    try dsimp only
    repeat ((fail_if_success (with_reducible refine wp_reg (id := 5) ?_)); (first | go_values | go_skip | go_step | go_guarded | go_upon | go_in | go_back | fail))
    with_reducible refine wp_reg (id := 5) ?_
    iterate 6
     refine wpO_want rfl ?_
     go_simp
    refine wpO_out (by rfl) ?_
    go_frame
    refine wpO_out (by rfl) ?_
    go_frame
    refine wpO_out (by rfl) ?_
    go_frame
    refine wpO_out (by rfl) ?_
    go_frame
    refine wpO_out (by rfl) ?_
    go_frame
    refine wpO_out (by rfl) ?_
    go_frame
    refine wpO_out (by rfl) ?_
    go_frame
    refine wpO_out (by rfl) ?_
    go_frame
    refine wpO_want rfl ?_
    go_simp
    refine wpO_done ?_
    try go_frame
    clear q0 q1 q2 c0 c1 c2 hself
    have hw1 : IntKind.i64.wrap ((k : Int) + 1) = (k : Int) + 1 := IntWalk.i64_in _ (by omega)
    have hzn := hide (show z = cntB (degF th nb i) (k + 1) by rw [cntB_no (by rw [unhide hxy]; rfl),unhide hz'])
    go_wp2_with fail
    have h3 := unhide hk2
    refine ⟨n - (k + 1), ?_,by have := unhide hfm'; omega⟩
    rw [unhide hI1_2]
    exact ⟨k + 1,z,(by first | rfl | trivial),(by first | rfl | trivial),(by first | rfl | trivial),(by first | rfl | (show _ = Value.int _ _; go_num) | go_num),(by first | rfl | (show _ = Value.int _ _; go_num) | go_num),(by first | rfl | trivial),by omega,unhide hzn,unhide hP,rfl⟩
   ·skip
    cases y
    ·skip
     try dsimp only
     repeat ((fail_if_success (with_reducible refine wp_reg (id := 5) ?_)); (first | go_values | go_skip | go_step | go_guarded | go_upon | go_in | go_back | fail))
     with_reducible refine wp_reg (id := 5) ?_
     iterate 15
      refine wpO_want rfl ?_
      go_simp
     refine wpO_done ?_
     try go_frame
     clear q0 q1 q2 c0 c1 c2 hself
     have hw1 : IntKind.i64.wrap ((k : Int) + 1) = (k : Int) + 1 := IntWalk.i64_in _ (by omega)
     have hzn := hide (show z = cntB (degF th nb i) (k + 1) by rw [cntB_no (by rw [unhide hxy]; rfl),unhide hz'])
     go_wp2_with fail
     have h3 := unhide hk2
     refine ⟨n - (k + 1), ?_,by have := unhide hfm'; omega⟩
     rw [unhide hI1_2]
     exact ⟨k + 1,z,(by first | rfl | trivial),(by first | rfl | trivial),(by first | rfl | trivial),(by first | rfl | (show _ = Value.int _ _; go_num) | go_num),(by first | rfl | (show _ = Value.int _ _; go_num) | go_num),(by first | rfl | trivial),by omega,unhide hzn,unhide hP,rfl⟩
    ·skip
     try dsimp only
     repeat ((fail_if_success (with_reducible refine wp_reg (id := 5) ?_)); (first | go_values | go_skip | go_step | go_guarded | go_upon | go_in | go_back | fail))
     with_reducible refine wp_reg (id := 5) ?_
     iterate 15
      refine wpO_want rfl ?_
      go_simp
     refine wpO_done ?_
     try go_frame
     clear q0 q1 q2 c0 c1 c2 hself
     have hw1 : IntKind.i64.wrap ((k : Int) + 1) = (k : Int) + 1 := IntWalk.i64_in _ (by omega)
     have hw2 : IntKind.i64.wrap ((z : Int) + 1) = (z : Int) + 1 := IntWalk.i64_in _ (by omega)
     have hzn := hide (show z + 1 = cntB (degF th nb i) (k + 1) by rw [cntB_yes (by rw [unhide hxy]; rfl),unhide hz'])
     go_wp2_with fail
     have h3 := unhide hk2
     refine ⟨n - (k + 1), ?_,by have := unhide hfm'; omega⟩
     rw [unhide hI1_2]
     exact ⟨k + 1,z + 1,(by first | rfl | trivial),(by first | rfl | trivial),(by first | rfl | trivial),(by first | rfl | (show _ = Value.int _ _; go_num) | go_num),(by first | rfl | (show _ = Value.int _ _; go_num) | go_num),(by first | rfl | trivial),by omega,unhide hzn,unhide hP,rfl⟩
  ·have hil : ¬ (k : Int) < (n : Int) := by omega
   obtain rfl : n = k := by omega
   clear hlt hkn hfm'
   have q0 := (unhide hP).cell 0 0 (v := .slice Ai n ci) rfl rfl
   have q1 := (unhide hP).cell 0 1 (v := .slice At n ct) rfl rfl
   have q2 := (unhide hP).cell 0 2 (v := .slice An n cn) rfl rfl
   have hself := Ext.refl wr
   try dsimp only
   repeat ((fail_if_success (with_reducible refine wp_reg (id := 3) ?_)); (first | go_values | go_skip | go_step | go_guarded | go_upon | go_in | go_back | fail))
   with_reducible refine wp_reg (id := 3) ?_
   iterate 5
    refine wpO_want rfl ?_
    go_simp
   refine wpO_done ?_
   try go_frame
   clear q0 q1 q2 hself
   go_wp2_with fail
   refine Sp.leaves0 ?_
   exact ⟨_,results_tmp (t := 4) rfl _ _ _,by rw [unhide hz']; rfl,(unhide hP).extf⟩
end Go.Proofs.YtoacpebmhbkmbaaGreatDoor
namespace Go.Proofs.YtoacpebmhbkmbaaGreatDoor
open Go Go.RowKit Go.Shelf
attribute [local irreducible] wpO wpX wpQL
theorem run_store_ownE {α : Type} {enc : α → List Value} {f : α → Value} (he : ∀ x,enc x = [f x]) (hcl : ∀ x,(f x).cells = #[f x]) (h1c : ∀ x,(f x).oneCell' = true) {P : Program} {ρ : Operand → Value} {o : Oper} {t : TypeId} {p x : Operand} {w : World} {base T cap n b i : Nat} {xs : List α} (y : α) (ho : o.op = .store t p x) (hp : ρ p = .pointer (some ⟨b,i,none⟩)) (hx : ρ x = f y) (hs : (sizeOf t).run P w = .ok 1 w)
  (hown : w.ownsRow base T 1 (.slice (some ⟨b,0,none⟩) n cap) n (xs.flatMap enc)) (hi : i < xs.length) :
  ∃ cs,(execOp ρ o).run P w = .ok .skip (w.setRow b cs) ∧ (w.setRow b cs).ownsRow base T 1 (.slice (some ⟨b,0,none⟩) n cap) n ((xs.set i y).flatMap enc) ∧ w.grownBy (w.setRow b cs) (some b) := by
 obtain ⟨hlen,h | ⟨g,cap',cur,hv,hb,hg,hn,hm,hsz,htk⟩⟩ := hown
 ·cases h.1
 ·injection hv with hv1 _ hv2
  injection hv1 with hv1
  injection hv1 with hv1 _
  subst hv1
  subst hv2
  have hfl : (xs.flatMap enc).length = xs.length := by rw [flat1 he,List.length_map]
  have hic : i < cur.size := by omega
  have hst := run_storeCells_at (P := P) b i T [f y] 0 cur w hg (by simp; omega) (fun v hv => by simp at hv; subst hv; exact h1c y)
  rw [Nat.add_zero] at hst
  refine ⟨(cur.toList.take i ++ [f y] ++ cur.toList.drop (i + 1)).toArray, ?_, ?_, ?_⟩
  ·unfold execOp
   simp only [ho,hp,hx]
   simp only [List.length_cons,List.length_nil,Nat.zero_add] at hst
   simp [Instr.storeAt,Instr.sureAddr,storeVar,hs,hst,hcl,Result.andThen]
  ·have he2 : cur.toList.take i ++ [f y] ++ cur.toList.drop (i + 1) = cur.toList.set i (f y) := by
    rw [List.set_eq_take_append_cons_drop,if_pos (by simpa using hic)]
    simp
   rw [he2]
   have hf2 : ((xs.set i y).flatMap enc) = (xs.flatMap enc).set i (f y) := by rw [flat1 he,flat1 he,List.map_set]
   refine ⟨by rw [hf2,List.length_set]; exact hlen, .inr ⟨b,cap,_,rfl,hb,Blk.row (w := w) (b := b) (t := T) (cs := cur) hg _,hn,hm,by simpa using hsz, ?_⟩⟩
   rw [hf2, ← htk,List.toList_toArray,List.take_set]
  ·exact ⟨rfl,rfl,rfl,by simp [World.setRow],fun k _ hne => setRow_other w b k _ (fun e => hne (by rw [e]))⟩
theorem run_store_fld {P : Program} {ρ : Operand → Value} {o : Oper} {t : TypeId} {p x : Operand} {w : World} {b i : Nat} {cs cs' : Array Value} {v : Value} {t0 : TypeId} (ho : o.op = .store t p x) (hp : ρ p = .pointer (some ⟨b,i,none⟩)) (hx : ρ x = v) (hcl : v.cells = #[v]) (h1 : v.oneCell' = true) (hs : (sizeOf t).run P w = .ok 1 w) (hb : Blk w b t0 cs) (hi : i < cs.size) (hc : cs.setIfInBounds i v = cs') : (execOp ρ o).run P w = .ok .skip (w.setRow b cs') := by
 have hst := run_storeCells_at (P := P) b i t0 [v] 0 cs w hb (by simp; omega) (fun u hu => by simp at hu; subst hu; exact h1)
 rw [Nat.add_zero] at hst
 have he : (cs.toList.take i ++ [v] ++ cs.toList.drop (i + 1)).toArray = cs' := by
  rw [← hc]
  have : cs.toList.take i ++ [v] ++ cs.toList.drop (i + 1) = cs.toList.set i v := by
   rw [List.set_eq_take_append_cons_drop,if_pos (by simpa using hi)]
   simp
  rw [this]
  apply Array.ext'
  simp
 simp only [List.length_cons,List.length_nil,Nat.zero_add] at hst
 rw [he] at hst
 unfold execOp
 simp only [ho,hp,hx]
 simp [Instr.storeAt,Instr.sureAddr,storeVar,hs,hst,hcl,Result.andThen]
def nearM (n : Nat) (bs : List Nat) (nb : List (List Bool)) : List Rw := List.zipWith (fun b r => (4,1,Value.slice (some ⟨b,0,none⟩) n n,n,r.flatMap encB)) bs nb
def hdrP (n b : Nat) : Sl := (some ⟨b,0,none⟩,n,n)
theorem nearM_get {n : Nat} {bs : List Nat} {nb : List (List Bool)} {i b : Nat} {r : List Bool} (hb : bs[i]? = some b) (hr : nb[i]? = some r) : (nearM n bs nb)[i]? = some (4,1,Value.slice (some ⟨b,0,none⟩) n n,n,r.flatMap encB) := by
 unfold nearM
 rw [List.getElem?_zipWith,hb,hr]
theorem nearM_snoc {n : Nat} {bs : List Nat} {nb : List (List Bool)} (h : bs.length = nb.length) (b : Nat) (r : List Bool) : nearM n bs nb ++ [(4,1,Value.slice (some ⟨b,0,none⟩) n n,n,r.flatMap encB)] = nearM n (bs ++ [b]) (nb ++ [r]) := by
 unfold nearM
 rw [List.zipWith_append h]
 rfl
theorem nearM_set {n : Nat} {bs : List Nat} {nb : List (List Bool)} {i b : Nat} (hb : bs[i]? = some b) (r : List Bool) : (nearM n bs nb).set i (4,1,Value.slice (some ⟨b,0,none⟩) n n,n,r.flatMap encB) = nearM n bs (nb.set i r) := by
 unfold nearM
 refine List.ext_getElem? fun j => ?_
 rw [List.getElem?_set,List.getElem?_zipWith,List.getElem?_zipWith,List.length_zipWith,List.getElem?_set]
 by_cases hij : i = j
 ·subst hij
  rw [if_pos rfl,if_pos rfl,hb]
  have hl := (List.getElem?_eq_some_iff.1 hb).1
  by_cases hn : i < nb.length
  ·rw [if_pos (by omega),if_pos hn]
  ·rw [if_neg (by omega),if_neg hn]
 ·rw [if_neg hij,if_neg hij]
def putN (nb : List (List Bool)) (i k : Nat) (v : Bool) : List (List Bool) := nb.set i ((nb.getD i []).set k v)
theorem getD_set {α : Type} (l : List α) (i j : Nat) (v d : α) (hi : i < l.length) : (l.set i v).getD j d = if j = i then v else l.getD j d := by
 rw [List.getD_eq_getElem?_getD,List.getElem?_set,List.getD_eq_getElem?_getD]
 by_cases h : i = j
 ·subst h; rw [if_pos rfl,if_pos hi,if_pos rfl]; rfl
 ·rw [if_neg h,if_neg (fun e => h e.symm)]
theorem nbG_put {nb : List (List Bool)} {i k : Nat} (v : Bool) (hi : i < nb.length) (hk : k < (nb.getD i []).length) (a b : Nat) : nbG (putN nb i k v) a b = if a = i ∧ b = k then v else nbG nb a b := by
 unfold nbG putN
 rw [getD_set _ _ _ _ _ hi]
 by_cases ha : a = i
 ·subst ha
  rw [if_pos rfl,getD_set _ _ _ _ _ hk]
  by_cases hb : b = k
  ·rw [if_pos hb,if_pos ⟨rfl,hb⟩]
  ·rw [if_neg hb,if_neg (fun h => hb h.2)]
 ·rw [if_neg ha,if_neg (fun h => ha h.1)]
theorem rowIn {wf w W : World} {T0 : List Nat} {ds : List Deferred} {L : List Cl} {Rs : List Rw} (_h : Sp wf T0 w ds L Rs W) (i : Nat) {T k n : Nat} {v : Value} {xs : List Value} (hi : Rs[i]? = some (T,k,v,n,xs)) (hk : k ≠ 0 := by decide) : ∀ z ∈ v.ownBlock.toList,z ∈ stT L Rs := fun z hz => List.mem_append.2 (.inr (mem_rwT.2 ⟨_,List.mem_of_getElem? hi,by rw [rwB_slice hk]; simpa using hz⟩))
structure Sqr (n : Nat) (bs : List Nat) (nb : List (List Bool)) : Prop where
 lb : bs.length = n
 ln : nb.length = n
 row : ∀ i,i < n → (nb.getD i []).length = n
theorem Sqr.put {n : Nat} {bs : List Nat} {nb : List (List Bool)} (h : Sqr n bs nb) (i k : Nat) (v : Bool) : Sqr n bs (putN nb i k v) := by
 refine ⟨h.lb,by unfold putN; rw [List.length_set]; exact h.ln,fun j hj => ?_⟩
 by_cases hi : i < nb.length
 ·unfold putN
  rw [getD_set _ _ _ _ _ hi]
  by_cases hji : j = i
  ·rw [if_pos hji,List.length_set, ← hji]; exact h.row j hj
  ·rw [if_neg hji]; exact h.row j hj
 ·unfold putN
  rw [List.set_eq_of_length_le (by omega)]
  exact h.row j hj
section
variable {wf w W : World} {T0 : List Nat} {ds : List Deferred} {L : List Cl} {bs : List Nat} {nb : List (List Bool)} {n ct ci cn : Nat} {At Ai An : Option Addr} {th : List Bool} {ids : List Int}
theorem Sp.pat (h : Sp wf T0 w ds L ((4,1, .slice At n ct,n,th.flatMap encB) :: (3,1, .slice Ai n ci,n,ids.flatMap encI) :: (106,1, .slice An n cn,n,(bs.map (hdrP n)).flatMap encSl) :: nearM n bs nb) W) (hn : n ≤ 4096) (hi : ids.length = n) (ht : th.length = n) (hq : Sqr n bs nb) : PAt W Ai At An n ids th nb (bs.map (hdrP n)) := by
 have h0 := h.row 0 rfl
 have h1 := h.row 1 rfl
 have h2 := h.row 2 rfl
 refine ⟨hn,hi,ht,by rw [List.length_map]; exact hq.lb,own_at (enc := encI) (by rw [hi]; exact h1) (fun _ => rfl),own_at (enc := encB) (by rw [ht]; exact h0) (fun _ => rfl),own_at (enc := encSl) (by rw [List.length_map,hq.lb]; exact h2) (fun _ => rfl),fun i hin => ?_⟩
 have hb : i < bs.length := by rw [hq.lb]; exact hin
 have hr : i < nb.length := by rw [hq.ln]; exact hin
 have h3 := h.row (3 + i) (T := 4) (k := 1) (v := .slice (some ⟨bs[i],0,none⟩) n n) (n := n) (xs := nb[i].flatMap encB) (by
  rw [show 3 + i = i + 1 + 1 + 1 by omega,List.getElem?_cons_succ,List.getElem?_cons_succ,List.getElem?_cons_succ]
  exact nearM_get (List.getElem?_eq_getElem hb) (List.getElem?_eq_getElem hr))
 have hrl : nb[i].length = n := by
  have := hq.row i hin
  rw [List.getD_eq_getElem?_getD,List.getElem?_eq_getElem hr] at this
  exact this
 have h4 : SlAt encB 1 W (some ⟨bs[i],0,none⟩) nb[i] := own_at (enc := encB) (c := n) (by rw [hrl]; exact h3) (fun _ => rfl)
 refine ⟨bs[i],0,n,by rw [List.getElem?_map,List.getElem?_eq_getElem hb]; rfl,fun k hk W2 hW => ?_⟩
 have hkl : k < nb[i].length := by rw [hrl]; exact hk
 obtain ⟨b',off',e,hc⟩ := h4.at_ hkl
 injection e with e
 injection e with e1 e2
 subst e1
 subst e2
 have := hc 0 (.bool nb[i][k]) rfl W2 hW
 rw [show 0 + k * 1 + 0 = 0 + k by omega] at this
 rw [this]
 unfold nbG
 rw [List.getD_eq_getElem?_getD,List.getD_eq_getElem?_getD,List.getElem?_eq_getElem hr,Option.getD_some,List.getElem?_eq_getElem hkl]
 rfl
variable {P : Program} {l : List Oper} {K : Act → World → Prop} {r : List Oper} {o : Oper} {a : Act}
theorem Sp.putO {α : Type} {enc : α → List Value} {f : α → Value} {Rs : List Rw} (he : ∀ x,enc x = [f x]) (hcl : ∀ x,(f x).cells = #[f x]) (h1c : ∀ x,(f x).oneCell' = true) (h : Sp wf T0 w ds L Rs W) (i : Nat) {T k b cap : Nat} {xs : List α} (y : α) (hi : Rs[i]? = some (T,1, .slice (some ⟨b,0,none⟩) k cap,k,xs.flatMap enc)) (hw : Region.wanted o (yielded l.toArray a.tmps) = true)
  {t : TypeId} {p x : Operand} {q : Nat} (ho : o.op = .store t p x) (hp : a.eval p = .pointer (some ⟨b,q,none⟩)) (hx : a.eval x = f y) (hz : (sizeOf t).run P W = .ok 1 W) (hq : q < xs.length)
  (hk : ∀ W',Sp wf T0 w ds L (Rs.set i (T,1, .slice (some ⟨b,0,none⟩) k cap,k,(xs.set q y).flatMap enc)) W' → wpO P l K r (a.put o.dst undef) W') : wpO P l K (o :: r) a W := by
 obtain ⟨cs,h1,h2,h3⟩ := run_store_ownE (P := P) he hcl h1c y ho hp hx hz (h.row i hi) hq
 exact wpO_skip hw h1 (hk _ (h.push i (by decide) hi (Ext.refl W) h2 h3 (.inl rfl)))
theorem Sp.putNear {r0 r1 r2 : Rw} (h : Sp wf T0 w ds L (r0 :: r1 :: r2 :: nearM n bs nb) W) (hq : Sqr n bs nb) {i k : Nat} (hi : i < n) (hk : k < n) (y : Bool) (hw : Region.wanted o (yielded l.toArray a.tmps) = true)
  {t : TypeId} {p x : Operand} (ho : o.op = .store t p x) (hp : ∀ b,bs[i]? = some b → a.eval p = .pointer (some ⟨b,k,none⟩)) (hx : a.eval x = .bool y) (hz : (sizeOf t).run P W = .ok 1 W)
  (hk2 : ∀ W',Sp wf T0 w ds L (r0 :: r1 :: r2 :: nearM n bs (putN nb i k y)) W' → wpO P l K r (a.put o.dst undef) W') : wpO P l K (o :: r) a W := by
 have hb : i < bs.length := by rw [hq.lb]; exact hi
 have hr : i < nb.length := by rw [hq.ln]; exact hi
 have hrow : nb.getD i [] = nb[i] := by rw [List.getD_eq_getElem?_getD,List.getElem?_eq_getElem hr]; rfl
 have hrl : nb[i].length = n := by rw [← hrow]; exact hq.row i hi
 refine h.putO (f := fun q => .bool q) (enc := encB) (fun _ => rfl) (fun _ => rfl) (fun _ => rfl) (3 + i) (b := bs[i]) (T := 4) (k := n) (cap := n) (xs := nb[i]) y (by
  rw [show 3 + i = i + 1 + 1 + 1 by omega,List.getElem?_cons_succ,List.getElem?_cons_succ,List.getElem?_cons_succ]
  exact nearM_get (List.getElem?_eq_getElem hb) (List.getElem?_eq_getElem hr)) hw ho (hp _ (List.getElem?_eq_getElem hb)) hx hz (by rw [hrl]; exact hk) fun W' hW' => hk2 W' ?_
 rw [show 3 + i = i + 1 + 1 + 1 by omega,List.set_cons_succ,List.set_cons_succ,List.set_cons_succ,nearM_set (List.getElem?_eq_getElem hb)] at hW'
 unfold putN
 rw [hrow]
 exact hW'
end
end Go.Proofs.YtoacpebmhbkmbaaGreatDoor
