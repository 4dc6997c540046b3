/- Parts of a proof, laid together. Each part says its own conditions. -/
import Derived.Test.YtbpeemhfjgcnaaaGreatC27
namespace Go.Proofs.YtbpeemhfjgcnaaaGreat
open Go Go.RowKit Go.Shelf
attribute [local go_sem] qUpon lUpon
attribute [local irreducible] wpO wpX wpQL
theorem shl_small {i : Nat} (h : i ≤ 8) : IntKind.i64.wrap ((2 : Int) ^ i) = 2 ^ i := by
 have h1 : ((2 : Int) ^ i) = ((2 ^ i : Nat) : Int) := by simp
 have h2 : 2 ^ i ≤ 2 ^ 8 := Nat.pow_le_pow_right (by decide) h
 rw [h1,IntKind.wrap_i64]
 generalize 2 ^ i = m at *
 omega
theorem or1_nat {u i : Nat} (hu : u < 256) (h : i ≤ 8) : bits BinOp.or IntKind.i64 (u : Int) (2 ^ i) = ((u ||| 2 ^ i : Nat) : Int) := by
 have h1 : ((2 : Int) ^ i) = ((2 ^ i : Nat) : Int) := by simp
 have h2 : 2 ^ i ≤ 2 ^ 8 := Nat.pow_le_pow_right (by decide) h
 rw [h1,(bits_nat .i64 62 (by decide) (fun n h1 h2 => by rw [IntKind.wrap_i64]; omega) _ _ (Nat.lt_trans hu (by decide)) (Nat.lt_of_le_of_lt h2 (by decide))).2]
theorem lx_apR {ρ : Operand → Value} {o : Oper} {s x : Operand} {W : World} {K : Value → World → Prop} (ho : o.op = .call { callee := .builtin .append,args := #[s,x],argTypes := #[31,31] }) {base : Nat} {v : Value} {n : Nat} {xs : List Int} (e : Int) {g t : Nat} (hs : ρ s = v) (hx : ρ x = .slice (some ⟨g,0,none⟩) 1 1) (hg : Blk W g t #[.int .i64 e])
  (hown : W.ownsRow base 3 1 v n (xs.flatMap encI)) (hn : n = xs.length) (hl : n ≤ 100000) (hb : base ≤ W.heap.size)
  (hk : ∀ A' c' w',w'.ownsRow base 3 1 (.slice A' (n + 1) c') (n + 1) ((xs ++ [e]).flatMap encI) → w'.ownsRow base 3 1 v n (xs.flatMap encI) → W.grownBy w' v.ownBlock → Grew v (.slice A' (n + 1) c') n W.heap.size → K (.slice A' (n + 1) c') w') : lUpon Tryz.prog K ((execOp ρ o).run Tryz.prog W) := by
 obtain ⟨A',c',w',h1,h2,h3,h4,h5⟩ := run_ap1R ho e hs hx hg hown hn hl hb
 rw [h1]
 exact hk A' c' w' h2 h3 h4 h5
theorem grown_ext {W w6 y : World} {row : Option Nat} (h : W.grownBy w6 row) (hx : Ext w6 y) : W.grownBy y row :=
 ⟨hx.os.trans h.os,hx.tape.trans h.tape,hx.output.trans h.output,Nat.le_trans h.size (Below.size hx),fun i hi hne => (hx.block i (Nat.lt_of_lt_of_le hi h.size)).trans (h.block i hi hne)⟩
theorem and1_nat {u i : Nat} (hu : u < 256) (_hi : i < 64) : (bits BinOp.and IntKind.i64 ((u : Int) / 2 ^ i) 1 == 0) = !u.testBit i := by
 have e : (u : Int) / 2 ^ i = ((u / 2 ^ i : Nat) : Int) := by simp
 have hlt : u / 2 ^ i < 2 ^ 62 := Nat.lt_of_le_of_lt (Nat.div_le_self _ _) (Nat.lt_trans hu (by decide))
 rw [e,show (1 : Int) = ((1 : Nat) : Int) from rfl,(bits_nat .i64 62 (by decide) (fun n h1 h2 => by rw [IntKind.wrap_i64]; omega) _ _ hlt (by decide)).1]
 rw [Nat.testBit_eq_decide_div_mod_eq,Nat.and_one_is_mod,Bool.eq_iff_iff]
 simp only [beq_iff_eq,Bool.not_eq_true',decide_eq_false_iff_not]
 omega
set_option maxRecDepth 100000 in
set_option maxHeartbeats 16000000 in
theorem place_level {b2 b3 b4 b5 nv cv fd : Nat} {Av : Option Addr} {V ws : List (Int × Thing)} {caps : Array Value} {J : List (List Int) → List Nat → World → Prop} (hC : Tell fd caps none nv J) (hnv : nv = ws.length) (hl : nv ≤ 8) (hnd : (ws.map (·.1)).Nodup) (hth : ∀ p ∈ ws,thV V p.1 = p.2) (n f : Nat) (hnf : n + (f + 1) = nv)
  (ih : ∀ (told : List (List Int)) (T : List Nat) (w : World) (A : Option Addr) (c : Nat) (xs : List Int) (u : Nat),PlH J (FxN b2 b3 b4 b5 Av nv cv ws fd caps) (tfN b2 b3 b4 b5 Av) told T (.slice A (n + 1) c) (n + 1) xs w → n + 1 = xs.length → UsedI ws u xs → u < 256 → Calls Tryz.prog 75 #[.slice A (n + 1) c, .int .i64 u, .pointer (some ⟨b2,0,none⟩), .pointer (some ⟨b3,0,none⟩), .pointer (some ⟨b4,0,none⟩), .pointer (some ⟨b5,0,none⟩)] w (PlPost J T (.slice A (n + 1) c) (n + 1) xs w (told ++ extL V [] (ws.map (·.1)) V [] (ws.map (·.1)) f xs)))
  (told : List (List Int)) (T : List Nat) (w : World) (A : Option Addr) (c : Nat) (xs : List Int) (u : Nat) (h : PlH J (FxN b2 b3 b4 b5 Av nv cv ws fd caps) (tfN b2 b3 b4 b5 Av) told T (.slice A n c) n xs w) (hn : n = xs.length) (hu : UsedI ws u xs) (hu8 : u < 256) :
  Calls Tryz.prog 75 #[.slice A n c, .int .i64 u, .pointer (some ⟨b2,0,none⟩), .pointer (some ⟨b3,0,none⟩), .pointer (some ⟨b4,0,none⟩), .pointer (some ⟨b5,0,none⟩)] w (PlPost J T (.slice A n c) n xs w (told ++ extL V [] (ws.map (·.1)) V [] (ws.map (·.1)) (f + 1) xs)) := by
 have h' := hide h
 have hn' := hide hn
 have hC' := hide hC
 have ih' := hide ih
 have hnv' := hide hnv
 have hl' := hide hl
 have hnd' := hide hnd
 have hth' := hide hth
 have hu' := hide hu
 have hnf' := hide hnf
 have e2 := h.f.c2.cells 0 (v := .slice Av nv cv) rfl
 have hself := Ext.refl w
 have hq : ((n : Int) == (nv : Int)) = false := by simp; omega
 obtain ⟨wi,hwi⟩ : ∃ wi,wi = ws.map (·.1) := ⟨_,rfl⟩
 have hwl := hide (show nv = wi.length by rw [hwi,List.length_map,hnv])
 have hwi' := hide hwi
 rw [← hwi] at ih' ⊢
 clear h hn hC ih hnv hl hnd hth hu hnf hwi
 have hP := hide (Sp.new w)
 refine callsIn_wide.1 (callsIn_of_wp_marks (n := 0) Tryz.func75 rfl trivial (wpIn_wide.2 ?_))
 simp only [Tryz.ntmps75,List.size_toArray,List.length_cons,List.length_nil,Nat.reduceAdd,Nat.reduceSub,Array.replicate_succ,Array.replicate_zero,List.push_toArray,List.append_toArray,List.nil_append,List.cons_append]
 try dsimp only
 repeat ((fail_if_success (with_reducible refine wp_reg (id := 0) ?_)); (first | go_values | go_skip | go_step | go_guarded | go_upon | go_in | go_back | fail))
 with_reducible refine wp_reg (id := 0) ?_
 iterate 5
  refine wpO_want rfl ?_
  go_simp
 refine wpO_done ?_
 try go_frame
 try dsimp only
 repeat ((fail_if_success (with_reducible refine wp_reg (id := 2) ?_)); (first | go_values | go_skip | go_step | go_guarded | go_upon | go_in | go_back | fail))
 with_reducible refine wp_reg (id := 2) ?_
 iterate 3
  refine wpO_want rfl ?_
  go_simp
 refine wpO_done ?_
 try go_frame
 clear e2 hself hq
 go_wp2_with fail
 obtain ⟨I0_2,hI0_20⟩ : ∃ I : Nat → Act → World → Prop,I = fun fi a' wr => ∃ (i : Nat),a'.tmps.size = 53 ∧ a'.tmps.getD 0 undef = .slice A n c ∧ a'.tmps.getD 1 undef = .int .i64 (u : Nat) ∧ a'.tmps.getD 2 undef = .pointer (some ⟨b2,0,none⟩) ∧ a'.tmps.getD 3 undef = .pointer (some ⟨b3,0,none⟩) ∧ a'.tmps.getD 4 undef = .pointer (some ⟨b4,0,none⟩) ∧ a'.tmps.getD 5 undef = .pointer (some ⟨b5,0,none⟩) ∧ a'.tmps.getD 18 undef = .slice Av nv cv ∧ a'.tmps.getD 19 undef = .int .i64 (nv : Nat) ∧ a'.tmps.getD 20 undef = .int .i64 (i : Nat) ∧ a'.defers = [] ∧ i ≤ nv ∧ PlI J T (.slice A n c) n xs w (told ++ numT V wi f xs i) wr ∧ fi = nv - i := ⟨_,rfl⟩
 have hI0_2 := hide hI0_20
 clear hI0_20
 refine wp_loop_ix I0_2 (nv - 0) ?_ ?_
 ·rw [unhide hI0_2]; exact ⟨0,rfl,rfl,rfl,rfl,rfl,rfl,rfl,rfl,rfl,rfl,rfl,Nat.zero_le _,by rw [numT_zero,List.append_nil]; exact (unhide h').start,rfl⟩
 ·rintro fi ⟨tm,dfs⟩ wr hrel
  rw [unhide hI0_2] at hrel
  obtain ⟨i,hsz,e0,e1,e2,e3,e4,e5,e18,e19,e20,hdf,hin,hpl,hfm⟩ := hrel
  obtain ⟨us,rfl⟩ : ∃ us : Nat → Value,tm = #[us 0,us 1,us 2,us 3,us 4,us 5,us 6,us 7,us 8,us 9,us 10,us 11,us 12,us 13,us 14,us 15,us 16,us 17,us 18,us 19,us 20,us 21,us 22,us 23,us 24,us 25,us 26,us 27,us 28,us 29,us 30,us 31,us 32,us 33,us 34,us 35,us 36,us 37,us 38,us 39,us 40,us 41,us 42,us 43,us 44,us 45,us 46,us 47,us 48,us 49,us 50,us 51,us 52] := ⟨fun i => tm.getD i undef,arr_fn hsz⟩
  have h0 : us 0 = .slice A n c := e0
  have h1 : us 1 = .int .i64 (u : Nat) := e1
  have h2 : us 2 = .pointer (some ⟨b2,0,none⟩) := e2
  have h3 : us 3 = .pointer (some ⟨b3,0,none⟩) := e3
  have h4 : us 4 = .pointer (some ⟨b4,0,none⟩) := e4
  have h5 : us 5 = .pointer (some ⟨b5,0,none⟩) := e5
  have h18 : us 18 = .slice Av nv cv := e18
  have h19 : us 19 = .int .i64 (nv : Nat) := e19
  have h20 : us 20 = .int .i64 (i : Nat) := e20
  have hdf2 : dfs = [] := hdf
  subst hdf2
  clear hdf hsz e0 e1 e2 e3 e4 e5 e18 e19 e20
  simp only [h0,h1,h2,h3,h4,h5,h18,h19,h20]
  clear h0 h1 h2 h3 h4 h5 h18 h19 h20
  clear hP
  have hP := hide (Sp.new wr)
  have hfm' := hide hfm
  have hpl' := hide hpl
  have hpl0 := hide hpl
  clear hpl hfm
  by_cases hlt : i < nv
  ·skip
   have hil : (i : Int) < (nv : Int) := by omega
   have hib : (i : Int) ≤ 8 := by have := unhide hl'; omega
   have hi2 : i < 64 := by have := unhide hl'; omega
   have hiw : i < ws.length := by rw [← unhide hnv']; exact hlt
   have hnw : n < ws.length := by have := unhide hnv'; have := unhide hnf'; omega
   have hiwi : i < wi.length := by rw [← unhide hwl]; exact hlt
   have hlt' := hide hlt
   have hF := hide ((unhide h').fix FxN.keep (unhide hpl'))
   have hus := hide (unhide hu' i hiw)
   have hok := hide (okM_num (V := V) (unhide hth') (unhide hn') hnw hiw)
   have hadd := hide ((unhide hu').add (unhide hnd') hiw)
   have hwe := hide (show wi[i] = ws[i].1 by simp [unhide hwi'])
   obtain ⟨ba,oa,rfl,g0,g1,g2⟩ := atV (unhide hF).vs hiw
   obtain ⟨ba2,oa2,hba,k0,k1,k2⟩ := atV (unhide hF).vs hnw
   cases hba
   obtain ⟨⟨x,lab,wt⟩,hx0⟩ : ∃ p,p = ws[i] := ⟨_,rfl⟩
   obtain ⟨⟨x2,lab2,wt2⟩,hx20⟩ : ∃ p,p = ws[n] := ⟨_,rfl⟩
   rw [← unhide hwi', ← hx0, ← hx20] at hok
   rw [← hx0] at hus hadd hwe g0 g1 g2
   rw [← hx20] at k0 k1 k2
   dsimp only at hok hus hadd hwe g0 g1 g2 k0 k1 k2
   have e2 := (unhide hF).c2.cells 0 (v := .slice (some ⟨ba,oa,none⟩) nv cv) rfl
   have e4 := (unhide hF).c4.cells 0 (v := .func (.func 71) #[] #[]) rfl
   have e5 := (unhide hF).c5.cells 0 (v := .func (.func 75) #[] #[.pointer (some ⟨b2,0,none⟩), .pointer (some ⟨b3,0,none⟩), .pointer (some ⟨b4,0,none⟩), .pointer (some ⟨b5,0,none⟩)]) rfl
   have hself := Ext.refl wr
   clear hlt hin hx0 hx20
   try dsimp only
   repeat ((fail_if_success (with_reducible refine wp_reg (id := 3) ?_)); (first | go_values | go_skip | go_step | go_guarded | go_upon | go_in | go_back | fail))
   with_reducible refine wp_reg (id := 3) ?_
   refine wpO_want rfl ?_
   go_simp
   refine wpO_done ?_
   try go_frame
   try dsimp only
   repeat ((fail_if_success (with_reducible refine wp_reg (id := 4) ?_)); (first | go_values | go_skip | go_step | go_guarded | go_upon | go_in | go_back | fail))
   with_reducible refine wp_reg (id := 4) ?_
   iterate 3
    refine wpO_want rfl ?_
    go_simp
   refine (unhide hP).allocO 81 #[.int .i64 0, .int .u8 0, .int .i64 0] rfl (by go_simp) ?_
   intro r9 y1 hQ
   replace hP : Hid (Sp wr [] wr [] [(r9,81, #[.int .i64 0, .int .u8 0, .int .i64 0])] [] y1) := hide hQ
   clear hQ
   refine wpO_want rfl ?_
   go_simp
   refine (unhide hP).setO 0 #[.int .i64 x, .int .u8 lab, .int .i64 wt] rfl rfl (fun hb => run_store_row (v := .agg #[.int .i64 x, .int .u8 lab, .int .i64 wt]) rfl (by rfl) (by rfl) (by simp [go_sem]) hb rfl (fun u hu => by simp [Value.cells] at hu; rcases hu with rfl | rfl | rfl <;> rfl)) ?_
   intro y2 hQ
   replace hP : Hid (Sp wr [] wr [] [(r9,81, #[.int .i64 x, .int .u8 lab, .int .i64 wt])] [] y2) := hide hQ
   clear hQ
   refine wpO_done ?_
   try go_frame
   have d0 := (unhide hP).cell 0 0 (v := .int .i64 x) rfl rfl
   have d1 := (unhide hP).cell 0 1 (v := .int .u8 lab) rfl rfl
   have d2 := (unhide hP).cell 0 2 (v := .int .i64 wt) rfl rfl
   go_wp2_with fail
   have hx9 := (unhide hP).extf
   replace g0 := fun (W : World) (hW : Ext y2 W) => g0 W (hx9.trans hW)
   replace g1 := fun (W : World) (hW : Ext y2 W) => g1 W (hx9.trans hW)
   replace g2 := fun (W : World) (hW : Ext y2 W) => g2 W (hx9.trans hW)
   replace k0 := fun (W : World) (hW : Ext y2 W) => k0 W (hx9.trans hW)
   replace k1 := fun (W : World) (hW : Ext y2 W) => k1 W (hx9.trans hW)
   replace k2 := fun (W : World) (hW : Ext y2 W) => k2 W (hx9.trans hW)
   replace e2 := fun (W : World) (hW : Ext y2 W) => e2 W (hx9.trans hW)
   replace e4 := fun (W : World) (hW : Ext y2 W) => e4 W (hx9.trans hW)
   replace e5 := fun (W : World) (hW : Ext y2 W) => e5 W (hx9.trans hW)
   clear hself g0 g1 g2
   have hself := Ext.refl y2
   have hx9' := hide hx9
   clear hx9
   obtain ⟨z,hz0⟩ : ∃ z,z = cmpT (lab,wt) (lab2,wt2) := ⟨_,rfl⟩
   have hz := hide hz0
   clear hz0
   have hnL : (n : Int) < (nv : Int) := by have := unhide hnf'; omega
   have hnb : (n : Int) ≤ 8 := by have := unhide hl'; omega
   cases hbt : u.testBit i
   ·skip
    have hbit : (bits BinOp.and IntKind.i64 ((u : Int) / 2 ^ i) 1 == 0) = true := by rw [and1_nat hu8 (by omega),hbt]; rfl
    have hbt' := hide hbt
    clear hbt
    by_cases hz0 : z = 0
    ·skip
     have hzz : ((z : Int) == 0) = true := by simp [hz0]
     have hz1 := hide hz0
     clear hz0
     refine wp_region_ext (P := Tryz.prog) [0,1,2,3,4,5,6,7,8,9,10,11,12,13,14,15] [] 0 #[true,true,true,true,true,true,true,true,true,true,true,true,true,true,true,true] (by kernel_rfl) (by kernel_rfl) rfl (by rfl) ?_
     iterate 13
      first
      | (refine ql_skip rfl (by rfl) ?_)
      | (refine ql_want (v := ?_) rfl (by rfl) (fun W hW => ?_) ?_; rotate_left; (go_simp; (first | done | rfl)))
      try go_frame
     refine ql_want (v := .int .i64 z) rfl (by rfl) (fun W hW => ?_) ?_
     ·go_simp
      refine (kind_ext (x,(lab,wt)) (x2,(lab2,wt2)) W).mono ?_
      rintro _ _ ⟨h1,h2⟩
      exact ⟨_,h1,by rw [unhide hz],h2⟩
     go_frame
     iterate 2
      first
      | (refine ql_skip rfl (by rfl) ?_)
      | (refine ql_want (v := ?_) rfl (by rfl) (fun W hW => ?_) ?_; rotate_left; (go_simp; (first | done | rfl)))
      try go_frame
     refine wpQL_nil (fun y3 hxq => ?_)
     replace hP : Hid (Sp wr [] wr [] [(r9,81, #[.int .i64 x, .int .u8 lab, .int .i64 wt])] [] y3) := hide ((unhide hP).ext hxq)
     replace hx9' := hide ((unhide hx9').trans hxq)
     replace d0 := fun (W : World) (hW : Ext y3 W) => d0 W (hxq.trans hW)
     replace e5 := fun (W : World) (hW : Ext y3 W) => e5 W (hxq.trans hW)
     clear d1 d2 k0 k1 k2 e2 e4 hself hbit hzz hxq
     have hself := Ext.refl y3
     refine wpX_done (by kernel_rfl) ?_
     try go_frame
     go_wp2_with fail
     obtain ⟨S,hS0⟩ : ∃ S,S = (Value.slice A n c).ownBlock.toList := ⟨_,rfl⟩
     have hS := hide hS0
     clear hS0 e5 d0 hself
     have hpy := hide (PlI.ext (unhide hC').keep (unhide hpl') (unhide hx9'))
     clear hpl'
     have hFy := hide ((unhide h').fix FxN.keep (unhide hpy))
     have hb5 := hide (show b5 ∉ S from fun hm => ((unhide h').vf b5 (by rw [unhide hS] at hm; simpa using hm)).1 (by simp [tfN]))
     have hr9 := hide (show r9 ∉ S from fun hm => by
      rw [unhide hS] at hm
      have h1 := (own_base (unhide h').own (by simpa using hm)).2.1
      have h2 := (unhide hP).st.ge r9 (by simp [stT,rwT])
      have h3 := (unhide hpl0).keep.size
      omega)
     refine wp_regionK (P := Tryz.prog) S [0,1,2,3,6,7,8,9] [10] 3 #[true,true,true,true,false,false,true,true,true,true,false] (by kernel_rfl) (by kernel_rfl) rfl (by rfl) ?_
     refine ql_want (v := .func (.func 75) #[] #[.pointer (some ⟨b2,0,none⟩), .pointer (some ⟨b3,0,none⟩), .pointer (some ⟨b4,0,none⟩), .pointer (some ⟨b5,0,none⟩)]) rfl (by rfl) (fun W hW => qUpon_ofX (load_V rfl rfl (by simp [go_sem]) (((unhide hFy).c5.keep hW (unhide hb5)).cells 0 rfl W (Ext.refl W)))) ?_
     go_frame
     iterate 2
      refine ql_want (v := ?_) rfl (by rfl) (fun W hW => ?_) ?_
      rotate_left
      ·go_simp
       first | done | rfl
      go_frame
     refine ql_want (v := .int .i64 x) rfl (by rfl) (fun W hW => qUpon_ofX (load_V rfl rfl (by simp [go_sem]) (((unhide hP).get 0 rfl |>.keep hW (unhide hr9)).cells 0 rfl W (Ext.refl W)))) ?_
     go_frame
     iterate 2
      refine ql_want (v := ?_) rfl (by rfl) (fun W hW => ?_) ?_
      rotate_left
      ·go_simp
       first | done | rfl
      go_frame
     refine ql_want (v := .int .i64 ((2 ^ i : Nat) : Int)) rfl (by rfl) (fun W hW => ?_) ?_
     ·go_simp
      exact shl_small (by omega)
     go_frame
     refine ql_want (v := .int .i64 ((u ||| 2 ^ i : Nat) : Int)) rfl (by rfl) (fun W hW => ?_) ?_
     ·go_simp
      exact or1_nat hu8 (by omega)
     go_frame
     refine wpQL_nil (fun y4 hxq => ?_)
     have hK := hide (hxq.keep S)
     replace hP : Hid (Sp wr [] wr [] [(r9,81, #[.int .i64 x, .int .u8 lab, .int .i64 wt])] [] y4) := hide ((unhide hP).ext hxq)
     clear hxq
     skip
     refine lx_one (i := 4) (by kernel_rfl) rfl (by rfl) #[true,true,true,true,true,false,true,true,true,true,false] (by rfl) ?_
     refine (unhide hP).allocL (unhide hK) (v := fun b => .slice (some ⟨b,0,none⟩) 1 1) 3 #[.int .i64 x] ?_ ?_
     ·exact run_build1 rfl rfl
     intro r45 y5 hQ hK2 hg2
     replace hP : Hid (Sp wr [] wr [] [(r9,81, #[.int .i64 x, .int .u8 lab, .int .i64 wt]),(r45,3, #[.int .i64 x])] [] y5) := hide hQ
     replace hK := hide hK2
     have hge_r45 := hide hg2
     clear hQ hK2 hg2
     try go_frame
     have hx5 := hide (unhide hP).extf
     have hp5 := hide (PlI.ext (unhide hC').keep (unhide hpl0) (unhide hx5))
     refine lx_one (i := 5) (by kernel_rfl) rfl (by rfl) #[true,true,true,true,true,true,true,true,true,true,false] (by rfl) ?_
     refine lx_apR (base := 0) (v := .slice A n c) (n := n) (xs := xs) rfl x rfl rfl ((unhide hP).get 1 rfl) (unhide hp5).own (unhide hn') (by have := unhide hl'; have := unhide hnf'; omega) (Nat.zero_le _) ?_
     intro A6 c6 w6 ho6 hov hg6 hG
     refine ⟨fun _ => (unhide hK).trans (by rw [unhide hS]; exact Keep.of_grown hg6),fun y7 hxd => ?_⟩
     obtain ⟨Tc,hH0,hback0⟩ := (unhide h').step FxN.keep (unhide hC').keep (unhide hC').lt (unhide hn') (unhide hpl0) (unhide hx5) (own_keep ho6 (hxd.keep []) (by simp)) (own_keep hov (hxd.keep []) (by simp)) (grown_ext hg6 hxd) hG
     have hH := hide hH0
     have hback := hide hback0
     clear hH0 hback0 ho6 hov hg6 hG hxd hK hP hpy hFy
     try go_frame
     refine lx_one (i := 10) (by kernel_rfl) rfl (by rfl) #[true,true,true,true,true,true,true,true,true,true,true] (by rfl) ?_
     go_simp
     have hu2 : u ||| 2 ^ i < 256 := Nat.or_lt_two_pow (n := 8) hu8 (Nat.pow_lt_pow_right (by decide) (by have := unhide hl'; have := unhide hlt'; omega))
     refine ((unhide ih') _ Tc y7 A6 c6 (xs ++ [x]) (u ||| 2 ^ i) (unhide hH) (by rw [List.length_append, ← unhide hn']; rfl) (unhide hadd) hu2).mono ?_
     rintro _ W7 ⟨rfl,hp7⟩
     refine ⟨_,rfl,fun y8 hxd => ?_⟩
     have hp8 := hide (PlI.ext (unhide hC').keep ((unhide hback) _ _ hp7) hxd)
     clear hp7 hxd hback hH hp5 hx5 hu2
     try go_frame
     refine wpX_done (by kernel_rfl) ?_
     try go_frame
     go_wp2_with fail
     have hokt : okM V [] wi V [] xs x = true := by
      rw [unhide hok]
      have h1 := unhide hus
      rw [unhide hbt'] at h1
      have h2 : x ∉ xs := of_decide_eq_false h1.symm
      have h3 : (lab,wt) = (lab2,wt2) := cmpT_zero.1 (by rw [← unhide hz]; exact unhide hz1)
      simp [h2,h3]
     have hnm := numT_yes (V := V) (f := f) (xs := xs) hiwi (by rw [unhide hwe,hokt])
     rw [unhide hwe] at hnm
     have hp9 := unhide hp8
     rw [List.append_assoc, ← hnm] at hp9
     refine ⟨nv - (i + 1), ?_,by have := unhide hfm'; have := unhide hlt'; omega⟩
     rw [unhide hI0_2]
     exact ⟨i + 1,(by first | rfl | trivial),(by first | rfl | trivial),(by first | rfl | trivial),(by first | rfl | trivial),(by first | rfl | trivial),(by first | rfl | trivial),(by first | rfl | trivial),(by first | rfl | trivial),(by first | rfl | trivial),(by first | rfl | (show _ = Value.int _ _; go_num) | go_num),(by first | rfl | trivial),by have := unhide hlt'; omega,hp9,rfl⟩
    ·skip
     have hzz : ((z : Int) == 0) = false := by simp [hz0]
     have hz1 := hide hz0
     clear hz0
     refine wp_region_ext (P := Tryz.prog) [0,1,2,3,4,5,6,7,8,9,10,11,12,13,14,15] [] 0 #[true,true,true,true,true,true,true,true,true,true,true,true,true,true,true,true] (by kernel_rfl) (by kernel_rfl) rfl (by rfl) ?_
     iterate 13
      first
      | (refine ql_skip rfl (by rfl) ?_)
      | (refine ql_want (v := ?_) rfl (by rfl) (fun W hW => ?_) ?_; rotate_left; (go_simp; (first | done | rfl)))
      try go_frame
     refine ql_want (v := .int .i64 z) rfl (by rfl) (fun W hW => ?_) ?_
     ·go_simp
      refine (kind_ext (x,(lab,wt)) (x2,(lab2,wt2)) W).mono ?_
      rintro _ _ ⟨h1,h2⟩
      exact ⟨_,h1,by rw [unhide hz],h2⟩
     go_frame
     iterate 2
      first
      | (refine ql_skip rfl (by rfl) ?_)
      | (refine ql_want (v := ?_) rfl (by rfl) (fun W hW => ?_) ?_; rotate_left; (go_simp; (first | done | rfl)))
      try go_frame
     refine wpQL_nil (fun y3 hxq => ?_)
     replace hP : Hid (Sp wr [] wr [] [(r9,81, #[.int .i64 x, .int .u8 lab, .int .i64 wt])] [] y3) := hide ((unhide hP).ext hxq)
     replace hx9' := hide ((unhide hx9').trans hxq)
     clear d0 d1 d2 k0 k1 k2 e2 e4 e5 hself hbit hzz hxq
     refine wpX_done (by kernel_rfl) ?_
     try go_frame
     have hpl2 := hide (PlI.ext (unhide hC').keep (unhide hpl') (unhide hx9'))
     go_wp2_with fail
     have hokf : okM V [] wi V [] xs x = false := by
      rw [unhide hok]
      have hne : ¬ (lab,wt) = (lab2,wt2) := fun h => unhide hz1 (by rw [unhide hz]; exact cmpT_zero.2 h)
      rw [decide_eq_false hne,Bool.and_false]
     have hnm := numT_no (V := V) (f := f) (xs := xs) hiwi (by rw [unhide hwe,hokf])
     refine ⟨nv - (i + 1), ?_,by have := unhide hfm'; have := unhide hlt'; omega⟩
     rw [unhide hI0_2]
     exact ⟨i + 1,(by first | rfl | trivial),(by first | rfl | trivial),(by first | rfl | trivial),(by first | rfl | trivial),(by first | rfl | trivial),(by first | rfl | trivial),(by first | rfl | trivial),(by first | rfl | trivial),(by first | rfl | trivial),(by first | rfl | (show _ = Value.int _ _; go_num) | go_num),(by first | rfl | trivial),by have := unhide hlt'; omega,by rw [hnm]; exact unhide hpl2,rfl⟩
   ·skip
    have hbit : (bits BinOp.and IntKind.i64 ((u : Int) / 2 ^ i) 1 == 0) = false := by rw [and1_nat hu8 (by omega),hbt]; rfl
    have hbt' := hide hbt
    clear hbt
    refine wp_region_ext (P := Tryz.prog) [0,1,2,3,4,5,6,7,8,9,10,11,12,13,14,15] [] 0 #[true,true,true,true,true,true,true,true,true,true,true,true,true,true,true,true] (by kernel_rfl) (by kernel_rfl) rfl (by rfl) ?_
    iterate 16
     first
     | (refine ql_skip rfl (by rfl) ?_)
     | (refine ql_want (v := ?_) rfl (by rfl) (fun W hW => ?_) ?_; rotate_left; (go_simp; (first | done | rfl)))
     try go_frame
    refine wpQL_nil (fun y3 hxq => ?_)
    replace hP : Hid (Sp wr [] wr [] [(r9,81, #[.int .i64 x, .int .u8 lab, .int .i64 wt])] [] y3) := hide ((unhide hP).ext hxq)
    replace hx9' := hide ((unhide hx9').trans hxq)
    clear d0 d1 d2 k0 k1 k2 e2 e4 e5 hself hbit hxq
    refine wpX_done (by kernel_rfl) ?_
    try go_frame
    have hpl2 := hide (PlI.ext (unhide hC').keep (unhide hpl') (unhide hx9'))
    go_wp2_with fail
    have hokf : okM V [] wi V [] xs x = false := by
     rw [unhide hok]
     have h1 := unhide hus
     rw [unhide hbt'] at h1
     have h2 : x ∈ xs := of_decide_eq_true h1.symm
     simp [h2]
    have hnm := numT_no (V := V) (f := f) (xs := xs) hiwi (by rw [unhide hwe,hokf])
    refine ⟨nv - (i + 1), ?_,by have := unhide hfm'; have := unhide hlt'; omega⟩
    rw [unhide hI0_2]
    exact ⟨i + 1,(by first | rfl | trivial),(by first | rfl | trivial),(by first | rfl | trivial),(by first | rfl | trivial),(by first | rfl | trivial),(by first | rfl | trivial),(by first | rfl | trivial),(by first | rfl | trivial),(by first | rfl | trivial),(by first | rfl | (show _ = Value.int _ _; go_num) | go_num),(by first | rfl | trivial),by have := unhide hlt'; omega,by rw [hnm]; exact unhide hpl2,rfl⟩
  ·skip
   have hil : ¬ (i : Int) < (nv : Int) := by omega
   obtain rfl : nv = i := by omega
   have hfin := unhide hpl'
   rw [numT_full (Nat.le_of_eq (unhide hwl).symm)] at hfin
   have hfin' := hide hfin
   clear hlt hin hfin
   try dsimp only
   repeat ((fail_if_success (with_reducible refine wp_reg (id := 3) ?_)); (first | go_values | go_skip | go_step | go_guarded | go_upon | go_in | go_back | fail))
   with_reducible refine wp_reg (id := 3) ?_
   refine wpO_want rfl ?_
   go_simp
   refine wpO_done ?_
   try go_frame
   clear hil
   go_wp2_with fail
   refine Sp.leaves0 ?_
   exact ⟨_,results_none rfl _ _ _,rfl,unhide hfin'⟩
end Go.Proofs.YtbpeemhfjgcnaaaGreat
