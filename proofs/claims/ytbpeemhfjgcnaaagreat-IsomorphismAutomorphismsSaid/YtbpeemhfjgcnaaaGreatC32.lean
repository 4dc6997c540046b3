/- Parts of a proof, laid together. Each part says its own conditions. -/
import Derived.Test.YtbpeemhfjgcnaaaGreatC27
import Derived.Test.YtbpeemhfjgcnaaaGreatC31
namespace Go.Proofs.YtbpeemhfjgcnaaaGreat
open Go Go.RowKit Go.Shelf
attribute [local go_sem] qUpon lUpon
attribute [local irreducible] wpO wpX wpQL
def canL (g bg bf bl bb : Nat) (q : Bool) (Al : Option Addr) (nl cl : Nat) (Ab : Option Addr) (nb cb : Nat) : List Cl := [(bg,24, #[.pointer (some ⟨g,0,none⟩)]),(bf,4, #[.bool q]),(bl,31, #[.slice Al nl cl]),(bb,31, #[.slice Ab nb cb])]
def canR (Al : Option Addr) (nl cl : Nat) (Ab : Option Addr) (nb cb : Nat) (ls bs : List Int) : List Rw := [(3,1, .slice Al nl cl,nl,ls.flatMap encI),(3,1, .slice Ab nb cb,nb,bs.flatMap encI)]
def CanJ (w0 : World) (g bg bf bl bb : Nat) (E : List ((Int × Int) × Thing)) (told : List (List Int)) (T : List Nat) (W : World) : Prop :=
 ∃ (s : Option (List Int)) (Al : Option Addr) (nl cl : Nat) (Ab : Option Addr) (nb cb : Nat) (ls bs : List Int),s = told.foldl (canF E) none ∧ St w0.heap.size (canL g bg bf bl bb s.isSome Al nl cl Ab nb cb) (canR Al nl cl Ab nb cb ls bs) W ∧ T = List.range w0.heap.size ++ stT (canL g bg bf bl bb s.isSome Al nl cl Ab nb cb) (canR Al nl cl Ab nb cb ls bs) ∧ Ext w0 W ∧ nl = ls.length ∧ nb = bs.length ∧ ∀ b,s = some b → bs = b ∧ ls = codeP E b ∧ bs.length ≤ 8
theorem CanJ.keep {w0 : World} {g bg bf bl bb : Nat} {E : List ((Int × Int) × Thing)} : ∀ k T W W' S,CanJ w0 g bg bf bl bb E k T W → Keep S W W' → (∀ x ∈ S,x ∉ T) → CanJ w0 g bg bf bl bb E k T W' := by
 rintro k T W W' S ⟨s,Al,nl,cl,Ab,nb,cb,ls,bs,h1,h2,rfl,h3,h4⟩ hk hS
 refine ⟨s,Al,nl,cl,Ab,nb,cb,ls,bs,h1,h2.keep hk fun x hx hm => hS x hx (List.mem_append.2 (.inr hm)),rfl,h3.of_new hk fun x hx => ?_,h4⟩
 have := hS x hx
 simp only [List.mem_append,List.mem_range,not_or] at this
 omega
theorem CanJ.lt {w0 : World} {g bg bf bl bb : Nat} {E : List ((Int × Int) × Thing)} : ∀ k T W,CanJ w0 g bg bf bl bb E k T W → ∀ x ∈ T,x < W.heap.size := by
 rintro k T W ⟨s,Al,nl,cl,Ab,nb,cb,ls,bs,h1,h2,rfl,h3,h4⟩ x hx
 rcases List.mem_append.1 hx with hx | hx
 ·have := Below.size h3
  have := List.mem_range.1 hx
  omega
 ·exact h2.lt x hx
theorem Ext.of_keep0 {a b : World} (h : Keep [] a b) : Ext a b := ⟨h.os,h.tape,h.output,h.size,fun i hi => h.block i hi (by simp)⟩
theorem Sp.ofSt {w0 w : World} {L : List Cl} {Rs : List Rw} (h : St w0.heap.size L Rs w) (hx : Ext w0 w) : Sp w0 (stT L Rs) w [] L Rs w := ⟨h,hx,Keep.refl _ _, .refl _ _, .nil _,by simp⟩
theorem or_ext (x y : Int) (b c : Nat) (w : World) (h : Blk w b 3 #[.int .i64 x, .int .i64 y]) : Calls Tryz.prog 44 #[.slice (some ⟨b,0,none⟩) 2 c] w fun e w' => e = .returned (.int .i64 (orI x y)) ∧ Ext w w' := (or_any x y b c w (by have := h.cell 0; simpa using this) (by have := h.cell 1; simpa using this)).mono fun e w' hh => ⟨hh.1,by rw [hh.2]; exact Ext.refl _⟩
def CanPost (w0 : World) (g bg bf bl bb : Nat) (E : List ((Int × Int) × Thing)) (told : List (List Int)) (T : List Nat) (w : World) (e : Ending) (w' : World) : Prop := e = .returned (.tuple #[]) ∧ ∃ T',CanJ w0 g bg bf bl bb E told T' w' ∧ Keep T w w' ∧ ∀ x ∈ T',x ∈ T ∨ w.heap.size ≤ x
theorem CanPost.mk {w0 w W : World} {g bg bf bl bb : Nat} {E : List ((Int × Int) × Thing)} {told : List (List Int)} {L0 : List Cl} {R0 : List Rw} {T : List Nat} {s : Option (List Int)} {q : Bool} {Al : Option Addr} {nl cl : Nat} {Ab : Option Addr} {nb cb : Nat} {ls bs : List Int} (hT : T = List.range w0.heap.size ++ stT L0 R0) (hP : Sp w0 (stT L0 R0) w [] (canL g bg bf bl bb q Al nl cl Ab nb cb) (canR Al nl cl Ab nb cb ls bs) W) (hq : q = s.isSome) (hs : s = told.foldl (canF E) none) (hl : nl = ls.length) (hb : nb = bs.length) (hc : ∀ b,s = some b → bs = b ∧ ls = codeP E b ∧ bs.length ≤ 8) : CanPost w0 g bg bf bl bb E told T w (.returned (.tuple #[])) W := by
 subst hq hT
 refine ⟨rfl,_,⟨s,Al,nl,cl,Ab,nb,cb,ls,bs,hs,hP.st,rfl,hP.extf,hl,hb,hc⟩,hP.keep.mono fun x hx => List.mem_append.2 (.inr hx),fun x hx => ?_⟩
 rcases List.mem_append.1 hx with hx | hx
 ·exact .inl (List.mem_append.2 (.inl hx))
 ·rcases hP.tin x hx with h | h
  ·exact .inl (List.mem_append.2 (.inr h))
  ·exact .inr h
set_option maxRecDepth 100000 in
set_option maxHeartbeats 16000000 in
theorem can1_none (w0 w : World) (g bv be bg bf bl bb : Nat) (V : List (Int × Thing)) (E : List ((Int × Int) × Thing)) (hg : IsG w0 g bv be V E) (hlb : LabB V E) (told : List (List Int)) (l : List Int) (T : List Nat) (A : Option Addr) (n c : Nat) (Al : Option Addr) (nl cl : Nat) (Ab : Option Addr) (nb cb : Nat) (ls bs : List Int) (hT : T = List.range w0.heap.size ++ stT (canL g bg bf bl bb false Al nl cl Ab nb cb) (canR Al nl cl Ab nb cb ls bs)) (hst : St w0.heap.size (canL g bg bf bl bb false Al nl cl Ab nb cb) (canR Al nl cl Ab nb cb ls bs) w) (hx : Ext w0 w) (hs : told.foldl (canF E) none = none) (hn : n = l.length) (hl8 : n ≤ 8) (hc : n ≤ c) (hA : SlAt encI 1 w A l) :
  Calls Tryz.prog 42 #[.slice A n c, .pointer (some ⟨bg,0,none⟩), .pointer (some ⟨bf,0,none⟩), .pointer (some ⟨bl,0,none⟩), .pointer (some ⟨bb,0,none⟩)] w (CanPost w0 g bg bf bl bb E (told ++ [l]) T w) := by
 have hg' := hide hg
 have hlb' := hide hlb
 have hT' := hide hT
 have hx' := hide hx
 have hs' := hide hs
 have hn' := hide hn
 have hl8' := hide hl8
 have hc' := hide hc
 have hA' := hide hA
 obtain ⟨T0,hT0⟩ : ∃ T0,T0 = stT (canL g bg bf bl bb false Al nl cl Ab nb cb) (canR Al nl cl Ab nb cb ls bs) := ⟨_,rfl⟩
 have hP0 := Sp.ofSt hst hx
 rw [← hT0] at hP0
 have hT0' := hide hT0
 have hP := hide hP0
 unfold canL canR at hP
 clear hg hlb hT hx hs hn hl8 hc hA hst hT0 hP0
 refine callsIn_wide.1 (callsIn_of_wp_marks (n := 0) Tryz.func42 rfl trivial (wpIn_wide.2 ?_))
 simp only [Tryz.ntmps42,List.size_toArray,List.length_cons,List.length_nil,Nat.reduceAdd,Nat.reduceSub,Array.replicate_succ,Array.replicate_zero,List.push_toArray,List.append_toArray,List.nil_append,List.cons_append]
 try dsimp only
 repeat ((fail_if_success (with_reducible refine wp_reg (id := 0) ?_)); (first | go_values | go_skip | go_step | go_guarded | go_upon | go_in | go_back | fail))
 with_reducible refine wp_reg (id := 0) ?_
 refine wpO_val rfl (load_V (v := .pointer (some ⟨g,0,none⟩)) rfl rfl (by simp [go_sem]) (((unhide hP).get 0 rfl).cell 0)) ?_
 go_frame
 iterate 2
  refine wpO_want rfl ?_
  go_simp
 refine (code_any g bv be V E A l n c w ((unhide hg').ext (unhide hx')) (unhide hlb') (unhide hA') (unhide hn') (unhide hl8') (unhide hc')).mono ?_
 rintro _ y1 ⟨Ac,nc,cc,rfl,hnc,ho1,hxc⟩
 refine ⟨_,rfl, ?_⟩
 replace hP : Hid (Sp w0 T0 w [] [(bg,24, #[.pointer (some ⟨g,0,none⟩)]),(bf,4, #[.bool false]),(bl,31, #[.slice Al nl cl]),(bb,31, #[.slice Ab nb cb])] [(3,1, .slice Al nl cl,nl,ls.flatMap encI),(3,1, .slice Ab nb cb,nb,bs.flatMap encI),(3,1, .slice Ac nc cc,nc,(codeP E l).flatMap encI)] y1) := hide ((unhide hP).addRow hxc ho1)
 have hxw := hide hxc
 have hnc' := hide hnc
 clear ho1 hxc hnc
 refine wpO_want rfl ?_
 go_simp
 refine wpO_done ?_
 try go_frame
 go_wp2_with fail
 have q1 := (unhide hP).cell 1 0 (v := .bool false) rfl rfl
 have hself := Ext.refl y1
 refine wp_region_ext (P := Tryz.prog) [0,1,2,3,4,5,6,7,8,9,10,11,12] [] 0 #[true,true,true,true,true,true,true,true,true,true,true,true,true] (by kernel_rfl) (by kernel_rfl) rfl (by rfl) ?_
 iterate 13
  first
  | (refine ql_skip rfl (by rfl) ?_)
  | (refine ql_want (v := ?_) rfl (by rfl) (fun W hW => ?_) ?_; rotate_left; (go_simp; (first | done | rfl)))
  try go_frame
 refine wpQL_nil (fun y2 hxq => ?_)
 replace hP : Hid (Sp w0 T0 w [] [(bg,24, #[.pointer (some ⟨g,0,none⟩)]),(bf,4, #[.bool false]),(bl,31, #[.slice Al nl cl]),(bb,31, #[.slice Ab nb cb])] [(3,1, .slice Al nl cl,nl,ls.flatMap encI),(3,1, .slice Ab nb cb,nb,bs.flatMap encI),(3,1, .slice Ac nc cc,nc,(codeP E l).flatMap encI)] y2) := hide ((unhide hP).ext hxq)
 replace hxw := hide ((unhide hxw).trans hxq)
 clear q1 hself hxq
 refine wpX_done (by kernel_rfl) ?_
 try go_frame
 try dsimp only
 repeat ((fail_if_success (with_reducible refine wp_reg (id := 2) ?_)); (first | go_values | go_skip | go_step | go_guarded | go_upon | go_in | go_back | fail))
 with_reducible refine wp_reg (id := 2) ?_
 iterate 2
  refine wpO_want rfl ?_
  go_simp
 refine (cloneI_any A l n c y2 ((unhide hA').ext (unhide hxw)) (unhide hn') (by have := unhide hl8'; omega)).mono ?_
 rintro _ y3 ⟨A4,n4,c4,rfl,hn4,ho1,hxc⟩
 refine ⟨_,rfl, ?_⟩
 replace hP : Hid (Sp w0 T0 w [] [(bg,24, #[.pointer (some ⟨g,0,none⟩)]),(bf,4, #[.bool false]),(bl,31, #[.slice Al nl cl]),(bb,31, #[.slice Ab nb cb])] [(3,1, .slice Al nl cl,nl,ls.flatMap encI),(3,1, .slice Ab nb cb,nb,bs.flatMap encI),(3,1, .slice Ac nc cc,nc,(codeP E l).flatMap encI),(3,1, .slice A4 n4 c4,n4,l.flatMap encI)] y3) := hide ((unhide hP).addRow hxc ho1)
 have hn4' := hide hn4
 clear ho1 hxc hn4
 refine wpO_want rfl ?_
 go_simp
 refine (unhide hP).setO 3 #[.slice A4 n4 c4] rfl rfl (fun hb => run_store_row (v := .slice A4 n4 c4) rfl rfl rfl (by simp [go_sem]) hb rfl (by simp [Value.cells,Value.oneCell'])) ?_
 intro y4 hQ
 replace hP : Hid (Sp w0 T0 w [] [(bg,24, #[.pointer (some ⟨g,0,none⟩)]),(bf,4, #[.bool false]),(bl,31, #[.slice Al nl cl]),(bb,31, #[.slice A4 n4 c4])] [(3,1, .slice Al nl cl,nl,ls.flatMap encI),(3,1, .slice Ab nb cb,nb,bs.flatMap encI),(3,1, .slice Ac nc cc,nc,(codeP E l).flatMap encI),(3,1, .slice A4 n4 c4,n4,l.flatMap encI)] y4) := hide hQ
 clear hQ
 refine (unhide hP).setO 2 #[.slice Ac nc cc] rfl rfl (fun hb => run_store_row (v := .slice Ac nc cc) rfl rfl rfl (by simp [go_sem]) hb rfl (by simp [Value.cells,Value.oneCell'])) ?_
 intro y5 hQ
 replace hP : Hid (Sp w0 T0 w [] [(bg,24, #[.pointer (some ⟨g,0,none⟩)]),(bf,4, #[.bool false]),(bl,31, #[.slice Ac nc cc]),(bb,31, #[.slice A4 n4 c4])] [(3,1, .slice Al nl cl,nl,ls.flatMap encI),(3,1, .slice Ab nb cb,nb,bs.flatMap encI),(3,1, .slice Ac nc cc,nc,(codeP E l).flatMap encI),(3,1, .slice A4 n4 c4,n4,l.flatMap encI)] y5) := hide hQ
 clear hQ
 refine (unhide hP).setO 1 #[.bool true] rfl rfl (fun hb => run_store_row (v := .bool true) rfl rfl rfl (by simp [go_sem]) hb rfl (by simp [Value.cells,Value.oneCell'])) ?_
 intro y6 hQ
 replace hP : Hid (Sp w0 T0 w [] [(bg,24, #[.pointer (some ⟨g,0,none⟩)]),(bf,4, #[.bool true]),(bl,31, #[.slice Ac nc cc]),(bb,31, #[.slice A4 n4 c4])] [(3,1, .slice Al nl cl,nl,ls.flatMap encI),(3,1, .slice Ab nb cb,nb,bs.flatMap encI),(3,1, .slice Ac nc cc,nc,(codeP E l).flatMap encI),(3,1, .slice A4 n4 c4,n4,l.flatMap encI)] y6) := hide hQ
 clear hQ
 refine wpO_done ?_
 try go_frame
 go_wp2_with fail
 have hfin := (unhide hP).sub (List.Sublist.refl _) (List.Sublist.cons _ (List.Sublist.cons _ (List.Sublist.refl _)) : List.Sublist ([(3,1, .slice Ac nc cc,nc,(codeP E l).flatMap encI),(3,1, .slice A4 n4 c4,n4,l.flatMap encI)] : List Rw) _)
 rw [unhide hT0'] at hfin
 refine Sp.leaves0 ?_
 refine ⟨_,results_none rfl _ _ _, ?_⟩
 exact CanPost.mk (s := some l) (q := true) (Al := Ac) (nl := nc) (cl := cc) (Ab := A4) (nb := n4) (cb := c4) (ls := codeP E l) (bs := l) (unhide hT') hfin rfl (by rw [List.foldl_append,unhide hs']; rfl) (unhide hnc') (unhide hn4') (fun b h => by cases h; exact ⟨rfl,rfl,by rw [← unhide hn']; exact unhide hl8'⟩)
set_option maxRecDepth 100000 in
set_option maxHeartbeats 16000000 in
theorem can1_some (w0 w : World) (g bv be bg bf bl bb : Nat) (V : List (Int × Thing)) (E : List ((Int × Int) × Thing)) (hg : IsG w0 g bv be V E) (hlb : LabB V E) (told : List (List Int)) (l : List Int) (T : List Nat) (A : Option Addr) (n c : Nat) (Al : Option Addr) (nl cl : Nat) (Ab : Option Addr) (nb cb : Nat) (ls bs : List Int) (hT : T = List.range w0.heap.size ++ stT (canL g bg bf bl bb true Al nl cl Ab nb cb) (canR Al nl cl Ab nb cb ls bs)) (hst : St w0.heap.size (canL g bg bf bl bb true Al nl cl Ab nb cb) (canR Al nl cl Ab nb cb ls bs) w) (hx : Ext w0 w) (hs : told.foldl (canF E) none = some bs) (hls : ls = codeP E bs) (hnl : nl = ls.length) (hnb : nb = bs.length) (hb8 : bs.length ≤ 8) (hn : n = l.length) (hl8 : n ≤ 8) (hc : n ≤ c) (hA : SlAt encI 1 w A l) :
  Calls Tryz.prog 42 #[.slice A n c, .pointer (some ⟨bg,0,none⟩), .pointer (some ⟨bf,0,none⟩), .pointer (some ⟨bl,0,none⟩), .pointer (some ⟨bb,0,none⟩)] w (CanPost w0 g bg bf bl bb E (told ++ [l]) T w) := by
 have hg' := hide hg
 have hlb' := hide hlb
 have hT' := hide hT
 have hx' := hide hx
 have hs' := hide hs
 have hn' := hide hn
 have hl8' := hide hl8
 have hc' := hide hc
 have hA' := hide hA
 have hls' := hide hls
 have hnl' := hide hnl
 have hnb' := hide hnb
 have hb8' := hide hb8
 obtain ⟨T0,hT0⟩ : ∃ T0,T0 = stT (canL g bg bf bl bb true Al nl cl Ab nb cb) (canR Al nl cl Ab nb cb ls bs) := ⟨_,rfl⟩
 have hP0 := Sp.ofSt hst hx
 rw [← hT0] at hP0
 have hT0' := hide hT0
 have hP := hide hP0
 unfold canL canR at hP
 clear hg hlb hT hx hs hn hl8 hc hA hst hT0 hP0 hls hnl hnb hb8
 refine callsIn_wide.1 (callsIn_of_wp_marks (n := 0) Tryz.func42 rfl trivial (wpIn_wide.2 ?_))
 simp only [Tryz.ntmps42,List.size_toArray,List.length_cons,List.length_nil,Nat.reduceAdd,Nat.reduceSub,Array.replicate_succ,Array.replicate_zero,List.push_toArray,List.append_toArray,List.nil_append,List.cons_append]
 try dsimp only
 repeat ((fail_if_success (with_reducible refine wp_reg (id := 0) ?_)); (first | go_values | go_skip | go_step | go_guarded | go_upon | go_in | go_back | fail))
 with_reducible refine wp_reg (id := 0) ?_
 refine wpO_val rfl (load_V (v := .pointer (some ⟨g,0,none⟩)) rfl rfl (by simp [go_sem]) (((unhide hP).get 0 rfl).cell 0)) ?_
 go_frame
 iterate 2
  refine wpO_want rfl ?_
  go_simp
 refine (code_any g bv be V E A l n c w ((unhide hg').ext (unhide hx')) (unhide hlb') (unhide hA') (unhide hn') (unhide hl8') (unhide hc')).mono ?_
 rintro _ y1 ⟨Ac,nc,cc,rfl,hnc,ho1,hxc⟩
 refine ⟨_,rfl, ?_⟩
 replace hP : Hid (Sp w0 T0 w [] [(bg,24, #[.pointer (some ⟨g,0,none⟩)]),(bf,4, #[.bool true]),(bl,31, #[.slice Al nl cl]),(bb,31, #[.slice Ab nb cb])] [(3,1, .slice Al nl cl,nl,ls.flatMap encI),(3,1, .slice Ab nb cb,nb,bs.flatMap encI),(3,1, .slice Ac nc cc,nc,(codeP E l).flatMap encI)] y1) := hide ((unhide hP).addRow hxc ho1)
 have hxw := hide hxc
 have hnc' := hide hnc
 clear ho1 hxc hnc
 refine wpO_want rfl ?_
 go_simp
 refine wpO_done ?_
 try go_frame
 go_wp2_with fail
 have hs0 := hide (show SlAt encI 1 y1 Ac (codeP E l) from own_at (by have h := (unhide hP).row 2 rfl; rw [unhide hnc'] at h; exact h) (fun _ => rfl))
 have hs1 := hide (show SlAt encI 1 y1 Al ls from own_at (by have h := (unhide hP).row 0 rfl; rw [unhide hnl'] at h; exact h) (fun _ => rfl))
 have hs2 := hide ((unhide hA').ext (unhide hxw))
 have hs3 := hide (show SlAt encI 1 y1 Ab bs from own_at (by have h := (unhide hP).row 1 rfl; rw [unhide hnb'] at h; exact h) (fun _ => rfl))
 have hcb : ∀ m : List Int,m.length ≤ 8 → (codeP E m).length ≤ 192 := fun m hm => by
  have h1 := codeP_le E 8 m hm
  have h2 : 3 * 8 * m.length ≤ 3 * 8 * 8 := Nat.mul_le_mul_left _ hm
  omega
 have hnc9 : nc ≤ 100000 := by have := hcb l (by rw [← unhide hn']; exact unhide hl8'); have := unhide hnc'; omega
 have hnl9 : nl ≤ 100000 := by have := hcb bs (unhide hb8'); have h := unhide hnl'; rw [unhide hls'] at h; omega
 obtain ⟨z1,hz1⟩ : ∃ z,z = lcmp (codeP E l) ls := ⟨_,rfl⟩
 obtain ⟨z2,hz2⟩ : ∃ z,z = lcmp l bs := ⟨_,rfl⟩
 obtain ⟨z,hz⟩ : ∃ z,z = orI z1 z2 := ⟨_,rfl⟩
 have hc1 := hide (show ∀ W,Keep [] y1 W → Calls Tryz.prog 45 #[.slice Ac nc cc, .slice Al nl cl] W fun e w' => e = .returned (.int .i64 z1) ∧ Ext W w' from fun W hW => by rw [hz1]; exact compare_any Ac Al (codeP E l) ls nc nl cc cl W ((unhide hs0).keepS hW (by simp)) ((unhide hs1).keepS hW (by simp)) (unhide hnc') (unhide hnl') hnc9 hnl9)
 have hc2 := hide (show ∀ W,Keep [] y1 W → Calls Tryz.prog 45 #[.slice A n c, .slice Ab nb cb] W fun e w' => e = .returned (.int .i64 z2) ∧ Ext W w' from fun W hW => by rw [hz2]; exact compare_any A Ab l bs n nb c cb W ((unhide hs2).keepS hW (by simp)) ((unhide hs3).keepS hW (by simp)) (unhide hn') (unhide hnb') (by have := unhide hl8'; omega) (by have := unhide hnb'; have := unhide hb8'; omega))
 have hor := hide (show ∀ W b,Blk W b 3 #[.int .i64 z1, .int .i64 z2] → Calls Tryz.prog 44 #[.slice (some ⟨b,0,none⟩) 2 2] W fun e w' => e = .returned (.int .i64 z) ∧ Ext W w' from fun W b h => by rw [hz]; exact or_ext z1 z2 b 2 W h)
 have hcm := hide (show z = cmp2 E l bs by rw [hz,hz1,hz2,unhide hls']; rfl)
 clear hz hz1 hz2 hcb hnc9 hnl9 hs0 hs1 hs2 hs3
 by_cases hzn : z < 0
 ·skip
  have hzn' := hide hzn
  clear hzn
  refine wp_regionK (P := Tryz.prog) [] [0,1,2,3,4,5,6,7,8] [] 4 #[true,true,true,true,true,true,true,true,true,false,false,false,false] (by kernel_rfl) (by kernel_rfl) rfl (by rfl) ?_
  refine ql_want (v := .bool true) rfl (by rfl) (fun W hW => qUpon_ofX (load_V rfl rfl (by simp [go_sem]) ((unhide hP).cellK 1 0 rfl rfl (by simp) W hW))) ?_
  go_frame
  iterate 3
   refine ql_want (v := ?_) rfl (by rfl) (fun W hW => ?_) ?_
   rotate_left
   ·go_simp
    first | done | rfl
   go_frame
  refine ql_want (v := .slice Al nl cl) rfl (by rfl) (fun W hW => qUpon_ofX (load_V rfl rfl (by simp [go_sem]) ((unhide hP).cellK 2 0 rfl rfl (by simp) W hW))) ?_
  go_frame
  refine ql_want (v := .int .i64 z1) rfl (by rfl) (fun W hW => ?_) ?_
  ·go_simp
   refine ((unhide hc1) W hW).mono ?_
   rintro _ _ ⟨h1,h2⟩
   exact ⟨_,h1,rfl,h2⟩
  go_frame
  iterate 1
   refine ql_want (v := ?_) rfl (by rfl) (fun W hW => ?_) ?_
   rotate_left
   ·go_simp
    first | done | rfl
   go_frame
  refine ql_want (v := .slice Ab nb cb) rfl (by rfl) (fun W hW => qUpon_ofX (load_V rfl rfl (by simp [go_sem]) ((unhide hP).cellK 3 0 rfl rfl (by simp) W hW))) ?_
  go_frame
  refine ql_want (v := .int .i64 z2) rfl (by rfl) (fun W hW => ?_) ?_
  ·go_simp
   refine ((unhide hc2) W hW).mono ?_
   rintro _ _ ⟨h1,h2⟩
   exact ⟨_,h1,rfl,h2⟩
  go_frame
  refine wpQL_nil (fun y2 hxq => ?_)
  have hK := hide (hxq.keep [])
  replace hP : Hid (Sp w0 T0 w [] [(bg,24, #[.pointer (some ⟨g,0,none⟩)]),(bf,4, #[.bool true]),(bl,31, #[.slice Al nl cl]),(bb,31, #[.slice Ab nb cb])] [(3,1, .slice Al nl cl,nl,ls.flatMap encI),(3,1, .slice Ab nb cb,nb,bs.flatMap encI),(3,1, .slice Ac nc cc,nc,(codeP E l).flatMap encI)] y2) := hide ((unhide hP).ext hxq)
  clear hxq
  refine lx_one (i := 9) (by kernel_rfl) rfl (by rfl) #[true,true,true,true,true,true,true,true,true,true,false,false,false] (by rfl) ?_
  refine (unhide hP).allocL (unhide hK) (v := fun b => .slice (some ⟨b,0,none⟩) 2 2) 3 #[.int .i64 z1, .int .i64 z2] ?_ ?_
  ·go_simp
  intro b9 y3 hQ hK2 hg2
  replace hP : Hid (Sp w0 T0 w [] [(bg,24, #[.pointer (some ⟨g,0,none⟩)]),(bf,4, #[.bool true]),(bl,31, #[.slice Al nl cl]),(bb,31, #[.slice Ab nb cb]),(b9,3, #[.int .i64 z1, .int .i64 z2])] [(3,1, .slice Al nl cl,nl,ls.flatMap encI),(3,1, .slice Ab nb cb,nb,bs.flatMap encI),(3,1, .slice Ac nc cc,nc,(codeP E l).flatMap encI)] y3) := hide hQ
  replace hK := hide hK2
  have hge_b9 := hide hg2
  clear hQ hK2 hg2
  try go_frame
  refine lx_one (i := 10) (by kernel_rfl) rfl (by rfl) #[true,true,true,true,true,true,true,true,true,true,true,false,false] (by rfl) ?_
  go_simp
  refine ((unhide hor) y3 b9 ((unhide hP).get 4 rfl)).mono ?_
  rintro _ zy4 ⟨rfl,hxc⟩
  refine ⟨_,rfl,(unhide hK).trans (hxc.keep _),fun y4 hxd => ?_⟩
  replace hP : Hid (Sp w0 T0 w [] [(bg,24, #[.pointer (some ⟨g,0,none⟩)]),(bf,4, #[.bool true]),(bl,31, #[.slice Al nl cl]),(bb,31, #[.slice Ab nb cb]),(b9,3, #[.int .i64 z1, .int .i64 z2])] [(3,1, .slice Al nl cl,nl,ls.flatMap encI),(3,1, .slice Ab nb cb,nb,bs.flatMap encI),(3,1, .slice Ac nc cc,nc,(codeP E l).flatMap encI)] y4) := hide ((unhide hP).ext (hxc.trans hxd))
  replace hK := hide ((unhide hK).trans ((hxc.trans hxd).keep _))
  clear hxc hxd
  try go_frame
  refine lx_one (i := 11) (by kernel_rfl) rfl (by rfl) #[true,true,true,true,true,true,true,true,true,true,true,true,false] (by rfl) ?_
  refine (unhide hP).valL (unhide hK) (v := .bool true) ?_ ?_
  ·exact run_lssB true rfl rfl rfl (by exact decide_eq_true (unhide hzn'))
  intro y5 hQ hK2
  replace hP : Hid (Sp w0 T0 w [] [(bg,24, #[.pointer (some ⟨g,0,none⟩)]),(bf,4, #[.bool true]),(bl,31, #[.slice Al nl cl]),(bb,31, #[.slice Ab nb cb]),(b9,3, #[.int .i64 z1, .int .i64 z2])] [(3,1, .slice Al nl cl,nl,ls.flatMap encI),(3,1, .slice Ab nb cb,nb,bs.flatMap encI),(3,1, .slice Ac nc cc,nc,(codeP E l).flatMap encI)] y5) := hide hQ
  replace hK := hide hK2
  clear hQ hK2
  try go_frame
  refine lx_one (i := 12) (by kernel_rfl) rfl (by rfl) #[true,true,true,true,true,true,true,true,true,true,true,true,true] (by rfl) ?_
  refine (unhide hP).valL (unhide hK) (v := .bool true) ?_ ?_
  ·go_simp
  intro y6 hQ hK2
  replace hP : Hid (Sp w0 T0 w [] [(bg,24, #[.pointer (some ⟨g,0,none⟩)]),(bf,4, #[.bool true]),(bl,31, #[.slice Al nl cl]),(bb,31, #[.slice Ab nb cb]),(b9,3, #[.int .i64 z1, .int .i64 z2])] [(3,1, .slice Al nl cl,nl,ls.flatMap encI),(3,1, .slice Ab nb cb,nb,bs.flatMap encI),(3,1, .slice Ac nc cc,nc,(codeP E l).flatMap encI)] y6) := hide hQ
  replace hK := hide hK2
  clear hQ hK2
  try go_frame
  have hxw2 := hide ((unhide hxw).trans (Ext.of_keep0 (unhide hK)))
  refine wpX_done (by kernel_rfl) ?_
  try go_frame
  clear hK
  replace hP : Hid (Sp w0 T0 w [] [(bg,24, #[.pointer (some ⟨g,0,none⟩)]),(bf,4, #[.bool true]),(bl,31, #[.slice Al nl cl]),(bb,31, #[.slice Ab nb cb])] [(3,1, .slice Al nl cl,nl,ls.flatMap encI),(3,1, .slice Ab nb cb,nb,bs.flatMap encI),(3,1, .slice Ac nc cc,nc,(codeP E l).flatMap encI)] y6) := hide ((unhide hP).sub (List.sublist_append_left _ ([(b9,3, #[.int .i64 z1, .int .i64 z2])] : List Cl)) (List.Sublist.refl _))
  try dsimp only
  repeat ((fail_if_success (with_reducible refine wp_reg (id := 2) ?_)); (first | go_values | go_skip | go_step | go_guarded | go_upon | go_in | go_back | fail))
  with_reducible refine wp_reg (id := 2) ?_
  iterate 2
   refine wpO_want rfl ?_
   go_simp
  refine (cloneI_any A l n c y6 ((unhide hA').ext (unhide hxw2)) (unhide hn') (by have := unhide hl8'; omega)).mono ?_
  rintro _ y7 ⟨A4,n4,c4,rfl,hn4,ho1,hxc⟩
  refine ⟨_,rfl, ?_⟩
  replace hP : Hid (Sp w0 T0 w [] [(bg,24, #[.pointer (some ⟨g,0,none⟩)]),(bf,4, #[.bool true]),(bl,31, #[.slice Al nl cl]),(bb,31, #[.slice Ab nb cb])] [(3,1, .slice Al nl cl,nl,ls.flatMap encI),(3,1, .slice Ab nb cb,nb,bs.flatMap encI),(3,1, .slice Ac nc cc,nc,(codeP E l).flatMap encI),(3,1, .slice A4 n4 c4,n4,l.flatMap encI)] y7) := hide ((unhide hP).addRow hxc ho1)
  have hn4' := hide hn4
  clear ho1 hxc hn4
  refine wpO_want rfl ?_
  go_simp
  refine (unhide hP).setO 3 #[.slice A4 n4 c4] rfl rfl (fun hb => run_store_row (v := .slice A4 n4 c4) rfl rfl rfl (by simp [go_sem]) hb rfl (by simp [Value.cells,Value.oneCell'])) ?_
  intro y8 hQ
  replace hP : Hid (Sp w0 T0 w [] [(bg,24, #[.pointer (some ⟨g,0,none⟩)]),(bf,4, #[.bool true]),(bl,31, #[.slice Al nl cl]),(bb,31, #[.slice A4 n4 c4])] [(3,1, .slice Al nl cl,nl,ls.flatMap encI),(3,1, .slice Ab nb cb,nb,bs.flatMap encI),(3,1, .slice Ac nc cc,nc,(codeP E l).flatMap encI),(3,1, .slice A4 n4 c4,n4,l.flatMap encI)] y8) := hide hQ
  clear hQ
  refine (unhide hP).setO 2 #[.slice Ac nc cc] rfl rfl (fun hb => run_store_row (v := .slice Ac nc cc) rfl rfl rfl (by simp [go_sem]) hb rfl (by simp [Value.cells,Value.oneCell'])) ?_
  intro y9 hQ
  replace hP : Hid (Sp w0 T0 w [] [(bg,24, #[.pointer (some ⟨g,0,none⟩)]),(bf,4, #[.bool true]),(bl,31, #[.slice Ac nc cc]),(bb,31, #[.slice A4 n4 c4])] [(3,1, .slice Al nl cl,nl,ls.flatMap encI),(3,1, .slice Ab nb cb,nb,bs.flatMap encI),(3,1, .slice Ac nc cc,nc,(codeP E l).flatMap encI),(3,1, .slice A4 n4 c4,n4,l.flatMap encI)] y9) := hide hQ
  clear hQ
  refine (unhide hP).setO 1 #[.bool true] rfl rfl (fun hb => run_store_row (v := .bool true) rfl rfl rfl (by simp [go_sem]) hb rfl (by simp [Value.cells,Value.oneCell'])) ?_
  intro y10 hQ
  replace hP : Hid (Sp w0 T0 w [] [(bg,24, #[.pointer (some ⟨g,0,none⟩)]),(bf,4, #[.bool true]),(bl,31, #[.slice Ac nc cc]),(bb,31, #[.slice A4 n4 c4])] [(3,1, .slice Al nl cl,nl,ls.flatMap encI),(3,1, .slice Ab nb cb,nb,bs.flatMap encI),(3,1, .slice Ac nc cc,nc,(codeP E l).flatMap encI),(3,1, .slice A4 n4 c4,n4,l.flatMap encI)] y10) := hide hQ
  clear hQ
  refine wpO_done ?_
  try go_frame
  go_wp2_with fail
  have hfin := (unhide hP).sub (List.Sublist.refl _) (List.Sublist.cons _ (List.Sublist.cons _ (List.Sublist.refl _)) : List.Sublist ([(3,1, .slice Ac nc cc,nc,(codeP E l).flatMap encI),(3,1, .slice A4 n4 c4,n4,l.flatMap encI)] : List Rw) _)
  rw [unhide hT0'] at hfin
  refine Sp.leaves0 ?_
  refine ⟨_,results_none rfl _ _ _, ?_⟩
  exact CanPost.mk (s := some l) (q := true) (Al := Ac) (nl := nc) (cl := cc) (Ab := A4) (nb := n4) (cb := c4) (ls := codeP E l) (bs := l) (unhide hT') hfin rfl (by rw [List.foldl_append,unhide hs']; show some l = (if cmp2 E l bs < 0 then some l else some bs); rw [if_pos (by rw [← unhide hcm]; exact unhide hzn')]) (unhide hnc') (unhide hn4') (fun b h => by cases h; exact ⟨rfl,rfl,by rw [← unhide hn']; exact unhide hl8'⟩)
 ·skip
  have hzn' := hide hzn
  clear hzn
  refine wp_regionK (P := Tryz.prog) [] [0,1,2,3,4,5,6,7,8] [] 4 #[true,true,true,true,true,true,true,true,true,false,false,false,false] (by kernel_rfl) (by kernel_rfl) rfl (by rfl) ?_
  refine ql_want (v := .bool true) rfl (by rfl) (fun W hW => qUpon_ofX (load_V rfl rfl (by simp [go_sem]) ((unhide hP).cellK 1 0 rfl rfl (by simp) W hW))) ?_
  go_frame
  iterate 3
   refine ql_want (v := ?_) rfl (by rfl) (fun W hW => ?_) ?_
   rotate_left
   ·go_simp
    first | done | rfl
   go_frame
  refine ql_want (v := .slice Al nl cl) rfl (by rfl) (fun W hW => qUpon_ofX (load_V rfl rfl (by simp [go_sem]) ((unhide hP).cellK 2 0 rfl rfl (by simp) W hW))) ?_
  go_frame
  refine ql_want (v := .int .i64 z1) rfl (by rfl) (fun W hW => ?_) ?_
  ·go_simp
   refine ((unhide hc1) W hW).mono ?_
   rintro _ _ ⟨h1,h2⟩
   exact ⟨_,h1,rfl,h2⟩
  go_frame
  iterate 1
   refine ql_want (v := ?_) rfl (by rfl) (fun W hW => ?_) ?_
   rotate_left
   ·go_simp
    first | done | rfl
   go_frame
  refine ql_want (v := .slice Ab nb cb) rfl (by rfl) (fun W hW => qUpon_ofX (load_V rfl rfl (by simp [go_sem]) ((unhide hP).cellK 3 0 rfl rfl (by simp) W hW))) ?_
  go_frame
  refine ql_want (v := .int .i64 z2) rfl (by rfl) (fun W hW => ?_) ?_
  ·go_simp
   refine ((unhide hc2) W hW).mono ?_
   rintro _ _ ⟨h1,h2⟩
   exact ⟨_,h1,rfl,h2⟩
  go_frame
  refine wpQL_nil (fun y2 hxq => ?_)
  have hK := hide (hxq.keep [])
  replace hP : Hid (Sp w0 T0 w [] [(bg,24, #[.pointer (some ⟨g,0,none⟩)]),(bf,4, #[.bool true]),(bl,31, #[.slice Al nl cl]),(bb,31, #[.slice Ab nb cb])] [(3,1, .slice Al nl cl,nl,ls.flatMap encI),(3,1, .slice Ab nb cb,nb,bs.flatMap encI),(3,1, .slice Ac nc cc,nc,(codeP E l).flatMap encI)] y2) := hide ((unhide hP).ext hxq)
  clear hxq
  refine lx_one (i := 9) (by kernel_rfl) rfl (by rfl) #[true,true,true,true,true,true,true,true,true,true,false,false,false] (by rfl) ?_
  refine (unhide hP).allocL (unhide hK) (v := fun b => .slice (some ⟨b,0,none⟩) 2 2) 3 #[.int .i64 z1, .int .i64 z2] ?_ ?_
  ·go_simp
  intro b9 y3 hQ hK2 hg2
  replace hP : Hid (Sp w0 T0 w [] [(bg,24, #[.pointer (some ⟨g,0,none⟩)]),(bf,4, #[.bool true]),(bl,31, #[.slice Al nl cl]),(bb,31, #[.slice Ab nb cb]),(b9,3, #[.int .i64 z1, .int .i64 z2])] [(3,1, .slice Al nl cl,nl,ls.flatMap encI),(3,1, .slice Ab nb cb,nb,bs.flatMap encI),(3,1, .slice Ac nc cc,nc,(codeP E l).flatMap encI)] y3) := hide hQ
  replace hK := hide hK2
  have hge_b9 := hide hg2
  clear hQ hK2 hg2
  try go_frame
  refine lx_one (i := 10) (by kernel_rfl) rfl (by rfl) #[true,true,true,true,true,true,true,true,true,true,true,false,false] (by rfl) ?_
  go_simp
  refine ((unhide hor) y3 b9 ((unhide hP).get 4 rfl)).mono ?_
  rintro _ zy4 ⟨rfl,hxc⟩
  refine ⟨_,rfl,(unhide hK).trans (hxc.keep _),fun y4 hxd => ?_⟩
  replace hP : Hid (Sp w0 T0 w [] [(bg,24, #[.pointer (some ⟨g,0,none⟩)]),(bf,4, #[.bool true]),(bl,31, #[.slice Al nl cl]),(bb,31, #[.slice Ab nb cb]),(b9,3, #[.int .i64 z1, .int .i64 z2])] [(3,1, .slice Al nl cl,nl,ls.flatMap encI),(3,1, .slice Ab nb cb,nb,bs.flatMap encI),(3,1, .slice Ac nc cc,nc,(codeP E l).flatMap encI)] y4) := hide ((unhide hP).ext (hxc.trans hxd))
  replace hK := hide ((unhide hK).trans ((hxc.trans hxd).keep _))
  clear hxc hxd
  try go_frame
  refine lx_one (i := 11) (by kernel_rfl) rfl (by rfl) #[true,true,true,true,true,true,true,true,true,true,true,true,false] (by rfl) ?_
  refine (unhide hP).valL (unhide hK) (v := .bool false) ?_ ?_
  ·exact run_lssB false rfl rfl rfl (by exact decide_eq_false (by have := unhide hzn'; omega))
  intro y5 hQ hK2
  replace hP : Hid (Sp w0 T0 w [] [(bg,24, #[.pointer (some ⟨g,0,none⟩)]),(bf,4, #[.bool true]),(bl,31, #[.slice Al nl cl]),(bb,31, #[.slice Ab nb cb]),(b9,3, #[.int .i64 z1, .int .i64 z2])] [(3,1, .slice Al nl cl,nl,ls.flatMap encI),(3,1, .slice Ab nb cb,nb,bs.flatMap encI),(3,1, .slice Ac nc cc,nc,(codeP E l).flatMap encI)] y5) := hide hQ
  replace hK := hide hK2
  clear hQ hK2
  try go_frame
  refine lx_one (i := 12) (by kernel_rfl) rfl (by rfl) #[true,true,true,true,true,true,true,true,true,true,true,true,true] (by rfl) ?_
  refine (unhide hP).valL (unhide hK) (v := .bool false) ?_ ?_
  ·go_simp
  intro y6 hQ hK2
  replace hP : Hid (Sp w0 T0 w [] [(bg,24, #[.pointer (some ⟨g,0,none⟩)]),(bf,4, #[.bool true]),(bl,31, #[.slice Al nl cl]),(bb,31, #[.slice Ab nb cb]),(b9,3, #[.int .i64 z1, .int .i64 z2])] [(3,1, .slice Al nl cl,nl,ls.flatMap encI),(3,1, .slice Ab nb cb,nb,bs.flatMap encI),(3,1, .slice Ac nc cc,nc,(codeP E l).flatMap encI)] y6) := hide hQ
  replace hK := hide hK2
  clear hQ hK2
  try go_frame
  have hxw2 := hide ((unhide hxw).trans (Ext.of_keep0 (unhide hK)))
  refine wpX_done (by kernel_rfl) ?_
  try go_frame
  clear hK
  replace hP : Hid (Sp w0 T0 w [] [(bg,24, #[.pointer (some ⟨g,0,none⟩)]),(bf,4, #[.bool true]),(bl,31, #[.slice Al nl cl]),(bb,31, #[.slice Ab nb cb])] [(3,1, .slice Al nl cl,nl,ls.flatMap encI),(3,1, .slice Ab nb cb,nb,bs.flatMap encI),(3,1, .slice Ac nc cc,nc,(codeP E l).flatMap encI)] y6) := hide ((unhide hP).sub (List.sublist_append_left _ ([(b9,3, #[.int .i64 z1, .int .i64 z2])] : List Cl)) (List.Sublist.refl _))
  go_wp2_with fail
  have hfin := (unhide hP).sub (List.Sublist.refl _) (List.sublist_append_left ([(3,1, .slice Al nl cl,nl,ls.flatMap encI),(3,1, .slice Ab nb cb,nb,bs.flatMap encI)] : List Rw) ([(3,1, .slice Ac nc cc,nc,(codeP E l).flatMap encI)] : List Rw))
  rw [unhide hT0'] at hfin
  refine Sp.leaves0 ?_
  refine ⟨_,results_none rfl _ _ _, ?_⟩
  exact CanPost.mk (s := some bs) (q := true)  (unhide hT') hfin rfl (by rw [List.foldl_append,unhide hs']; show some bs = (if cmp2 E l bs < 0 then some l else some bs); rw [if_neg (by rw [← unhide hcm]; have := unhide hzn'; omega)]) (unhide hnl') (unhide hnb') (fun b h => by cases h; exact ⟨rfl,unhide hls',unhide hb8'⟩)
theorem can_tell (w0 : World) (g bv be bg bf bl bb m : Nat) (V : List (Int × Thing)) (E : List ((Int × Int) × Thing)) (hg : IsG w0 g bv be V E) (hlb : LabB V E) (hm : m ≤ 8) : Tell 42 #[.pointer (some ⟨bg,0,none⟩), .pointer (some ⟨bf,0,none⟩), .pointer (some ⟨bl,0,none⟩), .pointer (some ⟨bb,0,none⟩)] none m (CanJ w0 g bg bf bl bb E) where
 enters := Go.Proofs.enters_of Tryz.func42 (by kernel_rfl) rfl
 keep := CanJ.keep
 lt := CanJ.lt
 step := by
  rintro told l T W A n c ⟨s,Al,nl,cl,Ab,nb,cb,ls,bs,hs,hst,hT,hx,hl,hb,hc⟩ hn hnm hcap hA _
  have e : (#[Value.slice A n c] ++ #[.pointer (some ⟨bg,0,none⟩), .pointer (some ⟨bf,0,none⟩), .pointer (some ⟨bl,0,none⟩), .pointer (some ⟨bb,0,none⟩)] : Array Value) = #[.slice A n c, .pointer (some ⟨bg,0,none⟩), .pointer (some ⟨bf,0,none⟩), .pointer (some ⟨bl,0,none⟩), .pointer (some ⟨bb,0,none⟩)] := rfl
  rw [e]
  have key : Calls Tryz.prog 42 #[.slice A n c, .pointer (some ⟨bg,0,none⟩), .pointer (some ⟨bf,0,none⟩), .pointer (some ⟨bl,0,none⟩), .pointer (some ⟨bb,0,none⟩)] W (CanPost w0 g bg bf bl bb E (told ++ [l]) T W) := by
   cases s with
   | none => exact can1_none w0 W g bv be bg bf bl bb V E hg hlb told l T A n c Al nl cl Ab nb cb ls bs hT hst hx hs.symm hn (by omega) hcap hA
   | some b =>
    obtain ⟨rfl,h2,h3⟩ := hc b rfl
    exact can1_some w0 W g bv be bg bf bl bb V E hg hlb told l T A n c Al nl cl Ab nb cb ls bs hT hst hx hs.symm h2 hl hb h3 hn (by omega) hcap hA
  exact key.mono fun e w' h => h
end Go.Proofs.YtbpeemhfjgcnaaaGreat
