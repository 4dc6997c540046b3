/- Parts of a proof, laid together. Each part says its own conditions. -/
import Derived.Test.YtbpeemhfjgcnaaaGreatC24
import Derived.Test.YtbpeemhfjgcnaaaGreatC22
import Derived.Test.YtbpeemhfjgcnaaaGreatC17
namespace Go.Proofs.YtbpeemhfjgcnaaaGreat
open Go Go.RowKit Go.Shelf
theorem infoSl : (Tryz.prog.info? 31).map (fun i => (i.zero.map (·.cells.size),i.size,i.bytes)) = some (some 1,1,24) := by kernel_rfl
def SSAt (w : World) (A : Option Addr) (KK : List (List Int)) : Prop := ∃ ps : List Sl,ps.length = KK.length ∧ SlAt encSl 1 w A ps ∧ ∀ (i : Nat) (h : i < ps.length) (h2 : i < KK.length),ps[i].2.1 = KK[i].length ∧ SlAt encI 1 w ps[i].1 KK[i]
theorem SSAt.ext {w w' : World} {A : Option Addr} {KK : List (List Int)} (h : SSAt w A KK) (hx : Ext w w') : SSAt w' A KK := by
 obtain ⟨ps,h1,h2,h3⟩ := h
 exact ⟨ps,h1,h2.ext hx,fun i a b => ⟨(h3 i a b).1,(h3 i a b).2.ext hx⟩⟩
theorem SSAt.nil (w : World) : SSAt w none [] := ⟨[],rfl,fun h => absurd rfl h,fun i h => by simp at h⟩
theorem SSAt.get {w : World} {A : Option Addr} {KK : List (List Int)} (h : SSAt w A KK) (hne : 0 < KK.length) : ∃ b off,A = some ⟨b,off,none⟩ ∧ ∀ (i : Nat) (_ : i < KK.length), ∃ a c,(∀ S W,Keep S w W → b ∉ S → W.cell? ⟨b,off + i,none⟩ = some (.slice a KK[i].length c)) ∧ SlAt encI 1 w a KK[i] := by
 obtain ⟨ps,h1,h2,h3⟩ := h
 obtain ⟨b,off,hA,hlt,hc⟩ := h2 (fun e => by rw [e] at h1; simp at h1; omega)
 refine ⟨b,off,hA,fun i hi => ?_⟩
 have hi2 : i < ps.length := by rw [h1]; exact hi
 obtain ⟨h4,h5⟩ := h3 i hi2 hi
 refine ⟨ps[i].1,ps[i].2.2,fun S W hk hn => ?_,h5⟩
 rw [World.cell?_of_block (hk.block b hlt hn), ← h4]
 have := hc i _ (List.getElem?_eq_getElem hi2) 0 (.slice ps[i].1 ps[i].2.1 ps[i].2.2) rfl
 rw [show off + i * 1 + 0 = off + i by omega] at this
 exact this
theorem get_tail {α : Type} (a x : α) (l : List α) : (a :: (l ++ [x]))[l.length + 1]? = some x := by simp
theorem set_tail {α : Type} (a x y : α) (l : List α) : (a :: (l ++ [x])).set (l.length + 1) y = a :: (l ++ [y]) := by simp
section
variable {wf w W : World} {T0 : List Nat} {ds : List Deferred} {L : List Cl} {v : Value} {n : Nat} {J : List (Sl × List Int)} {tl : List Rw} {T : TypeId}
theorem Sp.joinJ {p : Sl × List Int} (h : Sp wf T0 w ds L ((T,1,v,n,(J.map (·.1) ++ [p.1]).flatMap encSl) :: (J.map rowJ ++ [rowJ p])) W) : Sp wf T0 w ds L ((T,1,v,n,((J ++ [p]).map (·.1)).flatMap encSl) :: ((J ++ [p]).map rowJ)) W := by
 rw [List.map_append,List.map_append]
 exact h
theorem Sp.atJ (h : Sp wf T0 w ds L ((T,1,v,n,(J.map (·.1)).flatMap encSl) :: (J.map rowJ ++ tl)) W) {k : Nat} (hk : k < J.length) (hl : J[k].1.2.1 = J[k].2.length) : SlAt encI 1 W J[k].1.1 J[k].2 := by
 have h1 := h.row (k + 1) (T := 3) (k := 1) (v := .slice J[k].1.1 J[k].1.2.1 J[k].1.2.2) (n := J[k].1.2.1) (xs := J[k].2.flatMap encI) (by
  rw [List.getElem?_cons_succ,List.getElem?_append_left (by rw [List.length_map]; exact hk),List.getElem?_map,List.getElem?_eq_getElem hk]; rfl)
 rw [hl] at h1
 exact own_at (enc := encI) h1 (fun _ => rfl)
theorem Sp.ss (h : Sp wf T0 w ds L ((T,1,v,n,(J.map (·.1)).flatMap encSl) :: (J.map rowJ ++ tl)) W) (hl : ∀ p ∈ J,p.1.2.1 = p.2.length) {A : Option Addr} {c : Nat} (hv : v = .slice A n c) (hn : n = J.length) : SSAt W A (J.map (·.2)) := by
 subst hv
 refine ⟨J.map (·.1),by rw [List.length_map,List.length_map], ?_,fun i hi h2 => ?_⟩
 ·have h1 := h.row 0 rfl
  rw [hn, ← List.length_map (f := fun p : Sl × List Int => p.1)] at h1
  exact own_at (enc := encSl) h1 (fun _ => rfl)
 ·have hi' : i < J.length := by simpa using hi
  have hli := hl J[i] (List.getElem_mem hi')
  simp only [List.getElem_map]
  exact ⟨hli,h.atJ hi' hli⟩
end
theorem run_buildSl {ρ : Operand → Value} {o : Oper} {x : Operand} {w : World} {a : Option Addr} {n c : Nat} (ho : o.op = .buildSlice 42 1 #[(0,x)]) (hx : ρ x = .slice a n c) : (execOp ρ o).run Tryz.prog w = .ok (.value (.slice (some ⟨w.heap.size,0,none⟩) 1 1)) (w.alloc (.cells #[.slice a n c] 31)) := by
 unfold execOp
 simp only [ho]
 simp [go_sem,hx]
theorem RowIs.up {b : Nat} {W : World} {r : Rw} (h : RowIs 0 W r) (hb : ∀ g,rwB r = some g → b ≤ g) : RowIs b W r := by
 unfold RowIs rwB at *
 split
 ·rename_i hz
  rw [if_pos hz] at h
  obtain ⟨mb,e,h1,h2⟩ := h
  refine ⟨mb,e,hb mb ?_,h2⟩
  rw [if_pos hz,e]
  rfl
 ·rename_i hz
  rw [if_neg hz] at h
  obtain ⟨h0,h1 | ⟨g,cap,cur,hv,_,hr⟩⟩ := h
  ·exact ⟨h0, .inl h1⟩
  ·refine ⟨h0, .inr ⟨g,cap,cur,hv,hb g ?_,hr⟩⟩
   rw [if_neg hz,hv]
   rfl
theorem St.up {b : Nat} {L : List Cl} {Rs : List Rw} {W : World} (h : St 0 L Rs W) (hb : ∀ x ∈ stT L Rs,b ≤ x) : St b L Rs W := ⟨h.cells,fun r hr => (h.rows r hr).up fun g hg => hb g (List.mem_append.2 (.inr (mem_rwT.2 ⟨r,hr,hg⟩))),h.nd,hb⟩
theorem St.down {b : Nat} {L : List Cl} {Rs : List Rw} {W : World} (h : St b L Rs W) : St 0 L Rs W := ⟨h.cells,fun r hr => (h.rows r hr).le (Nat.zero_le _),h.nd,fun _ _ => Nat.zero_le _⟩
def bare (w : World) : World := { w with heap := #[] }
theorem ext_bare (w : World) : Ext (bare w) w := ⟨rfl,rfl,rfl,Nat.zero_le _,fun i hi => absurd hi (Nat.not_lt_zero i)⟩
theorem Sp.bare {w : World} {L : List Cl} {Rs : List Rw} (h : St 0 L Rs w) : Sp (bare w) (stT L Rs) w [] L Rs w := ⟨h,ext_bare w,Keep.refl _ _, .refl _ _, .nil _,by simp⟩
def ssR (A : Option Addr) (n c : Nat) (J : List (Sl × List Int)) : List Rw := (31,1, .slice A n c,n,(J.map (·.1)).flatMap encSl) :: J.map rowJ
def OwSS (b : Nat) (KK : List (List Int)) (A : Option Addr) (n c : Nat) (J : List (Sl × List Int)) (w' : World) : Prop := n = J.length ∧ J.map (·.2) = KK ∧ (∀ p ∈ J,p.1.2.1 = p.2.length) ∧ St b [] (ssR A n c J) w'
theorem OwSS.at {b : Nat} {KK : List (List Int)} {A : Option Addr} {n c : Nat} {J : List (Sl × List Int)} {w : World} (h : OwSS b KK A n c J w) : SSAt w A KK ∧ n = KK.length := by
 obtain ⟨h1,h2,h3,h4⟩ := h
 refine ⟨?_,by rw [← h2,List.length_map]; exact h1⟩
 rw [← h2]
 exact Sp.ss (tl := []) (by rw [List.append_nil]; exact Sp.bare h4.down) h3 rfl h1
end Go.Proofs.YtbpeemhfjgcnaaaGreat
namespace Go.Proofs.YtbpeemhfjgcnaaaGreat
open Go Go.RowKit Go.Shelf
attribute [local go_sem] qUpon lUpon
attribute [local irreducible] wpO wpX wpQL
def encPt (p : Option Addr) : List Value := [.pointer p]
theorem atPt {w : World} {A : Option Addr} {L : List (Option Addr)} (h : SlAt encPt 1 w A L) {i : Nat} (hi : i < L.length) : ∃ b off,A = some ⟨b,off,none⟩ ∧ (∀ W,Ext w W → W.cell? ⟨b,off + i,none⟩ = some (.pointer L[i])) := by
 obtain ⟨b,off,hA,hc⟩ := h.at_ hi
 refine ⟨b,off,hA, ?_⟩
 have := hc 0 _ rfl
 simpa using this
theorem len_rel (g bv be : Nat) (V : List (Int × Thing)) (E : List ((Int × Int) × Thing)) (w : World) (hg : IsG w g bv be V E) : Calls Tryz.prog 69 #[.pointer (some ⟨g,0,none⟩)] w fun e w' => e = .returned (.tuple #[.int .i64 V.length, .int .i64 E.length]) ∧ Ext w w' := by
 obtain ⟨V',E',h1,hV,hE,hi⟩ := hg
 rw [hV.length_eq,hE.length_eq]
 exact len_any g bv be V' E' w h1
def AskIs (w : World) (p : Option Addr) (e : Nat) : Prop := (p = none ∧ e = 1) ∨ ∃ g bv be V E,p = some ⟨g,0,none⟩ ∧ IsG w g bv be V E ∧ e = if 8 < V.length then 2 else 0
theorem AskIs.ext {w w' : World} {p : Option Addr} {e : Nat} (h : AskIs w p e) (hx : Ext w w') : AskIs w' p e := by
 rcases h with h | ⟨g,bv,be,V,E,h1,h2,h3⟩
 ·exact .inl h
 ·exact .inr ⟨g,bv,be,V,E,h1,h2.ext hx,h3⟩
def askL : List Nat → Nat
 | [] => 0
 | e :: r => if e = 0 then askL r else e
theorem askL_drop {es : List Nat} {i : Nat} (hi : i < es.length) : askL (es.drop i) = if es[i] = 0 then askL (es.drop (i + 1)) else es[i] := by
 rw [List.drop_eq_getElem_cons hi]
 rfl
set_option maxRecDepth 100000 in
set_option maxHeartbeats 16000000 in
theorem asked_any (A : Option Addr) (ps : List (Option Addr)) (es : List Nat) (n cA : Nat) (w : World) (hA : SlAt encPt 1 w A ps) (hn : n = ps.length) (hm : n = es.length) (hl : n ≤ 100) (hP : ∀ i (h1 : i < ps.length) (h2 : i < es.length),AskIs w ps[i] es[i]) :
  Calls Tryz.prog 39 #[.slice A n cA] w fun e w' => e = .returned (.int .i64 (askL es : Nat)) ∧ Ext w w' := by
 have hA' := hide hA
 have hn' := hide hn
 have hm' := hide hm
 have hl' := hide hl
 have hps := hide hP
 clear hA hn hm hl hP
 have hP := hide (Sp.new w)
 refine callsIn_wide.1 (callsIn_of_wp_marks (n := 0) Tryz.func39 rfl trivial (wpIn_wide.2 ?_))
 simp only [Tryz.ntmps39,List.size_toArray,List.length_cons,List.length_nil,Nat.reduceAdd,Nat.reduceSub,Array.replicate_succ,Array.replicate_zero,List.push_toArray,List.append_toArray,List.nil_append,List.cons_append]
 try dsimp only
 repeat ((fail_if_success (with_reducible refine wp_reg (id := 0) ?_)); (first | go_values | go_skip | go_step | go_guarded | go_upon | go_in | go_back | fail))
 with_reducible refine wp_reg (id := 0) ?_
 refine wpO_want rfl ?_
 go_simp
 refine wpO_done ?_
 try go_frame
 try dsimp only
 repeat ((fail_if_success (with_reducible refine wp_reg (id := 1) ?_)); (first | go_values | go_skip | go_step | go_guarded | go_upon | go_in | go_back | fail))
 with_reducible refine wp_reg (id := 1) ?_
 iterate 3
  refine wpO_want rfl ?_
  go_simp
 refine wpO_done ?_
 try go_frame
 go_wp2_with fail
 obtain ⟨I0_2,hI0_20⟩ : ∃ I : Nat → Act → World → Prop,I = fun fi a' wr => ∃ (i : Nat),a'.tmps.size = 23 ∧ a'.tmps.getD 0 undef = .slice A n cA ∧ a'.tmps.getD 2 undef = .int .i64 0 ∧ a'.tmps.getD 7 undef = .slice A n cA ∧ a'.tmps.getD 8 undef = .int .i64 (n : Nat) ∧ a'.tmps.getD 9 undef = .int .i64 (i : Nat) ∧ a'.defers = [] ∧ i ≤ n ∧ askL (es.drop i) = askL es ∧ Sp w [] w [] [] [] wr ∧ fi = n - i := ⟨_,rfl⟩
 have hI0_2 := hide hI0_20
 clear hI0_20
 refine wp_loop_ix I0_2 (n - 0) ?_ ?_
 ·rw [unhide hI0_2]; exact ⟨0,rfl,rfl,rfl,rfl,rfl,rfl,rfl,Nat.zero_le _,rfl,unhide hP,rfl⟩
 ·rintro fi ⟨tm,dfs⟩ wr hrel
  rw [unhide hI0_2] at hrel
  obtain ⟨i,hsz,e0,e2,e7,e8,e9,hdf,hin,hlc,hPr,hfm⟩ := hrel
  obtain ⟨us,rfl⟩ : ∃ us : Nat → Value,tm = #[us 0,us 1,us 2,us 3,us 4,us 5,us 6,us 7,us 8,us 9,us 10,us 11,us 12,us 13,us 14,us 15,us 16,us 17,us 18,us 19,us 20,us 21,us 22] := ⟨fun i => tm.getD i undef,arr_fn hsz⟩
  have h0 : us 0 = .slice A n cA := e0
  have h2 : us 2 = .int .i64 0 := e2
  have h7 : us 7 = .slice A n cA := e7
  have h8 : us 8 = .int .i64 (n : Nat) := e8
  have h9 : us 9 = .int .i64 (i : Nat) := e9
  have hdf2 : dfs = [] := hdf
  subst hdf2
  clear hdf hsz e0 e2 e7 e8 e9
  simp only [h0,h2,h7,h8,h9]
  clear h0 h2 h7 h8 h9
  clear hP
  have hP := hide hPr
  have hfm' := hide hfm
  have hlc' := hide hlc
  have hAr := hide ((unhide hA').ext (unhide hP).extf)
  clear hPr hfm hlc
  by_cases hlt : i < n
  ·skip
   have hil : (i : Int) < (n : Int) := by omega
   have hiL : i < ps.length := by have := unhide hn'; omega
   have hiE : i < es.length := by have := unhide hm'; omega
   have hib : (i : Int) ≤ 100 := by have := unhide hl'; omega
   have hask := (unhide hps i hiL hiE).ext (unhide hP).extf
   have hdr := hide (askL_drop hiE)
   obtain ⟨b,off,rfl,c0⟩ := atPt (unhide hAr) hiL
   have hself := Ext.refl wr
   generalize ps[i] = pz at *
   generalize es[i] = ez at *
   have hask' := hide hask
   clear hask
   try dsimp only
   repeat ((fail_if_success (with_reducible refine wp_reg (id := 2) ?_)); (first | go_values | go_skip | go_step | go_guarded | go_upon | go_in | go_back | fail))
   with_reducible refine wp_reg (id := 2) ?_
   refine wpO_want rfl ?_
   go_simp
   refine wpO_done ?_
   try go_frame
   try dsimp only
   repeat ((fail_if_success (with_reducible refine wp_reg (id := 3) ?_)); (first | go_values | go_skip | go_step | go_guarded | go_upon | go_in | go_back | fail))
   with_reducible refine wp_reg (id := 3) ?_
   iterate 3
    refine wpO_want rfl ?_
    go_simp
   refine wpO_done ?_
   try go_frame
   clear c0 hself
   have hask := unhide hask'
   clear hask'
   rcases hask with ⟨rfl,he⟩ | ⟨g,bv,be,V,E,rfl,hg0,he⟩
   ·skip
    have he' := hide he
    clear he
    try dsimp only
    repeat ((fail_if_success (with_reducible refine wp_reg (id := 4) ?_)); (first | go_values | go_skip | go_step | go_guarded | go_upon | go_in | go_back | fail))
    with_reducible refine wp_reg (id := 4) ?_
    iterate 2
     refine wpO_want rfl ?_
     go_simp
    refine wpO_done ?_
    try go_frame
    try dsimp only
    repeat ((fail_if_success (with_reducible refine wp_reg (id := 5) ?_)); (first | go_values | go_skip | go_step | go_guarded | go_upon | go_in | go_back | fail))
    with_reducible refine wp_reg (id := 5) ?_
    refine wpO_want rfl ?_
    go_simp
    refine wpO_done ?_
    try go_frame
    go_wp2_with fail
    have hdr2 := unhide hdr
    rw [if_neg (by have := unhide he'; omega),unhide hlc',unhide he'] at hdr2
    refine Sp.leaves0 ?_
    exact ⟨_,results_tmp rfl _ _ _,by rw [hdr2]; rfl,(unhide hP).extf⟩
   ·skip
    have hg := hide hg0
    have he' := hide he
    clear hg0 he
    try dsimp only
    repeat ((fail_if_success (with_reducible refine wp_reg (id := 4) ?_)); (first | go_values | go_skip | go_step | go_guarded | go_upon | go_in | go_back | fail))
    with_reducible refine wp_reg (id := 4) ?_
    iterate 2
     refine wpO_want rfl ?_
     go_simp
    refine wpO_done ?_
    try go_frame
    try dsimp only
    repeat ((fail_if_success (with_reducible refine wp_reg (id := 6) ?_)); (first | go_values | go_skip | go_step | go_guarded | go_upon | go_in | go_back | fail))
    with_reducible refine wp_reg (id := 6) ?_
    iterate 2
     refine wpO_want rfl ?_
     go_simp
    refine (len_rel g bv be V E wr (unhide hg)).mono ?_
    rintro _ y1 ⟨rfl,hxc⟩
    refine ⟨_,rfl, ?_⟩
    replace hP : Hid (Sp w [] w [] [] [] y1) := hide ((unhide hP).ext hxc)
    clear hxc
    generalize htu0 : Value.tuple _ = tu
    have htu := hide htu0
    clear htu0
    refine wpO_val rfl (run_move rfl rfl) ?_
    go_frame
    refine wpO_val rfl (run_extract (i := 0) (v := .int .i64 V.length) rfl (unhide htu).symm rfl) ?_
    go_frame
    refine wpO_val rfl (run_extract (i := 1) (v := .int .i64 E.length) rfl (unhide htu).symm rfl) ?_
    go_frame
    iterate 2
     refine wpO_want rfl ?_
     go_simp
    refine wpO_done ?_
    try go_frame
    clear htu
    by_cases h8 : 8 < V.length
    ·skip
     have h8b : (8:Int) < (V.length : Int) := by omega
     have he2 := hide ((unhide he').trans (if_pos h8))
     clear he' h8
     try dsimp only
     repeat ((fail_if_success (with_reducible refine wp_reg (id := 7) ?_)); (first | go_values | go_skip | go_step | go_guarded | go_upon | go_in | go_back | fail))
     with_reducible refine wp_reg (id := 7) ?_
     iterate 2
      refine wpO_want rfl ?_
      go_simp
     refine wpO_done ?_
     try go_frame
     try dsimp only
     repeat ((fail_if_success (with_reducible refine wp_reg (id := 8) ?_)); (first | go_values | go_skip | go_step | go_guarded | go_upon | go_in | go_back | fail))
     with_reducible refine wp_reg (id := 8) ?_
     refine wpO_want rfl ?_
     go_simp
     refine wpO_done ?_
     try go_frame
     go_wp2_with fail
     have hdr2 := unhide hdr
     rw [if_neg (by have := unhide he2; omega),unhide hlc',unhide he2] at hdr2
     refine Sp.leaves0 ?_
     exact ⟨_,results_tmp rfl _ _ _,by rw [hdr2]; rfl,(unhide hP).extf⟩
    ·skip
     have h8b : ¬ (8:Int) < (V.length : Int) := by omega
     have he2 := hide ((unhide he').trans (if_neg h8))
     clear he' h8
     try dsimp only
     repeat ((fail_if_success (with_reducible refine wp_reg (id := 7) ?_)); (first | go_values | go_skip | go_step | go_guarded | go_upon | go_in | go_back | fail))
     with_reducible refine wp_reg (id := 7) ?_
     iterate 2
      refine wpO_want rfl ?_
      go_simp
     refine wpO_done ?_
     try go_frame
     clear h8b
     go_wp2_with fail
     have hdr2 := unhide hdr
     rw [if_pos (unhide he2),unhide hlc'] at hdr2
     refine ⟨n - (i + 1), ?_,by have := unhide hfm'; omega⟩
     rw [unhide hI0_2]
     exact ⟨i + 1,(by first | rfl | trivial),(by first | rfl | trivial),(by first | rfl | trivial),(by first | rfl | trivial),(by first | rfl | trivial),(by first | rfl | (show _ = Value.int _ _; go_num) | go_num),(by first | rfl | trivial),by omega,hdr2.symm,unhide hP,rfl⟩
  ·skip
   have hil : ¬ (i : Int) < (n : Int) := by omega
   obtain rfl : n = i := by omega
   clear hlt hin
   try dsimp only
   repeat ((fail_if_success (with_reducible refine wp_reg (id := 2) ?_)); (first | go_values | go_skip | go_step | go_guarded | go_upon | go_in | go_back | fail))
   with_reducible refine wp_reg (id := 2) ?_
   refine wpO_want rfl ?_
   go_simp
   refine wpO_done ?_
   try go_frame
   try dsimp only
   repeat ((fail_if_success (with_reducible refine wp_reg (id := 10) ?_)); (first | go_values | go_skip | go_step | go_guarded | go_upon | go_in | go_back | fail))
   with_reducible refine wp_reg (id := 10) ?_
   refine wpO_want rfl ?_
   go_simp
   refine wpO_done ?_
   try go_frame
   go_wp2_with fail
   have hlc2 := unhide hlc'
   rw [List.drop_eq_nil_of_le (by have := unhide hm'; omega)] at hlc2
   refine Sp.leaves0 ?_
   exact ⟨_,results_tmp rfl _ _ _,by rw [← hlc2]; rfl,(unhide hP).extf⟩
end Go.Proofs.YtbpeemhfjgcnaaaGreat
namespace Go.Proofs.YtbpeemhfjgcnaaaGreat
open Go Go.RowKit
section
variable {P : Program} {ρ : Operand → Value} {o : Oper} {T : TypeId} {p q : Operand} {w : World} {A : Option Addr} {n c k s : Nat}
theorem run_sl_to (ho : o.op = .slice T p none (some q) none) (hp : ρ p = .slice A n c) (hq : ρ q = .int .i64 (k : Int)) (ht : P.underlying T = some (.slice (P.elem T))) (hs : (sizeOf (P.elem T)).run P w = .ok s w) (hk : k ≤ c) : (execOp ρ o).run P w = .ok (.value (.slice A k c)) w := by
 have h := run_slice_h (w := w) T A n c ht .i64 (k : Int) (by omega) (by omega)
 rw [hs] at h
 simp only [Result.andThen_ok,sliced,Int.toNat_natCast,Nat.sub_zero] at h
 unfold execOp
 simp only [ho,hp,hq,Option.map]
 rw [Sem.run_bind,run_sliceAt_slice _ _ _ _ _ _ ht,h]
 simp only [Result.andThen_ok,Sem.run_pure]
 have hA : (if c = 0 then A else A.map fun x => x.add (0 * s)) = A := by
  split
  ·rfl
  ·cases A
   ·rfl
   ·simp [Addr.add]
 rw [hA]
def restA (A : Option Addr) (k c s : Nat) : Option Addr := if c = k then A else A.map (·.add (k * s))
theorem run_sl_from (ho : o.op = .slice T p (some q) none none) (hp : ρ p = .slice A n c) (hq : ρ q = .int .i64 (k : Int)) (ht : P.underlying T = some (.slice (P.elem T))) (hs : (sizeOf (P.elem T)).run P w = .ok s w) (hk : k ≤ n) : (execOp ρ o).run P w = .ok (.value (.slice (restA A k c s) (n - k) (c - k))) w := by
 have h := run_slice_l (w := w) T A n c ht .i64 (k : Int) (by omega) (by omega)
 rw [hs] at h
 simp only [Result.andThen_ok,sliced,Int.toNat_natCast] at h
 unfold execOp
 simp only [ho,hp,hq,Option.map]
 rw [Sem.run_bind,run_sliceAt_slice _ _ _ _ _ _ ht,h]
 simp [restA]
end
theorem SlAt.upto {α : Type} {enc : α → List Value} {kk : Nat} {w : World} {A : Option Addr} {xs : List α} (h : SlAt enc kk w A xs) (n : Nat) : SlAt enc kk w A (xs.take n) := fun hne => by
 obtain ⟨b,off,hA,hlt,hc⟩ := h (by rintro rfl; simp at hne)
 refine ⟨b,off,hA,hlt,fun i x hx j u hu => hc i x ?_ j u hu⟩
 rw [List.getElem?_take] at hx
 split at hx
 ·exact hx
 ·cases hx
theorem SlAt.rest {α : Type} {enc : α → List Value} {kk : Nat} {w : World} {A : Option Addr} {xs : List α} (h : SlAt enc kk w A xs) (k c : Nat) (hc : xs.length ≤ c) : SlAt enc kk w (restA A k c kk) (xs.drop k) := fun hne => by
 have hlt : k < xs.length := by
  rcases Nat.lt_or_ge k xs.length with h1 | h1
  ·exact h1
  ·exact absurd (List.drop_eq_nil_of_le h1) hne
 obtain ⟨b,off,rfl,hb,hx⟩ := h (by rintro rfl; simp at hlt)
 refine ⟨b,off + k * kk, ?_,hb,fun i x hi j u hu => ?_⟩
 ·unfold restA
  rw [if_neg (by omega)]
  simp [Addr.add]
 ·rw [List.getElem?_drop] at hi
  have := hx (k + i) x hi j u hu
  rw [Nat.add_mul] at this
  rw [show off + k * kk + i * kk + j = off + (k * kk + i * kk) + j by omega]
  exact this
end Go.Proofs.YtbpeemhfjgcnaaaGreat
