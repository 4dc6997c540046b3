/- Parts of a proof, laid together. Each part says its own conditions. -/
import Derived.Test.YtbpeemhfjgcnaaaGreatC22
import Derived.Test.YtbpeemhfjgcnaaaGreatC17
namespace Go.Proofs.YtbpeemhfjgcnaaaGreat
open Go Go.RowKit Go.Shelf
attribute [local go_sem] qUpon lUpon
attribute [local irreducible] wpO wpX wpQL
def encPt (p : Option Addr) : List Value := [.pointer p]
theorem atPt {w : World} {A : Option Addr} {L : List (Option Addr)} (h : SlAt encPt 1 w A L) {i : Nat} (hi : i < L.length) : ∃ b off,A = some ⟨b,off,none⟩ ∧ (∀ W,Ext w W → W.cell? ⟨b,off + i,none⟩ = some (.pointer L[i])) := by
 obtain ⟨b,off,hA,hc⟩ := h.at_ hi
 refine ⟨b,off,hA, ?_⟩
 have := hc 0 _ rfl
 simpa using this
theorem len_rel (g bv be : Nat) (V : List (Int × Thing)) (E : List ((Int × Int) × Thing)) (w : World) (hg : IsG w g bv be V E) : Calls Tryz.prog 69 #[.pointer (some ⟨g,0,none⟩)] w fun e w' => e = .returned (.tuple #[.int .i64 V.length, .int .i64 E.length]) ∧ Ext w w' := by
 obtain ⟨V',E',h1,hV,hE,hi⟩ := hg
 rw [hV.length_eq,hE.length_eq]
 exact len_any g bv be V' E' w h1
def AskIs (w : World) (p : Option Addr) (e : Nat) : Prop := (p = none ∧ e = 1) ∨ ∃ g bv be V E,p = some ⟨g,0,none⟩ ∧ IsG w g bv be V E ∧ e = if 8 < V.length then 2 else 0
theorem AskIs.ext {w w' : World} {p : Option Addr} {e : Nat} (h : AskIs w p e) (hx : Ext w w') : AskIs w' p e := by
 rcases h with h | ⟨g,bv,be,V,E,h1,h2,h3⟩
 ·exact .inl h
 ·exact .inr ⟨g,bv,be,V,E,h1,h2.ext hx,h3⟩
def askL : List Nat → Nat
 | [] => 0
 | e :: r => if e = 0 then askL r else e
theorem askL_drop {es : List Nat} {i : Nat} (hi : i < es.length) : askL (es.drop i) = if es[i] = 0 then askL (es.drop (i + 1)) else es[i] := by
 rw [List.drop_eq_getElem_cons hi]
 rfl
set_option maxRecDepth 100000 in
set_option maxHeartbeats 16000000 in
theorem asked_any (A : Option Addr) (ps : List (Option Addr)) (es : List Nat) (n cA : Nat) (w : World) (hA : SlAt encPt 1 w A ps) (hn : n = ps.length) (hm : n = es.length) (hl : n ≤ 100) (hP : ∀ i (h1 : i < ps.length) (h2 : i < es.length),AskIs w ps[i] es[i]) :
  Calls Tryz.prog 39 #[.slice A n cA] w fun e w' => e = .returned (.int .i64 (askL es : Nat)) ∧ Ext w w' := by
 have hA' := hide hA
 have hn' := hide hn
 have hm' := hide hm
 have hl' := hide hl
 have hps := hide hP
 clear hA hn hm hl hP
 have hP := hide (Sp.new w)
 refine callsIn_wide.1 (callsIn_of_wp_marks (n := 0) Tryz.func39 rfl trivial (wpIn_wide.2 ?_))
 simp only [Tryz.ntmps39,List.size_toArray,List.length_cons,List.length_nil,Nat.reduceAdd,Nat.reduceSub,Array.replicate_succ,Array.replicate_zero,List.push_toArray,List.append_toArray,List.nil_append,List.cons_append]
 try dsimp only
 repeat ((fail_if_success (with_reducible refine wp_reg (id := 0) ?_)); (first | go_values | go_skip | go_step | go_guarded | go_upon | go_in | go_back | fail))
 with_reducible refine wp_reg (id := 0) ?_
 refine wpO_want rfl ?_
 go_simp
 refine wpO_done ?_
 try go_frame
 try dsimp only
 repeat ((fail_if_success (with_reducible refine wp_reg (id := 1) ?_)); (first | go_values | go_skip | go_step | go_guarded | go_upon | go_in | go_back | fail))
 with_reducible refine wp_reg (id := 1) ?_
 iterate 3
  refine wpO_want rfl ?_
  go_simp
 refine wpO_done ?_
 try go_frame
 go_wp2_with fail
 obtain ⟨I0_2,hI0_20⟩ : ∃ I : Nat → Act → World → Prop,I = fun fi a' wr => ∃ (i : Nat),a'.tmps.size = 23 ∧ a'.tmps.getD 0 undef = .slice A n cA ∧ a'.tmps.getD 2 undef = .int .i64 0 ∧ a'.tmps.getD 7 undef = .slice A n cA ∧ a'.tmps.getD 8 undef = .int .i64 (n : Nat) ∧ a'.tmps.getD 9 undef = .int .i64 (i : Nat) ∧ a'.defers = [] ∧ i ≤ n ∧ askL (es.drop i) = askL es ∧ Sp w [] w [] [] [] wr ∧ fi = n - i := ⟨_,rfl⟩
 have hI0_2 := hide hI0_20
 clear hI0_20
 refine wp_loop_ix I0_2 (n - 0) ?_ ?_
 ·rw [unhide hI0_2]; exact ⟨0,rfl,rfl,rfl,rfl,rfl,rfl,rfl,Nat.zero_le _,rfl,unhide hP,rfl⟩
 ·rintro fi ⟨tm,dfs⟩ wr hrel
  rw [unhide hI0_2] at hrel
  obtain ⟨i,hsz,e0,e2,e7,e8,e9,hdf,hin,hlc,hPr,hfm⟩ := hrel
  obtain ⟨us,rfl⟩ : ∃ us : Nat → Value,tm = #[us 0,us 1,us 2,us 3,us 4,us 5,us 6,us 7,us 8,us 9,us 10,us 11,us 12,us 13,us 14,us 15,us 16,us 17,us 18,us 19,us 20,us 21,us 22] := ⟨fun i => tm.getD i undef,arr_fn hsz⟩
  have h0 : us 0 = .slice A n cA := e0
  have h2 : us 2 = .int .i64 0 := e2
  have h7 : us 7 = .slice A n cA := e7
  have h8 : us 8 = .int .i64 (n : Nat) := e8
  have h9 : us 9 = .int .i64 (i : Nat) := e9
  have hdf2 : dfs = [] := hdf
  subst hdf2
  clear hdf hsz e0 e2 e7 e8 e9
  simp only [h0,h2,h7,h8,h9]
  clear h0 h2 h7 h8 h9
  clear hP
  have hP := hide hPr
  have hfm' := hide hfm
  have hlc' := hide hlc
  have hAr := hide ((unhide hA').ext (unhide hP).extf)
  clear hPr hfm hlc
  by_cases hlt : i < n
  ·skip
   have hil : (i : Int) < (n : Int) := by omega
   have hiL : i < ps.length := by have := unhide hn'; omega
   have hiE : i < es.length := by have := unhide hm'; omega
   have hib : (i : Int) ≤ 100 := by have := unhide hl'; omega
   have hask := (unhide hps i hiL hiE).ext (unhide hP).extf
   have hdr := hide (askL_drop hiE)
   obtain ⟨b,off,rfl,c0⟩ := atPt (unhide hAr) hiL
   have hself := Ext.refl wr
   generalize ps[i] = pz at *
   generalize es[i] = ez at *
   have hask' := hide hask
   clear hask
   try dsimp only
   repeat ((fail_if_success (with_reducible refine wp_reg (id := 2) ?_)); (first | go_values | go_skip | go_step | go_guarded | go_upon | go_in | go_back | fail))
   with_reducible refine wp_reg (id := 2) ?_
   refine wpO_want rfl ?_
   go_simp
   refine wpO_done ?_
   try go_frame
   try dsimp only
   repeat ((fail_if_success (with_reducible refine wp_reg (id := 3) ?_)); (first | go_values | go_skip | go_step | go_guarded | go_upon | go_in | go_back | fail))
   with_reducible refine wp_reg (id := 3) ?_
   iterate 3
    refine wpO_want rfl ?_
    go_simp
   refine wpO_done ?_
   try go_frame
   clear c0 hself
   have hask := unhide hask'
   clear hask'
   rcases hask with ⟨rfl,he⟩ | ⟨g,bv,be,V,E,rfl,hg0,he⟩
   ·skip
    have he' := hide he
    clear he
    try dsimp only
    repeat ((fail_if_success (with_reducible refine wp_reg (id := 4) ?_)); (first | go_values | go_skip | go_step | go_guarded | go_upon | go_in | go_back | fail))
    with_reducible refine wp_reg (id := 4) ?_
    iterate 2
     refine wpO_want rfl ?_
     go_simp
    refine wpO_done ?_
    try go_frame
    try dsimp only
    repeat ((fail_if_success (with_reducible refine wp_reg (id := 5) ?_)); (first | go_values | go_skip | go_step | go_guarded | go_upon | go_in | go_back | fail))
    with_reducible refine wp_reg (id := 5) ?_
    refine wpO_want rfl ?_
    go_simp
    refine wpO_done ?_
    try go_frame
    go_wp2_with fail
    have hdr2 := unhide hdr
    rw [if_neg (by have := unhide he'; omega),unhide hlc',unhide he'] at hdr2
    refine Sp.leaves0 ?_
    exact ⟨_,results_tmp rfl _ _ _,by rw [hdr2]; rfl,(unhide hP).extf⟩
   ·skip
    have hg := hide hg0
    have he' := hide he
    clear hg0 he
    try dsimp only
    repeat ((fail_if_success (with_reducible refine wp_reg (id := 4) ?_)); (first | go_values | go_skip | go_step | go_guarded | go_upon | go_in | go_back | fail))
    with_reducible refine wp_reg (id := 4) ?_
    iterate 2
     refine wpO_want rfl ?_
     go_simp
    refine wpO_done ?_
    try go_frame
    try dsimp only
    repeat ((fail_if_success (with_reducible refine wp_reg (id := 6) ?_)); (first | go_values | go_skip | go_step | go_guarded | go_upon | go_in | go_back | fail))
    with_reducible refine wp_reg (id := 6) ?_
    iterate 2
     refine wpO_want rfl ?_
     go_simp
    refine (len_rel g bv be V E wr (unhide hg)).mono ?_
    rintro _ y1 ⟨rfl,hxc⟩
    refine ⟨_,rfl, ?_⟩
    replace hP : Hid (Sp w [] w [] [] [] y1) := hide ((unhide hP).ext hxc)
    clear hxc
    generalize htu0 : Value.tuple _ = tu
    have htu := hide htu0
    clear htu0
    refine wpO_val rfl (run_move rfl rfl) ?_
    go_frame
    refine wpO_val rfl (run_extract (i := 0) (v := .int .i64 V.length) rfl (unhide htu).symm rfl) ?_
    go_frame
    refine wpO_val rfl (run_extract (i := 1) (v := .int .i64 E.length) rfl (unhide htu).symm rfl) ?_
    go_frame
    iterate 2
     refine wpO_want rfl ?_
     go_simp
    refine wpO_done ?_
    try go_frame
    clear htu
    by_cases h8 : 8 < V.length
    ·skip
     have h8b : (8:Int) < (V.length : Int) := by omega
     have he2 := hide ((unhide he').trans (if_pos h8))
     clear he' h8
     try dsimp only
     repeat ((fail_if_success (with_reducible refine wp_reg (id := 7) ?_)); (first | go_values | go_skip | go_step | go_guarded | go_upon | go_in | go_back | fail))
     with_reducible refine wp_reg (id := 7) ?_
     iterate 2
      refine wpO_want rfl ?_
      go_simp
     refine wpO_done ?_
     try go_frame
     try dsimp only
     repeat ((fail_if_success (with_reducible refine wp_reg (id := 8) ?_)); (first | go_values | go_skip | go_step | go_guarded | go_upon | go_in | go_back | fail))
     with_reducible refine wp_reg (id := 8) ?_
     refine wpO_want rfl ?_
     go_simp
     refine wpO_done ?_
     try go_frame
     go_wp2_with fail
     have hdr2 := unhide hdr
     rw [if_neg (by have := unhide he2; omega),unhide hlc',unhide he2] at hdr2
     refine Sp.leaves0 ?_
     exact ⟨_,results_tmp rfl _ _ _,by rw [hdr2]; rfl,(unhide hP).extf⟩
    ·skip
     have h8b : ¬ (8:Int) < (V.length : Int) := by omega
     have he2 := hide ((unhide he').trans (if_neg h8))
     clear he' h8
     try dsimp only
     repeat ((fail_if_success (with_reducible refine wp_reg (id := 7) ?_)); (first | go_values | go_skip | go_step | go_guarded | go_upon | go_in | go_back | fail))
     with_reducible refine wp_reg (id := 7) ?_
     iterate 2
      refine wpO_want rfl ?_
      go_simp
     refine wpO_done ?_
     try go_frame
     clear h8b
     go_wp2_with fail
     have hdr2 := unhide hdr
     rw [if_pos (unhide he2),unhide hlc'] at hdr2
     refine ⟨n - (i + 1), ?_,by have := unhide hfm'; omega⟩
     rw [unhide hI0_2]
     exact ⟨i + 1,(by first | rfl | trivial),(by first | rfl | trivial),(by first | rfl | trivial),(by first | rfl | trivial),(by first | rfl | trivial),(by first | rfl | (show _ = Value.int _ _; go_num) | go_num),(by first | rfl | trivial),by omega,hdr2.symm,unhide hP,rfl⟩
  ·skip
   have hil : ¬ (i : Int) < (n : Int) := by omega
   obtain rfl : n = i := by omega
   clear hlt hin
   try dsimp only
   repeat ((fail_if_success (with_reducible refine wp_reg (id := 2) ?_)); (first | go_values | go_skip | go_step | go_guarded | go_upon | go_in | go_back | fail))
   with_reducible refine wp_reg (id := 2) ?_
   refine wpO_want rfl ?_
   go_simp
   refine wpO_done ?_
   try go_frame
   try dsimp only
   repeat ((fail_if_success (with_reducible refine wp_reg (id := 10) ?_)); (first | go_values | go_skip | go_step | go_guarded | go_upon | go_in | go_back | fail))
   with_reducible refine wp_reg (id := 10) ?_
   refine wpO_want rfl ?_
   go_simp
   refine wpO_done ?_
   try go_frame
   go_wp2_with fail
   have hlc2 := unhide hlc'
   rw [List.drop_eq_nil_of_le (by have := unhide hm'; omega)] at hlc2
   refine Sp.leaves0 ?_
   exact ⟨_,results_tmp rfl _ _ _,by rw [← hlc2]; rfl,(unhide hP).extf⟩
end Go.Proofs.YtbpeemhfjgcnaaaGreat
namespace Go.Proofs.YtbpeemhfjgcnaaaGreat
open Go Go.RowKit
section
variable {P : Program} {ρ : Operand → Value} {o : Oper} {T : TypeId} {p q : Operand} {w : World} {A : Option Addr} {n c k s : Nat}
theorem run_sl_to (ho : o.op = .slice T p none (some q) none) (hp : ρ p = .slice A n c) (hq : ρ q = .int .i64 (k : Int)) (ht : P.underlying T = some (.slice (P.elem T))) (hs : (sizeOf (P.elem T)).run P w = .ok s w) (hk : k ≤ c) : (execOp ρ o).run P w = .ok (.value (.slice A k c)) w := by
 have h := run_slice_h (w := w) T A n c ht .i64 (k : Int) (by omega) (by omega)
 rw [hs] at h
 simp only [Result.andThen_ok,sliced,Int.toNat_natCast,Nat.sub_zero] at h
 unfold execOp
 simp only [ho,hp,hq,Option.map]
 rw [Sem.run_bind,run_sliceAt_slice _ _ _ _ _ _ ht,h]
 simp only [Result.andThen_ok,Sem.run_pure]
 have hA : (if c = 0 then A else A.map fun x => x.add (0 * s)) = A := by
  split
  ·rfl
  ·cases A
   ·rfl
   ·simp [Addr.add]
 rw [hA]
def restA (A : Option Addr) (k c s : Nat) : Option Addr := if c = k then A else A.map (·.add (k * s))
theorem run_sl_from (ho : o.op = .slice T p (some q) none none) (hp : ρ p = .slice A n c) (hq : ρ q = .int .i64 (k : Int)) (ht : P.underlying T = some (.slice (P.elem T))) (hs : (sizeOf (P.elem T)).run P w = .ok s w) (hk : k ≤ n) : (execOp ρ o).run P w = .ok (.value (.slice (restA A k c s) (n - k) (c - k))) w := by
 have h := run_slice_l (w := w) T A n c ht .i64 (k : Int) (by omega) (by omega)
 rw [hs] at h
 simp only [Result.andThen_ok,sliced,Int.toNat_natCast] at h
 unfold execOp
 simp only [ho,hp,hq,Option.map]
 rw [Sem.run_bind,run_sliceAt_slice _ _ _ _ _ _ ht,h]
 simp [restA]
end
theorem SlAt.rest {α : Type} {enc : α → List Value} {kk : Nat} {w : World} {A : Option Addr} {xs : List α} (h : SlAt enc kk w A xs) (k c : Nat) (hc : xs.length ≤ c) : SlAt enc kk w (restA A k c kk) (xs.drop k) := fun hne => by
 have hlt : k < xs.length := by
  rcases Nat.lt_or_ge k xs.length with h1 | h1
  ·exact h1
  ·exact absurd (List.drop_eq_nil_of_le h1) hne
 obtain ⟨b,off,rfl,hb,hx⟩ := h (by rintro rfl; simp at hlt)
 refine ⟨b,off + k * kk, ?_,hb,fun i x hi j u hu => ?_⟩
 ·unfold restA
  rw [if_neg (by omega)]
  simp [Addr.add]
 ·rw [List.getElem?_drop] at hi
  have := hx (k + i) x hi j u hu
  rw [Nat.add_mul] at this
  rw [show off + k * kk + i * kk + j = off + (k * kk + i * kk) + j by omega]
  exact this
end Go.Proofs.YtbpeemhfjgcnaaaGreat
namespace Go.Proofs.YtbpeemhfjgcnaaaGreat
open Go Go.RowKit Go.Shelf
attribute [local go_sem] qUpon lUpon
attribute [local irreducible] wpO wpX wpQL
def OwJ (w : World) (xs : List Int) (e : Ending) (w' : World) : Prop := ∃ A n c,e = .returned (.slice A n c) ∧ n = xs.length ∧ w'.ownsRow w.heap.size 3 1 (.slice A n c) n (xs.flatMap encI) ∧ Ext w w'
theorem OwJ.mk {w w' : World} {xs : List Int} {A : Option Addr} {n c : Nat} (hn : n = xs.length) (h1 : w'.ownsRow w.heap.size 3 1 (.slice A n c) n (xs.flatMap encI)) (h2 : Ext w w') : OwJ w xs (.returned (.slice A n c)) w' := ⟨A,n,c,rfl,hn,h1,h2⟩
theorem wrap_nat {i : Nat} (h : i ≤ 1000000) : IntKind.i64.wrap ((i : Int) + 1) = ((i + 1 : Nat) : Int) := by
 rw [IntKind.wrap_i64]
 omega
theorem pairO_le (o : Option Thing) : (pairO o).length ≤ 3 := by
 cases o <;> simp [pairO]
theorem pair_le (f : Int → Option Thing) : ∀ r : List Int,(r.flatMap fun v => pairO (f v)).length ≤ 3 * r.length
 | [] => by simp
 | v :: r => by
  rw [List.flatMap_cons,List.length_append,List.length_cons]
  have h1 := pairO_le (f v)
  have h2 := pair_le f r
  omega
theorem codeP_le (E : List ((Int × Int) × Thing)) (N : Nat) : ∀ l : List Int,l.length ≤ N → (codeP E l).length ≤ 3 * N * l.length
 | [],_ => by simp [codeP]
 | u :: r,h => by
  rw [List.length_cons] at h
  have h1 := pair_le (betE E u) r
  have h2 := codeP_le E N r (by omega)
  unfold codeP
  rw [List.length_append,List.length_cons,Nat.mul_add]
  omega
theorem codeP_step (E : List ((Int × Int) × Thing)) (L : List Int) {i : Nat} (hi : i < L.length) : codeP E (L.drop i) = (L.drop (i + 1)).flatMap (fun v => pairO (betE E L[i] v)) ++ codeP E (L.drop (i + 1)) := by
 rw [List.drop_eq_getElem_cons hi]
 rfl
theorem flat_step (f : Int → List Int) (L : List Int) {i : Nat} (hi : i < L.length) : (L.drop i).flatMap f = f L[i] ++ (L.drop (i + 1)).flatMap f := by
 rw [List.drop_eq_getElem_cons hi]
 rfl
set_option maxRecDepth 100000 in
set_option maxHeartbeats 16000000 in
theorem code_any (g bv be : Nat) (V : List (Int × Thing)) (E : List ((Int × Int) × Thing)) (A : Option Addr) (L : List Int) (n cA : Nat) (w : World) (hg : IsG w g bv be V E) (hb : LabB V E) (hA : SlAt encI 1 w A L) (hn : n = L.length) (hl : n ≤ 8) (hcap : n ≤ cA) :
  Calls Tryz.prog 43 #[.pointer (some ⟨g,0,none⟩), .slice A n cA] w (OwJ w (codeP E L)) := by
 have hg' := hide hg
 have hb' := hide hb
 have hA' := hide hA
 have hn' := hide hn
 have hl' := hide hl
 have hcap' := hide hcap
 have hcl := hide (show (codeP E L).length ≤ 3 * 8 * 8 by
  have h1 := codeP_le E 8 L (by omega)
  have h2 : 3 * 8 * L.length ≤ 3 * 8 * 8 := Nat.mul_le_mul_left _ (by omega)
  omega)
 clear hg hb hA hn hl hcap
 have hP := hide (Sp.new w)
 refine callsIn_wide.1 (callsIn_of_wp_marks (n := 0) Tryz.func43 rfl trivial (wpIn_wide.2 ?_))
 simp only [Tryz.ntmps43,List.size_toArray,List.length_cons,List.length_nil,Nat.reduceAdd,Nat.reduceSub,Array.replicate_succ,Array.replicate_zero,List.push_toArray,List.append_toArray,List.nil_append,List.cons_append]
 try dsimp only
 repeat ((fail_if_success (with_reducible refine wp_reg (id := 0) ?_)); (first | go_values | go_skip | go_step | go_guarded | go_upon | go_in | go_back | fail))
 with_reducible refine wp_reg (id := 0) ?_
 refine wpO_want rfl ?_
 go_simp
 refine wpO_done ?_
 try go_frame
 try dsimp only
 repeat ((fail_if_success (with_reducible refine wp_reg (id := 1) ?_)); (first | go_values | go_skip | go_step | go_guarded | go_upon | go_in | go_back | fail))
 with_reducible refine wp_reg (id := 1) ?_
 refine wpO_want rfl ?_
 go_simp
 refine wpO_done ?_
 try go_frame
 replace hP : Hid (Sp w [] w [] [] [(3,1, .slice none 0 0,0,([] : List Int).flatMap encI)] w) := hide ((unhide hP).nil 3 1)
 try dsimp only
 repeat ((fail_if_success (with_reducible refine wp_reg (id := 2) ?_)); (first | go_values | go_skip | go_step | go_guarded | go_upon | go_in | go_back | fail))
 with_reducible refine wp_reg (id := 2) ?_
 iterate 3
  refine wpO_want rfl ?_
  go_simp
 refine wpO_done ?_
 try go_frame
 go_wp2_with fail
 obtain ⟨I0_2,hI0_20⟩ : ∃ I : Nat → Act → World → Prop,I = fun fi a' wr => ∃ (i : Nat), ∃ (Ax : Option Addr), ∃ (nx : Nat), ∃ (cx : Nat), ∃ (xs : List Int),a'.tmps.size = 36 ∧ a'.tmps.getD 0 undef = .pointer (some ⟨g,0,none⟩) ∧ a'.tmps.getD 1 undef = .slice A n cA ∧ a'.tmps.getD 5 undef = .slice Ax nx cx ∧ a'.tmps.getD 10 undef = .int .i64 (n : Nat) ∧ a'.tmps.getD 11 undef = .int .i64 (i : Nat) ∧ a'.defers = [] ∧ i ≤ n ∧ xs ++ codeP E (L.drop i) = codeP E L ∧ nx = xs.length ∧ Sp w [] w [] [] [(3,1, .slice Ax nx cx,nx,xs.flatMap encI)] wr ∧ fi = n - i := ⟨_,rfl⟩
 have hI0_2 := hide hI0_20
 clear hI0_20
 refine wp_loop_ix I0_2 (n - 0) ?_ ?_
 ·rw [unhide hI0_2]; exact ⟨0,none,0,0,[],rfl,rfl,rfl,rfl,rfl,rfl,rfl,Nat.zero_le _,rfl,rfl,unhide hP,rfl⟩
 ·rintro fi ⟨tm,dfs⟩ wr hrel
  rw [unhide hI0_2] at hrel
  obtain ⟨i,Ax,nx,cx,xs,hsz,e0,e1,e5,e10,e11,hdf,hin,hxs0,hnx0,hPr,hfm⟩ := hrel
  obtain ⟨us,rfl⟩ : ∃ us : Nat → Value,tm = #[us 0,us 1,us 2,us 3,us 4,us 5,us 6,us 7,us 8,us 9,us 10,us 11,us 12,us 13,us 14,us 15,us 16,us 17,us 18,us 19,us 20,us 21,us 22,us 23,us 24,us 25,us 26,us 27,us 28,us 29,us 30,us 31,us 32,us 33,us 34,us 35] := ⟨fun i => tm.getD i undef,arr_fn hsz⟩
  have h0 : us 0 = .pointer (some ⟨g,0,none⟩) := e0
  have h1 : us 1 = .slice A n cA := e1
  have h5 : us 5 = .slice Ax nx cx := e5
  have h10 : us 10 = .int .i64 (n : Nat) := e10
  have h11 : us 11 = .int .i64 (i : Nat) := e11
  have hdf2 : dfs = [] := hdf
  subst hdf2
  clear hdf hsz e0 e1 e5 e10 e11
  simp only [h0,h1,h5,h10,h11]
  clear h0 h1 h5 h10 h11
  clear hP
  have hP := hide hPr
  have hfm' := hide hfm
  have hxs := hide hxs0
  have hnx := hide hnx0
  clear hPr hfm hxs0 hnx0
  by_cases hlt : i < n
  ·skip
   have hil : (i : Int) < (n : Int) := by omega
   have hiL : i < L.length := by have := unhide hn'; omega
   have hib : (i : Int) ≤ 8 := by have := unhide hl'; omega
   obtain ⟨ni,hni⟩ : ∃ ni,ni = n - (i + 1) := ⟨_,rfl⟩
   have hni' := hide hni
   have hstp := hide (codeP_step E L hiL)
   have hM := hide ((unhide hA').rest (i + 1) cA (by have := unhide hn'; have := unhide hcap'; omega))
   obtain ⟨M,hM0⟩ : ∃ M,M = L.drop (i + 1) := ⟨_,rfl⟩
   rw [← hM0] at hM hstp
   have hMe := hide hM0
   have hMl := hide (show ni = M.length by rw [hni,hM0,List.length_drop,unhide hn'])
   obtain ⟨x,hx0⟩ : ∃ x,x = L[i] := ⟨_,rfl⟩
   rw [← hx0] at hstp
   have hxe := hide hx0
   obtain ⟨AM,hAM⟩ : ∃ AM,AM = restA A (i + 1) cA 1 := ⟨_,rfl⟩
   rw [← hAM] at hM
   obtain ⟨cM,hcM⟩ : ∃ cM,cM = cA - (i + 1) := ⟨_,rfl⟩
   have hlt' := hide hlt
   clear hni hM0 hx0 hlt hin
   try dsimp only
   repeat ((fail_if_success (with_reducible refine wp_reg (id := 3) ?_)); (first | go_values | go_skip | go_step | go_guarded | go_upon | go_in | go_back | fail))
   with_reducible refine wp_reg (id := 3) ?_
   refine wpO_want rfl ?_
   go_simp
   refine wpO_done ?_
   try go_frame
   try dsimp only
   repeat ((fail_if_success (with_reducible refine wp_reg (id := 4) ?_)); (first | go_values | go_skip | go_step | go_guarded | go_upon | go_in | go_back | fail))
   with_reducible refine wp_reg (id := 4) ?_
   iterate 2
    refine wpO_want rfl ?_
    go_simp
   refine wpO_done ?_
   try go_frame
   try dsimp only
   repeat ((fail_if_success (with_reducible refine wp_reg (id := 5) ?_)); (first | go_values | go_skip | go_step | go_guarded | go_upon | go_in | go_back | fail))
   with_reducible refine wp_reg (id := 5) ?_
   iterate 3
    refine wpO_want rfl ?_
    go_simp
   rw [wrap_nat (show i ≤ 1000000 by omega)]
   refine wpO_val (v := .slice AM ni cM) rfl (by rw [run_sl_from (k := i + 1) rfl rfl (by rfl) Tryz.underlying31 (Tryz.sizeOf3 _) (by have := unhide hlt'; omega),hAM,hcM,unhide hni']) ?_
   go_frame
   clear hAM hcM
   iterate 2
    refine wpO_want rfl ?_
    go_simp
   refine wpO_done ?_
   try go_frame
   go_wp2_with fail
   obtain ⟨I0_6,hI0_60⟩ : ∃ I : Nat → Act → World → Prop,I = fun fj a' wr => ∃ (j : Nat), ∃ (Ay : Option Addr), ∃ (ny : Nat), ∃ (cy : Nat), ∃ (ys : List Int),a'.tmps.size = 36 ∧ a'.tmps.getD 0 undef = .pointer (some ⟨g,0,none⟩) ∧ a'.tmps.getD 1 undef = .slice A n cA ∧ a'.tmps.getD 5 undef = .slice Ay ny cy ∧ a'.tmps.getD 6 undef = .int .i64 (i : Nat) ∧ a'.tmps.getD 10 undef = .int .i64 (n : Nat) ∧ a'.tmps.getD 11 undef = .int .i64 (i : Nat) ∧ a'.tmps.getD 17 undef = .slice AM ni cM ∧ a'.tmps.getD 18 undef = .int .i64 (ni : Nat) ∧ a'.tmps.getD 19 undef = .int .i64 (j : Nat) ∧ a'.defers = [] ∧ j ≤ ni ∧ (ys ++ ((M.drop j).flatMap (fun v => pairO (betE E x v)) ++ codeP E M) = codeP E L) ∧ ny = ys.length ∧ Sp w [] w [] [] [(3,1, .slice Ay ny cy,ny,ys.flatMap encI)] wr ∧ fj = ni - j := ⟨_,rfl⟩
   have hI0_6 := hide hI0_60
   clear hI0_60
   refine wp_loop_ix I0_6 (ni - 0) ?_ ?_
   ·rw [unhide hI0_6]; exact ⟨0,Ax,nx,cx,xs,rfl,rfl,rfl,rfl,rfl,rfl,rfl,rfl,rfl,rfl,rfl,Nat.zero_le _,by rw [List.drop_zero, ← unhide hstp]; exact unhide hxs,unhide hnx,unhide hP,rfl⟩
   ·rintro fj ⟨tm,dfs⟩ wr hrel
    rw [unhide hI0_6] at hrel
    obtain ⟨j,Ay,ny,cy,ys,hsz,e0,e1,e5,e6,e10,e11,e17,e18,e19,hdf,hjn,hys0,hny0,hPs,hgm⟩ := hrel
    obtain ⟨us,rfl⟩ : ∃ us : Nat → Value,tm = #[us 0,us 1,us 2,us 3,us 4,us 5,us 6,us 7,us 8,us 9,us 10,us 11,us 12,us 13,us 14,us 15,us 16,us 17,us 18,us 19,us 20,us 21,us 22,us 23,us 24,us 25,us 26,us 27,us 28,us 29,us 30,us 31,us 32,us 33,us 34,us 35] := ⟨fun i => tm.getD i undef,arr_fn hsz⟩
    have h0 : us 0 = .pointer (some ⟨g,0,none⟩) := e0
    have h1 : us 1 = .slice A n cA := e1
    have h5 : us 5 = .slice Ay ny cy := e5
    have h6 : us 6 = .int .i64 (i : Nat) := e6
    have h10 : us 10 = .int .i64 (n : Nat) := e10
    have h11 : us 11 = .int .i64 (i : Nat) := e11
    have h17 : us 17 = .slice AM ni cM := e17
    have h18 : us 18 = .int .i64 (ni : Nat) := e18
    have h19 : us 19 = .int .i64 (j : Nat) := e19
    have hdf2 : dfs = [] := hdf
    subst hdf2
    clear hdf hsz e0 e1 e5 e6 e10 e11 e17 e18 e19
    simp only [h0,h1,h5,h6,h10,h11,h17,h18,h19]
    clear h0 h1 h5 h6 h10 h11 h17 h18 h19
    clear hP hxs hnx
    have hP := hide hPs
    have hgm' := hide hgm
    have hys := hide hys0
    have hny := hide hny0
    clear hPs hgm hys0 hny0
    by_cases hjt : j < ni
    ·skip
     have hil2 : (j : Int) < (ni : Int) := by omega
     have hjM : j < M.length := by have := unhide hMl; omega
     have hjb : (j : Int) ≤ 8 := by have := unhide hl'; have := unhide hni'; omega
     have hjt' := hide hjt
     have hst2 := hide (flat_step (fun v => pairO (betE E x v)) M hjM)
     obtain ⟨b2,off2,rfl,d0⟩ := atI ((unhide hM).ext (unhide hP).extf) hjM
     have hself := Ext.refl wr
     generalize M[j] = y at *
     clear hjt hjn
     try dsimp only
     repeat ((fail_if_success (with_reducible refine wp_reg (id := 6) ?_)); (first | go_values | go_skip | go_step | go_guarded | go_upon | go_in | go_back | fail))
     with_reducible refine wp_reg (id := 6) ?_
     refine wpO_want rfl ?_
     go_simp
     refine wpO_done ?_
     try go_frame
     try dsimp only
     repeat ((fail_if_success (with_reducible refine wp_reg (id := 7) ?_)); (first | go_values | go_skip | go_step | go_guarded | go_upon | go_in | go_back | fail))
     with_reducible refine wp_reg (id := 7) ?_
     iterate 3
      refine wpO_want rfl ?_
      go_simp
     refine wpO_done ?_
     try go_frame
     clear d0 hself
     obtain ⟨b3,off3,rfl,d1⟩ := atI ((unhide hA').ext (unhide hP).extf) hiL
     have hself := Ext.refl wr
     rw [← unhide hxe] at d1
     try dsimp only
     repeat ((fail_if_success (with_reducible refine wp_reg (id := 8) ?_)); (first | go_values | go_skip | go_step | go_guarded | go_upon | go_in | go_back | fail))
     with_reducible refine wp_reg (id := 8) ?_
     iterate 8
      refine wpO_want rfl ?_
      go_simp
     clear d1 hself
     refine (side_any g bv be V E x y wr ((unhide hg').ext (unhide hP).extf) (unhide hb')).mono ?_
     rintro _ y1 ⟨rfl,hxc⟩
     refine ⟨_,rfl, ?_⟩
     replace hP : Hid (Sp w [] w [] [] [(3,1, .slice Ay ny cy,ny,ys.flatMap encI)] y1) := hide ((unhide hP).ext hxc)
     clear hxc
     obtain ⟨oy,hoy⟩ : ∃ oy,oy = betE E x y := ⟨_,rfl⟩
     rw [← hoy]
     have hoy' := hide hoy
     clear hoy
     refine wpO_want rfl ?_
     go_simp
     refine (list_any oy y1).mono ?_
     rintro _ y2 ⟨Al,cl,rfl,hls0,hxc⟩
     refine ⟨_,rfl, ?_⟩
     replace hP : Hid (Sp w [] w [] [] [(3,1, .slice Ay ny cy,ny,ys.flatMap encI)] y2) := hide ((unhide hP).ext hxc)
     have hls := hide hls0
     obtain ⟨nl,hnl⟩ : ∃ nl,nl = (pairO oy).length := ⟨_,rfl⟩
     rw [← hnl]
     have hnl' := hide hnl
     have hnl3 := hide (show nl ≤ 3 by rw [hnl]; exact pairO_le oy)
     clear hnl hxc hls0
     try go_frame
     have hsum := unhide hys
     rw [unhide hst2] at hsum
     have hsum' := hide hsum
     have hlen := congrArg List.length hsum
     rw [List.length_append] at hlen
     have hny9 := hide (show ny + nl ≤ 100000 by have := unhide hcl; have := unhide hny; have := unhide hnl3; omega)
     clear hsum hlen
     refine (unhide hP).apAO (enc := encI) (T := 3) (ST := 31) 0 (v := .slice Ay ny cy) (m := ny) (xs := ys) rfl rfl infoI Tryz.underlying31 one_encI (fun _ => rfl) (by decide) (by decide) rfl (pairO oy) rfl rfl ((unhide hnl').symm) (unhide hls) (by have := unhide hny9; omega) ?_
     intro Az cAz y3 hQ
     replace hP : Hid (Sp w [] w [] [] [(3,1, .slice Az (ny + nl) cAz,ny + nl,(ys ++ (pairO oy)).flatMap encI)] y3) := hide hQ
     clear hQ
     try go_frame
     refine wpO_want rfl ?_
     go_simp
     refine wpO_done ?_
     try go_frame
     go_wp2_with fail
     have hs := unhide hsum'
     rw [← unhide hoy',List.append_assoc, ← List.append_assoc] at hs
     refine ⟨ni - (j + 1), ?_,by have := unhide hgm'; have := unhide hjt'; omega⟩
     rw [unhide hI0_6]
     exact ⟨j + 1,Az,ny + nl,cAz,ys ++ pairO oy,(by first | rfl | trivial),(by first | rfl | trivial),(by first | rfl | trivial),(by first | rfl | trivial),(by first | rfl | trivial),(by first | rfl | trivial),(by first | rfl | trivial),(by first | rfl | trivial),(by first | rfl | trivial),(by first | rfl | (show _ = Value.int _ _; go_num) | go_num),(by first | rfl | trivial),by have := unhide hjt'; omega,hs,by rw [List.length_append, ← unhide hnl', ← unhide hny],unhide hP,rfl⟩
    ·skip
     have hil2 : ¬ (j : Int) < (ni : Int) := by omega
     obtain rfl : ni = j := by omega
     clear hjt hjn
     try dsimp only
     repeat ((fail_if_success (with_reducible refine wp_reg (id := 6) ?_)); (first | go_values | go_skip | go_step | go_guarded | go_upon | go_in | go_back | fail))
     with_reducible refine wp_reg (id := 6) ?_
     refine wpO_want rfl ?_
     go_simp
     refine wpO_done ?_
     try go_frame
     clear hil2
     go_wp2_with fail
     have hs := unhide hys
     rw [List.drop_eq_nil_of_le (by have := unhide hMl; omega),List.flatMap_nil,List.nil_append,unhide hMe] at hs
     refine ⟨n - (i + 1), ?_,by have := unhide hfm'; have := unhide hlt'; omega⟩
     rw [unhide hI0_2]
     exact ⟨i + 1,Ay,ny,cy,ys,(by first | rfl | trivial),(by first | rfl | trivial),(by first | rfl | trivial),(by first | rfl | trivial),(by first | rfl | trivial),(by first | rfl | (show _ = Value.int _ _; go_num) | go_num),(by first | rfl | trivial),by have := unhide hlt'; omega,hs,unhide hny,unhide hP,rfl⟩
  ·skip
   have hil : ¬ (i : Int) < (n : Int) := by omega
   obtain rfl : n = i := by omega
   have hxe := hide (show xs = codeP E L by
    have h := unhide hxs
    rw [List.drop_eq_nil_of_le (by have := unhide hn'; omega)] at h
    rw [← h]
    exact (List.append_nil _).symm)
   clear hlt hin
   try dsimp only
   repeat ((fail_if_success (with_reducible refine wp_reg (id := 3) ?_)); (first | go_values | go_skip | go_step | go_guarded | go_upon | go_in | go_back | fail))
   with_reducible refine wp_reg (id := 3) ?_
   refine wpO_want rfl ?_
   go_simp
   refine wpO_done ?_
   try go_frame
   try dsimp only
   repeat ((fail_if_success (with_reducible refine wp_reg (id := 11) ?_)); (first | go_values | go_skip | go_step | go_guarded | go_upon | go_in | go_back | fail))
   with_reducible refine wp_reg (id := 11) ?_
   iterate 2
    refine wpO_want rfl ?_
    go_simp
   refine wpO_done ?_
   try go_frame
   go_wp2_with fail
   refine Sp.leaves0 ?_
   refine ⟨_,results_tmp rfl _ _ _, ?_⟩
   have ho := (unhide hP).row 0 rfl
   rw [unhide hxe] at ho hnx
   exact OwJ.mk (unhide hnx) ho (unhide hP).extf
end Go.Proofs.YtbpeemhfjgcnaaaGreat
