/- Parts of a proof, laid together. Each part says its own conditions. -/
import Derived.Test.YtmokciekndllpaaGreatDoorC35
import Derived.Test.YtmokciekndllpaaGreatDoorC34
import Derived.Shelf.SlGeneric
import Derived.Shelf.SlSortCmp.NoneTotal
import Derived.Ground.SlsfProg
import Derived.Test.YtmokciekndllpaaGreatDoorProg
import Derived.Test.YtmokciekndllpaaGreatDoorC7
import Derived.Test.YtmokciekndllpaaGreatDoorC19
namespace Go.Proofs.YtmokciekndllpaaGreatDoor
open Go Go.RowKit Go.Shelf
attribute [local go_sem] qUpon lUpon
attribute [local irreducible] wpO wpX wpQL
def evY (b : Bool) : Value := .bool b
theorem zeroY (w : World) : (zeroValue 4).run Tryz.prog w = .ok (evY false) w := by kernel_rfl
def MkOk (M : List (SetK × Bool)) (X : List Nat) : Prop := ∀ k : SetK,lookM M k = if k.1 ∈ X then some true else none
theorem MkOk.nil : MkOk [] [] := fun _ => rfl
theorem MkOk.put {M : List (SetK × Bool)} {X : List Nat} (h : MkOk M X) (k : SetK) : MkOk (putM M k true) (X ++ [k.1]) := fun x => by
 rw [look_put,h x]
 by_cases e : x = k
 ·subst e
  rw [if_pos rfl,if_pos (by simp)]
 ·rw [if_neg e]
  have e2 : x.1 ≠ k.1 := fun h9 => e (Subtype.ext h9)
  have e3 : (x.1 ∈ X ++ [k.1]) ↔ x.1 ∈ X := by simp [e2]
  simp only [e3]
def msL (r2 r6 r7 mb : Nat) (og : Option Addr) (A : Option Addr) (n c : Nat) : List Cl := [(r2,26, #[.pointer og]),(r6,96, #[.map (some mb)]),(r7,34, #[.slice A n c])]
def msR (mb : Nat) (A : Option Addr) (n c : Nat) (M : List (SetK × Bool)) (X : List Nat) : List Rw := [(96,0, .map (some mb),0,mapXs ekS evY M),(25,16, .slice A n c,n,X.flatMap encS)]
def LePost (wf : World) (r2 r6 r7 mb : Nat) (og : Option Addr) (X : List Nat) (T : List Nat) (w : World) (e : Ending) (w' : World) : Prop := e = .returned (.tuple #[]) ∧ ∃ A n c M,n = X.length ∧ MkOk M X ∧ St wf.heap.size (msL r2 r6 r7 mb og A n c) (msR mb A n c M X) w' ∧ Keep T w w' ∧ tIn T w.heap.size (stT (msL r2 r6 r7 mb og A n c) (msR mb A n c M X))
set_option maxRecDepth 100000 in
set_option maxHeartbeats 16000000 in
theorem left_any (wf : World) (r2 r6 r7 mb : Nat) (og : Option Addr) (V : List (Int × Thing)) (E : List ((Int × Int) × Thing)) (S : Nat) (X0 : List Nat) (M0 : List (SetK × Bool)) (A : Option Addr) (n c : Nat) (w : World) (hst : St wf.heap.size (msL r2 r6 r7 mb og A n c) (msR mb A n c M0 X0) w) (hx : Ext wf w) (hi : GInv V E) (hg : GL wf og V E) (hT : Tab wf) (hn : n = X0.length) (hM : MkOk M0 X0) (hb : ∀ ps,(∀ p ∈ ps,p ∈ partS V E S) → (leftS E X0 ps).length ≤ 1000) :
  Calls Tryz.prog 51 #[.agg (setC S), .pointer (some ⟨r2,0,none⟩), .pointer (some ⟨r6,0,none⟩), .pointer (some ⟨r7,0,none⟩)] w (LePost wf r2 r6 r7 mb og (leftS E X0 (partS V E S)) (stT (msL r2 r6 r7 mb og A n c) (msR mb A n c M0 X0)) w) := by
 have hP := hide (Sp.ofS hst hx)
 obtain ⟨T,hT0⟩ : ∃ T,T = stT (msL r2 r6 r7 mb og A n c) (msR mb A n c M0 X0) := ⟨_,rfl⟩
 rw [← hT0] at hP ⊢
 unfold msL msR at hP
 have hi' := hide hi
 have hg' := hide hg
 have hT' := hide hT
 have hn' := hide hn
 have hM' := hide hM
 obtain ⟨CS,hCS0⟩ : ∃ C,C = partS V E S := ⟨_,rfl⟩
 rw [← hCS0] at hb ⊢
 have hCS := hide hCS0
 have hb' := hide hb
 have hCl := hide (show CS.length ≤ 1024 by
  have h2 : CS = compS E 1100 (minusS (vS V) S) := hCS0
  have h1 := comp_len hi 1100 _ _ CS rfl (by have := toL_len (minusS (vS V) S); omega) h2
  have := toL_len (minusS (vS V) S)
  omega)
 clear hst hx hi hg hT hn hM hb hT0 hCS0
 refine callsIn_wide.1 (callsIn_of_wp_marks (n := 0) Tryz.func51 rfl trivial (wpIn_wide.2 ?_))
 simp only [Tryz.ntmps51,List.size_toArray,List.length_cons,List.length_nil,Nat.reduceAdd,Nat.reduceSub,Array.replicate_succ,Array.replicate_zero,List.push_toArray,List.append_toArray,List.nil_append,List.cons_append]
 try dsimp only
 repeat ((fail_if_success (with_reducible refine wp_reg (id := 0) ?_)); (first | go_values | go_skip | go_step | go_guarded | go_upon | go_in | go_back | fail))
 with_reducible refine wp_reg (id := 0) ?_
 refine (unhide hP).allocO 25 (setC S) rfl (run_box (v := .agg (setC S)) rfl rfl) ?_
 intro r4 y1 hQ
 replace hP : Hid (Sp wf T w [] [(r2,26, #[.pointer og]),(r6,96, #[.map (some mb)]),(r7,34, #[.slice A n c]),(r4,25,setC S)] [(96,0, .map (some mb),0,mapXs ekS evY M0),(25,16, .slice A n c,n,X0.flatMap encS)] y1) := hide hQ
 clear hQ
 refine wpO_done ?_
 try go_frame
 try dsimp only
 repeat ((fail_if_success (with_reducible refine wp_reg (id := 1) ?_)); (first | go_values | go_skip | go_step | go_guarded | go_upon | go_in | go_back | fail))
 with_reducible refine wp_reg (id := 1) ?_
 refine wpO_val rfl (load_V (v := .pointer og) rfl rfl (by simp [go_sem]) (((unhide hP).get 0 rfl).cell 0)) ?_
 go_frame
 refine wpO_val rfl (load_SetR (N := S) rfl rfl ((unhide hP).get 3 rfl).whole) ?_
 refine wpO_want rfl ?_
 go_simp
 have hca := components_any og V E S y1 (unhide hi') ((unhide hg').ext (unhide hP).extf) ((unhide hT').ext (unhide hP).extf)
 rw [← unhide hCS] at hca
 refine hca.mono ?_
 clear hca
 rintro _ y2 ⟨A1,n1,c1,rfl,hn10,hown,hxc⟩
 replace hP : Hid (Sp wf T w [] [(r2,26, #[.pointer og]),(r6,96, #[.map (some mb)]),(r7,34, #[.slice A n c]),(r4,25,setC S)] [(96,0, .map (some mb),0,mapXs ekS evY M0),(25,16, .slice A n c,n,X0.flatMap encS),(25,16, .slice A1 n1 c1,n1,CS.flatMap encS)] y2) := hide ((unhide hP).addRow hxc hown)
 have hn1 := hide hn10
 clear hxc hown hn10
 refine ⟨_,rfl, ?_⟩
 try go_frame
 iterate 2
  refine wpO_want rfl ?_
  go_simp
 refine wpO_done ?_
 try go_frame
 go_wp2_with fail
 obtain ⟨I2_2,hI2_20⟩ : ∃ I : Nat → Act → World → Prop,I = fun fi a' wr => ∃ (i : Nat), ∃ (A2 : Option Addr), ∃ (n2 : Nat), ∃ (c2 : Nat), ∃ (M : List (SetK × Bool)), ∃ (X : List Nat),a'.tmps.size = 30 ∧ a'.tmps.getD 1 undef = .pointer (some ⟨r2,0,none⟩) ∧ a'.tmps.getD 2 undef = .pointer (some ⟨r6,0,none⟩) ∧ a'.tmps.getD 3 undef = .pointer (some ⟨r7,0,none⟩) ∧ a'.tmps.getD 10 undef = .slice A1 n1 c1 ∧ a'.tmps.getD 11 undef = .int .i64 (n1 : Nat) ∧ a'.tmps.getD 12 undef = .int .i64 (i : Nat) ∧ a'.defers = [] ∧ i ≤ n1 ∧ (X = leftS E X0 (CS.take i)) ∧ n2 = X.length ∧ MkOk M X ∧ Sp wf T w [] [(r2,26, #[.pointer og]),(r6,96, #[.map (some mb)]),(r7,34, #[.slice A2 n2 c2]),(r4,25,setC S)] [(96,0, .map (some mb),0,mapXs ekS evY M),(25,16, .slice A2 n2 c2,n2,X.flatMap encS),(25,16, .slice A1 n1 c1,n1,CS.flatMap encS)] wr ∧ fi = n1 - i := ⟨_,rfl⟩
 have hI2_2 := hide hI2_20
 clear hI2_20
 refine wp_loop_ix I2_2 (n1 - 0) ?_ ?_
 ·rw [unhide hI2_2]; exact ⟨0,A,n,c,M0,X0,rfl,rfl,rfl,rfl,rfl,rfl,rfl,rfl,Nat.zero_le _,rfl,unhide hn',unhide hM',unhide hP,rfl⟩
 ·rintro fi ⟨tm,dfs⟩ wr hrel
  rw [unhide hI2_2] at hrel
  obtain ⟨i,A2,n2,c2,M,X,hsz,e1,e2,e3,e10,e11,e12,hdf,hin,hX0,hn20,hM0,hPr,hfm⟩ := hrel
  obtain ⟨us,rfl⟩ : ∃ us : Nat → Value,tm = #[us 0,us 1,us 2,us 3,us 4,us 5,us 6,us 7,us 8,us 9,us 10,us 11,us 12,us 13,us 14,us 15,us 16,us 17,us 18,us 19,us 20,us 21,us 22,us 23,us 24,us 25,us 26,us 27,us 28,us 29] := ⟨fun i => tm.getD i undef,arr_fn hsz⟩
  have h1 : us 1 = .pointer (some ⟨r2,0,none⟩) := e1
  have h2 : us 2 = .pointer (some ⟨r6,0,none⟩) := e2
  have h3 : us 3 = .pointer (some ⟨r7,0,none⟩) := e3
  have h10 : us 10 = .slice A1 n1 c1 := e10
  have h11 : us 11 = .int .i64 (n1 : Nat) := e11
  have h12 : us 12 = .int .i64 (i : Nat) := e12
  have hdf2 : dfs = [] := hdf
  subst hdf2
  clear hdf hsz e1 e2 e3 e10 e11 e12
  simp only [h1,h2,h3,h10,h11,h12]
  clear h1 h2 h3 h10 h11 h12
  clear hP hM' hn'
  have hP := hide hPr
  have hfm' := hide hfm
  have hX := hide hX0
  have hn2 := hide hn20
  have hM := hide hM0
  clear hPr hfm hX0 hn20 hM0
  by_cases hlt : i < n1
  ·skip
   have hil : (i : Int) < (n1 : Int) := by omega
   have hlt' := hide hlt
   have hiC : i < CS.length := by rw [← unhide hn1]; exact hlt
   have hib : (i : Int) ≤ 1024 := by have := unhide hCl; have := unhide hn1; omega
   have hnb := hide (show n2 ≤ 1000 by
    rw [unhide hn2,unhide hX]
    exact unhide hb' _ (fun p hp => List.mem_of_mem_take hp))
   have hsl : SlAt encS 16 wr A1 CS := own_at (enc := encS) (by have h := (unhide hP).row 2 rfl; rw [unhide hn1] at h; exact h) encS_len
   obtain ⟨b9,o9,rfl,hlt9,hst9⟩ := hsl.set hiC
   have hxs := hide (show leftS E X0 (CS.take (i + 1)) = addS X (besS E CS[i]) by rw [List.take_succ_eq_append_getElem hiC,leftS_snoc,unhide hX])
   obtain ⟨p,hp0⟩ : ∃ p,p = CS[i] := ⟨_,rfl⟩
   rw [← hp0] at hst9 hxs
   have hst := hide hst9
   clear hp0 hlt hin hlt9 hst9 hiC hsl
   have hself := hide (Ext.refl wr)
   try dsimp only
   repeat ((fail_if_success (with_reducible refine wp_reg (id := 2) ?_)); (first | go_values | go_skip | go_step | go_guarded | go_upon | go_in | go_back | fail))
   with_reducible refine wp_reg (id := 2) ?_
   refine wpO_want rfl ?_
   go_simp
   refine wpO_done ?_
   try go_frame
   try dsimp only
   repeat ((fail_if_success (with_reducible refine wp_reg (id := 3) ?_)); (first | go_values | go_skip | go_step | go_guarded | go_upon | go_in | go_back | fail))
   with_reducible refine wp_reg (id := 3) ?_
   refine wpO_want rfl ?_
   go_simp
   refine wpO_val rfl (load_SetR (N := p) rfl rfl (fun j v hv => unhide hst [] _ (Keep.refl [] wr) (by simp) j v hv)) ?_
   try go_frame
   clear hil hself
   refine (unhide hP).allocO 25 (setC 0) rfl (run_alloc_set rfl) ?_
   intro r9 y3 hQ
   replace hP : Hid (Sp wf T w [] [(r2,26, #[.pointer og]),(r6,96, #[.map (some mb)]),(r7,34, #[.slice A2 n2 c2]),(r4,25,setC S),(r9,25,setC 0)] [(96,0, .map (some mb),0,mapXs ekS evY M),(25,16, .slice A2 n2 c2,n2,X.flatMap encS),(25,16, .slice (some ⟨b9,o9,none⟩) n1 c1,n1,CS.flatMap encS)] y3) := hide hQ
   clear hQ
   refine (unhide hP).setO 4 (setC p) rfl rfl (fun hb => store_SetR (N := p) rfl rfl rfl hb) ?_
   intro y4 hQ
   replace hP : Hid (Sp wf T w [] [(r2,26, #[.pointer og]),(r6,96, #[.map (some mb)]),(r7,34, #[.slice A2 n2 c2]),(r4,25,setC S),(r9,25,setC p)] [(96,0, .map (some mb),0,mapXs ekS evY M),(25,16, .slice A2 n2 c2,n2,X.flatMap encS),(25,16, .slice (some ⟨b9,o9,none⟩) n1 c1,n1,CS.flatMap encS)] y4) := hide hQ
   clear hQ
   refine wpO_done ?_
   try go_frame
   try dsimp only
   repeat ((fail_if_success (with_reducible refine wp_reg (id := 4) ?_)); (first | go_values | go_skip | go_step | go_guarded | go_upon | go_in | go_back | fail))
   with_reducible refine wp_reg (id := 4) ?_
   refine wpO_val rfl (load_V (v := .pointer og) rfl rfl (by simp [go_sem]) (((unhide hP).get 0 rfl).cell 0)) ?_
   go_frame
   refine wpO_val rfl (load_SetR (N := p) rfl rfl ((unhide hP).get 4 rfl).whole) ?_
   refine wpO_want rfl ?_
   go_simp
   refine (beside_any og V E p y4 ((unhide hg').ext (unhide hP).extf) ((unhide hT').ext (unhide hP).extf)).mono ?_
   rintro _ y5 ⟨rfl,hxc⟩
   refine ⟨_,rfl, ?_⟩
   replace hP : Hid (Sp wf T w [] [(r2,26, #[.pointer og]),(r6,96, #[.map (some mb)]),(r7,34, #[.slice A2 n2 c2]),(r4,25,setC S),(r9,25,setC p)] [(96,0, .map (some mb),0,mapXs ekS evY M),(25,16, .slice A2 n2 c2,n2,X.flatMap encS),(25,16, .slice (some ⟨b9,o9,none⟩) n1 c1,n1,CS.flatMap encS)] y5) := hide ((unhide hP).ext hxc)
   clear hxc
   have hdR := hide (InR.bes (E := E) p)
   obtain ⟨d,hd0⟩ : ∃ d,d = besS E p := ⟨_,rfl⟩
   rw [← hd0] at hdR hxs ⊢
   clear hd0
   have hq9 := unhide hM ⟨d,unhide hdR⟩
   dsimp only at hq9
   obtain ⟨q,hq0⟩ : ∃ q,q = decide (d ∈ X) := ⟨_,rfl⟩
   have hlk := hide (show (lookM M ⟨d,unhide hdR⟩).getD false = q by
    rw [hq9,hq0]
    by_cases h9 : d ∈ X
    ·rw [if_pos h9,decide_eq_true h9]; rfl
    ·rw [if_neg h9,decide_eq_false h9]; rfl)
   have hq := hide hq0
   clear hq9 hq0
   refine (unhide hP).allocO 25 (setC 0) rfl (run_alloc_set rfl) ?_
   intro r10 y6 hQ
   replace hP : Hid (Sp wf T w [] [(r2,26, #[.pointer og]),(r6,96, #[.map (some mb)]),(r7,34, #[.slice A2 n2 c2]),(r4,25,setC S),(r9,25,setC p),(r10,25,setC 0)] [(96,0, .map (some mb),0,mapXs ekS evY M),(25,16, .slice A2 n2 c2,n2,X.flatMap encS),(25,16, .slice (some ⟨b9,o9,none⟩) n1 c1,n1,CS.flatMap encS)] y6) := hide hQ
   clear hQ
   refine (unhide hP).setO 5 (setC d) rfl rfl (fun hb => store_SetR (N := d) rfl rfl rfl hb) ?_
   intro y7 hQ
   replace hP : Hid (Sp wf T w [] [(r2,26, #[.pointer og]),(r6,96, #[.map (some mb)]),(r7,34, #[.slice A2 n2 c2]),(r4,25,setC S),(r9,25,setC p),(r10,25,setC d)] [(96,0, .map (some mb),0,mapXs ekS evY M),(25,16, .slice A2 n2 c2,n2,X.flatMap encS),(25,16, .slice (some ⟨b9,o9,none⟩) n1 c1,n1,CS.flatMap encS)] y7) := hide hQ
   clear hQ
   refine wpO_done ?_
   try go_frame
   try dsimp only
   repeat ((fail_if_success (with_reducible refine wp_reg (id := 5) ?_)); (first | go_values | go_skip | go_step | go_guarded | go_upon | go_in | go_back | fail))
   with_reducible refine wp_reg (id := 5) ?_
   refine wpO_val rfl (load_V (v := .map (some mb)) rfl rfl (by simp [go_sem]) (((unhide hP).get 1 rfl).cell 0)) ?_
   go_frame
   refine wpO_val rfl (load_SetR (N := d) rfl rfl ((unhide hP).get 5 rfl).whole) ?_
   try go_frame
   refine (unhide hP).look1O 0 (m := M) (ek := ekS) (ev := evY) rfl (fun _ _ => trivial) rfl keS Tryz.underlying96 (zeroY _) (x := ⟨d,unhide hdR⟩) trivial rfl rfl rfl ?_
   rw [unhide hlk]
   simp only [evY]
   go_frame
   refine wpO_want rfl ?_
   go_simp
   refine wpO_done ?_
   try go_frame
   clear hlk
   cases q
   ·skip
    have hnot := of_decide_eq_false (unhide hq).symm
    have hxs2 := hide (show leftS E X0 (CS.take (i + 1)) = X ++ [d] by rw [unhide hxs]; unfold addS; rw [if_neg hnot])
    clear hxs hq hnot
    try dsimp only
    repeat ((fail_if_success (with_reducible refine wp_reg (id := 6) ?_)); (first | go_values | go_skip | go_step | go_guarded | go_upon | go_in | go_back | fail))
    with_reducible refine wp_reg (id := 6) ?_
    refine wpO_val rfl (load_V (v := .map (some mb)) rfl rfl (by simp [go_sem]) (((unhide hP).get 1 rfl).cell 0)) ?_
    go_frame
    refine wpO_val rfl (load_SetR (N := d) rfl rfl ((unhide hP).get 5 rfl).whole) ?_
    try go_frame
    refine (unhide hP).mapPutO 0 (m := M) (ek := ekS) (ev := evY) rfl (fun _ _ => trivial) rfl keS Tryz.underlying96 (x := ⟨d,unhide hdR⟩) (trivial) true rfl rfl rfl rfl 0 ?_
    intro y8 hQ
    replace hP : Hid (Sp wf T w [] [(r2,26, #[.pointer og]),(r6,96, #[.map (some mb)]),(r7,34, #[.slice A2 n2 c2]),(r4,25,setC S),(r9,25,setC p),(r10,25,setC d)] [(96,0, .map (some mb),0,mapXs ekS evY (putM M (⟨d,unhide hdR⟩) true)),(25,16, .slice A2 n2 c2,n2,X.flatMap encS),(25,16, .slice (some ⟨b9,o9,none⟩) n1 c1,n1,CS.flatMap encS)] y8) := hide hQ
    clear hQ
    go_frame
    refine wpO_done ?_
    try go_frame
    try dsimp only
    repeat ((fail_if_success (with_reducible refine wp_reg (id := 7) ?_)); (first | go_values | go_skip | go_step | go_guarded | go_upon | go_in | go_back | fail))
    with_reducible refine wp_reg (id := 7) ?_
    refine wpO_val rfl (load_V (v := .slice A2 n2 c2) rfl rfl (by simp [go_sem]) (((unhide hP).get 2 rfl).cell 0)) ?_
    go_frame
    refine wpO_val rfl (load_SetR (N := d) rfl rfl ((unhide hP).get 5 rfl).whole) ?_
    try go_frame
    refine (unhide hP).build1O 25 (setC d) rfl (run_buildS rfl rfl) ?_
    intro bn y9 hQ
    replace hP : Hid (Sp wf T w [] [(r2,26, #[.pointer og]),(r6,96, #[.map (some mb)]),(r7,34, #[.slice A2 n2 c2]),(r4,25,setC S),(r9,25,setC p),(r10,25,setC d),(bn,25,setC d)] [(96,0, .map (some mb),0,mapXs ekS evY (putM M (⟨d,unhide hdR⟩) true)),(25,16, .slice A2 n2 c2,n2,X.flatMap encS),(25,16, .slice (some ⟨b9,o9,none⟩) n1 c1,n1,CS.flatMap encS)] y9) := hide hQ
    clear hQ
    try go_frame
    refine (unhide hP).ap1O (enc := encS) (T := 25) (ST := 34) 1 (v := .slice A2 n2 c2) (m := n2) (xs := X) rfl rfl infoS Tryz.underlying34 one_encS encS_len (by decide) (by decide) rfl d rfl rfl ((unhide hP).get 6 rfl) (by have := unhide hnb; omega) ?_
    intro A4 cA4 y10 hQ
    replace hP : Hid (Sp wf T w [] [(r2,26, #[.pointer og]),(r6,96, #[.map (some mb)]),(r7,34, #[.slice A2 n2 c2]),(r4,25,setC S),(r9,25,setC p),(r10,25,setC d),(bn,25,setC d)] [(96,0, .map (some mb),0,mapXs ekS evY (putM M (⟨d,unhide hdR⟩) true)),(25,16, .slice A4 (n2 + 1) cA4,n2 + 1,(X ++ [d]).flatMap encS),(25,16, .slice (some ⟨b9,o9,none⟩) n1 c1,n1,CS.flatMap encS)] y10) := hide hQ
    clear hQ
    try go_frame
    replace hP : Hid (Sp wf T w [] [(r2,26, #[.pointer og]),(r6,96, #[.map (some mb)]),(r7,34, #[.slice A2 n2 c2]),(r4,25,setC S),(r9,25,setC p),(r10,25,setC d)] [(96,0, .map (some mb),0,mapXs ekS evY (putM M (⟨d,unhide hdR⟩) true)),(25,16, .slice A4 (n2 + 1) cA4,n2 + 1,(X ++ [d]).flatMap encS),(25,16, .slice (some ⟨b9,o9,none⟩) n1 c1,n1,CS.flatMap encS)] y10) := hide ((unhide hP).sub (List.sublist_append_left _ ([(bn,25,setC d)] : List Cl)) (List.Sublist.refl _))
    refine (unhide hP).setO 2 #[.slice A4 (n2 + 1) cA4] rfl rfl (fun hb => run_store_row (v := .slice A4 (n2 + 1) cA4) rfl rfl rfl (by simp [go_sem]) hb rfl (by simp [Value.cells,Value.oneCell'])) ?_
    intro y11 hQ
    replace hP : Hid (Sp wf T w [] [(r2,26, #[.pointer og]),(r6,96, #[.map (some mb)]),(r7,34, #[.slice A4 (n2 + 1) cA4]),(r4,25,setC S),(r9,25,setC p),(r10,25,setC d)] [(96,0, .map (some mb),0,mapXs ekS evY (putM M (⟨d,unhide hdR⟩) true)),(25,16, .slice A4 (n2 + 1) cA4,n2 + 1,(X ++ [d]).flatMap encS),(25,16, .slice (some ⟨b9,o9,none⟩) n1 c1,n1,CS.flatMap encS)] y11) := hide hQ
    clear hQ
    refine wpO_done ?_
    try go_frame
    replace hP : Hid (Sp wf T w [] [(r2,26, #[.pointer og]),(r6,96, #[.map (some mb)]),(r7,34, #[.slice A4 (n2 + 1) cA4]),(r4,25,setC S),(r9,25,setC p)] [(96,0, .map (some mb),0,mapXs ekS evY (putM M (⟨d,unhide hdR⟩) true)),(25,16, .slice A4 (n2 + 1) cA4,n2 + 1,(X ++ [d]).flatMap encS),(25,16, .slice (some ⟨b9,o9,none⟩) n1 c1,n1,CS.flatMap encS)] y11) := hide ((unhide hP).sub (List.sublist_append_left _ ([(r10,25,setC d)] : List Cl)) (List.Sublist.refl _))
    replace hP : Hid (Sp wf T w [] [(r2,26, #[.pointer og]),(r6,96, #[.map (some mb)]),(r7,34, #[.slice A4 (n2 + 1) cA4]),(r4,25,setC S)] [(96,0, .map (some mb),0,mapXs ekS evY (putM M (⟨d,unhide hdR⟩) true)),(25,16, .slice A4 (n2 + 1) cA4,n2 + 1,(X ++ [d]).flatMap encS),(25,16, .slice (some ⟨b9,o9,none⟩) n1 c1,n1,CS.flatMap encS)] y11) := hide ((unhide hP).sub (List.sublist_append_left _ ([(r9,25,setC p)] : List Cl)) (List.Sublist.refl _))
    go_wp2_with fail
    refine ⟨n1 - (i + 1), ?_,by have := unhide hfm'; have := unhide hlt'; omega⟩
    rw [unhide hI2_2]
    exact ⟨i + 1,A4,n2 + 1,cA4,_,X ++ [d],(by first | rfl | trivial),(by first | rfl | trivial),(by first | rfl | trivial),(by first | rfl | trivial),(by first | rfl | trivial),(by first | rfl | trivial),(by first | rfl | (show _ = Value.int _ _; go_num) | go_num),(by first | rfl | trivial),by have := unhide hlt'; omega,(unhide hxs2).symm,(by rw [List.length_append,unhide hn2]; rfl),(unhide hM).put ⟨d,unhide hdR⟩,unhide hP,rfl⟩
   ·skip
    have hin2 := of_decide_eq_true (unhide hq).symm
    have hxs2 := hide (show leftS E X0 (CS.take (i + 1)) = X by rw [unhide hxs]; unfold addS; rw [if_pos hin2])
    clear hxs hq hin2
    replace hP : Hid (Sp wf T w [] [(r2,26, #[.pointer og]),(r6,96, #[.map (some mb)]),(r7,34, #[.slice A2 n2 c2]),(r4,25,setC S),(r9,25,setC p)] [(96,0, .map (some mb),0,mapXs ekS evY M),(25,16, .slice A2 n2 c2,n2,X.flatMap encS),(25,16, .slice (some ⟨b9,o9,none⟩) n1 c1,n1,CS.flatMap encS)] y7) := hide ((unhide hP).sub (List.sublist_append_left _ ([(r10,25,setC d)] : List Cl)) (List.Sublist.refl _))
    replace hP : Hid (Sp wf T w [] [(r2,26, #[.pointer og]),(r6,96, #[.map (some mb)]),(r7,34, #[.slice A2 n2 c2]),(r4,25,setC S)] [(96,0, .map (some mb),0,mapXs ekS evY M),(25,16, .slice A2 n2 c2,n2,X.flatMap encS),(25,16, .slice (some ⟨b9,o9,none⟩) n1 c1,n1,CS.flatMap encS)] y7) := hide ((unhide hP).sub (List.sublist_append_left _ ([(r9,25,setC p)] : List Cl)) (List.Sublist.refl _))
    go_wp2_with fail
    refine ⟨n1 - (i + 1), ?_,by have := unhide hfm'; have := unhide hlt'; omega⟩
    rw [unhide hI2_2]
    exact ⟨i + 1,A2,n2,c2,M,X,(by first | rfl | trivial),(by first | rfl | trivial),(by first | rfl | trivial),(by first | rfl | trivial),(by first | rfl | trivial),(by first | rfl | trivial),(by first | rfl | (show _ = Value.int _ _; go_num) | go_num),(by first | rfl | trivial),by have := unhide hlt'; omega,(unhide hxs2).symm,unhide hn2,unhide hM,unhide hP,rfl⟩
  ·skip
   have hil : ¬ (i : Int) < (n1 : Int) := by omega
   have hxe := hide (show X = leftS E X0 CS by rw [unhide hX,List.take_of_length_le (by rw [← unhide hn1]; omega)])
   clear hlt hin
   try dsimp only
   repeat ((fail_if_success (with_reducible refine wp_reg (id := 2) ?_)); (first | go_values | go_skip | go_step | go_guarded | go_upon | go_in | go_back | fail))
   with_reducible refine wp_reg (id := 2) ?_
   refine wpO_want rfl ?_
   go_simp
   refine wpO_done ?_
   try go_frame
   clear hil
   go_wp2_with fail
   have htin := hide (unhide hP).tin
   refine (unhide hP).leavesG (.nil _) ?_
   intro w' hx hst
   refine ⟨_,results_none rfl _ _ _,rfl,A2,n2,c2,M,by rw [← unhide hxe]; exact unhide hn2,by rw [← unhide hxe]; exact unhide hM,by rw [← unhide hxe]; exact hst.sub (List.sublist_append_left _ ([(r4,25,setC S)] : List Cl)) (List.sublist_append_left _ ([(25,16, .slice A1 n1 c1,n1,CS.flatMap encS)] : List Rw)),hx,fun x hx9 => unhide htin x (stT_sub (List.sublist_append_left _ ([(r4,25,setC S)] : List Cl)) (List.sublist_append_left _ ([(25,16, .slice A1 n1 c1,n1,CS.flatMap encS)] : List Rw)) x (by rw [← unhide hxe] at hx9; exact hx9))⟩
end Go.Proofs.YtmokciekndllpaaGreatDoor
namespace Go.Proofs
open Go.Shelf
def Tryz.sortS_ren : Go.Shelf.Ren := ⟨fun | 6 => 58 | 15 => 113 | 14 => 112 | 28 => 167 | 29 => 168 | 20 => 159 | 21 => 160 | 22 => 161 | 23 => 162 | 24 => 163 | 25 => 164 | 26 => 165 | 27 => 166 | 46 => 190 | 47 => 191 | 48 => 192 | 49 => 193 | 50 => 194 | 57 => 208 | n => n,fun | 22 => 34 | 24 => 25 | 25 => 106 | 3 => 3 | 39 => 165 | 0 => 0 | 53 => 206 | 55 => 23 | 4 => 4 | 46 => 200 | 45 => 199 | 50 => 114 | 5 => 5 | 9 => 9 | 66 => 230 | 70 => 234 | 76 => 249 | 77 => 226 | n => n,fun | n => n⟩
theorem Tryz.sortS : Go.Proofs.SlLaysF0.n6 Tryz.prog Tryz.sortS_ren := {
 mixed := by kernel_rfl
 f6 := ⟨Tryz.f58.name,by decide,Tryz.func58.trans (congrArg some (by kernel_rfl))⟩
 f14 := ⟨Tryz.f112.name,by decide,Tryz.func112.trans (congrArg some (by kernel_rfl))⟩
 f15 := Tryz.func113.trans (congrArg some (by kernel_rfl))
 f20 := ⟨Tryz.f159.name,by decide,Tryz.func159.trans (congrArg some (by kernel_rfl))⟩
 f21 := ⟨Tryz.f160.name,by decide,Tryz.func160.trans (congrArg some (by kernel_rfl))⟩
 f22 := ⟨Tryz.f161.name,by decide,Tryz.func161.trans (congrArg some (by kernel_rfl))⟩
 f23 := ⟨Tryz.f162.name,by decide,Tryz.func162.trans (congrArg some (by kernel_rfl))⟩
 f24 := ⟨Tryz.f163.name,by decide,Tryz.func163.trans (congrArg some (by kernel_rfl))⟩
 f25 := ⟨Tryz.f164.name,by decide,Tryz.func164.trans (congrArg some (by kernel_rfl))⟩
 f26 := ⟨Tryz.f165.name,by decide,Tryz.func165.trans (congrArg some (by kernel_rfl))⟩
 f27 := ⟨Tryz.f166.name,by decide,Tryz.func166.trans (congrArg some (by kernel_rfl))⟩
 f28 := Tryz.func167.trans (congrArg some (by kernel_rfl))
 f29 := Tryz.func168.trans (congrArg some (by kernel_rfl))
 f46 := ⟨Tryz.f190.name,by decide,Tryz.func190.trans (congrArg some (by kernel_rfl))⟩
 f47 := Tryz.func191.trans (congrArg some (by kernel_rfl))
 f48 := Tryz.func192.trans (congrArg some (by kernel_rfl))
 f49 := ⟨Tryz.f193.name,by decide,Tryz.func193.trans (congrArg some (by kernel_rfl))⟩
 f50 := ⟨Tryz.f194.name,by decide,Tryz.func194.trans (congrArg some (by kernel_rfl))⟩
 f57 := ⟨Tryz.f208.name,by decide,Tryz.func208.trans (congrArg some (by kernel_rfl))⟩
 t0 := Tryz.underlying0
 a0 := Tryz.isAgg0
 z0 := Tryz.sizeOf0
 v0 := Tryz.zeroValue0
 t3 := Tryz.underlying3
 a3 := Tryz.isAgg3
 z3 := Tryz.sizeOf3
 v3 := Tryz.zeroValue3
 t4 := Tryz.underlying4
 a4 := Tryz.isAgg4
 z4 := Tryz.sizeOf4
 v4 := Tryz.zeroValue4
 t5 := Tryz.underlying5
 a5 := Tryz.isAgg5
 z5 := Tryz.sizeOf5
 v5 := Tryz.zeroValue5
 t9 := Tryz.underlying9
 a9 := Tryz.isAgg9
 z9 := Tryz.sizeOf9
 v9 := Tryz.zeroValue9
 t22 := Tryz.underlying34
 a22 := Tryz.isAgg34
 z22 := Tryz.sizeOf34
 v22 := Tryz.zeroValue34
 t25 := Tryz.underlying106
 a25 := Tryz.isAgg106
 z25 := Tryz.sizeOf106
 v25 := Tryz.zeroValue106
 t39 := Tryz.underlying165
 a39 := Tryz.isAgg165
 z39 := Tryz.sizeOf165
 v39 := Tryz.zeroValue165
 t45 := Tryz.underlying199
 a45 := Tryz.isAgg199
 z45 := Tryz.sizeOf199
 v45 := Tryz.zeroValue199
 t46 := Tryz.underlying200
 a46 := Tryz.isAgg200
 z46 := Tryz.sizeOf200
 v46 := Tryz.zeroValue200
 t50 := Tryz.underlying114
 a50 := Tryz.isAgg114
 z50 := Tryz.sizeOf114
 v50 := Tryz.zeroValue114
 t53 := Tryz.underlying206
 a53 := Tryz.isAgg206
 z53 := Tryz.sizeOf206
 v53 := Tryz.zeroValue206
 t55 := Tryz.underlying23
 a55 := Tryz.isAgg23
 z55 := Tryz.sizeOf23
 v55 := Tryz.zeroValue23
 t66 := Tryz.underlying230
 a66 := Tryz.isAgg230
 z66 := Tryz.sizeOf230
 v66 := Tryz.zeroValue230
 t70 := Tryz.underlying234
 a70 := Tryz.isAgg234
 z70 := Tryz.sizeOf234
 v70 := Tryz.zeroValue234
 t76 := Tryz.underlying249
 a76 := Tryz.isAgg249
 z76 := Tryz.sizeOf249
 v76 := Tryz.zeroValue249
 t77 := Tryz.underlying226
 a77 := Tryz.isAgg226
 z77 := Tryz.sizeOf226
 v77 := Tryz.zeroValue226 }
end Go.Proofs
namespace Go.Proofs.YtmokciekndllpaaGreatDoor
open Go Go.RowKit Go.Sort
attribute [local go_sem] qUpon lUpon
attribute [local irreducible] wpO wpX wpQL
def cmpW (N M : Nat) : Nat → Int
 | 0 => 0
 | k + 1 => if wdN N k < wdN M k then -1 else if wdN M k < wdN N k then 1 else cmpW N M k
def lowN (N k : Nat) : Nat := N % 2 ^ (64 * k)
theorem lowN_next (N k : Nat) : lowN N (k + 1) = wdN N k * 2 ^ (64 * k) + lowN N k := by
 unfold lowN wdN
 rw [show 64 * (k + 1) = 64 * k + 64 by omega,Nat.pow_add,Nat.mod_mul,Nat.shiftRight_eq_div_pow,Nat.add_comm,Nat.mul_comm]
theorem lowN_lt (N k : Nat) : lowN N k < 2 ^ (64 * k) := Nat.mod_lt _ (Nat.two_pow_pos _)
theorem mul_lt {a b p x y : Nat} (h : a < b) (hx : x < p) : a * p + x < b * p + y := by
 have h1 : (a + 1) * p ≤ b * p := Nat.mul_le_mul_right p h
 rw [Nat.add_mul,Nat.one_mul] at h1
 omega
theorem cmpW_eq (N M : Nat) : ∀ k,cmpW N M k = cmpI (lowN N k : Nat) (lowN M k : Nat)
 | 0 => by
  have h1 : lowN N 0 = 0 := by unfold lowN; rw [Nat.mul_zero,Nat.pow_zero,Nat.mod_one]
  have h2 : lowN M 0 = 0 := by unfold lowN; rw [Nat.mul_zero,Nat.pow_zero,Nat.mod_one]
  rw [h1,h2]; rfl
 | k + 1 => by
  have ih := cmpW_eq N M k
  have hx := lowN_lt N k
  have hy := lowN_lt M k
  unfold cmpW
  rw [lowN_next,lowN_next,ih]
  generalize lowN N k = x at *
  generalize lowN M k = y at *
  generalize 2 ^ (64 * k) = p at *
  generalize wdN N k = a at *
  generalize wdN M k = b at *
  unfold cmpI
  by_cases h1 : a < b
  ·have := mul_lt (y := y) h1 hx
   rw [if_pos h1,if_pos (by omega)]
  ·by_cases h2 : b < a
   ·have := mul_lt (y := x) h2 hy
    rw [if_neg h1,if_pos h2,if_neg (by omega),if_pos (by omega)]
   ·have : a = b := by omega
    subst this
    rw [if_neg h1,if_neg h1]
    generalize a * p = q
    have e1 : (((q + x : Nat) : Int) < ((q + y : Nat) : Int)) ↔ ((x : Int) < (y : Int)) := by omega
    have e2 : (((q + y : Nat) : Int) < ((q + x : Nat) : Int)) ↔ ((y : Int) < (x : Int)) := by omega
    by_cases h3 : (x : Int) < (y : Int)
    ·rw [if_pos h3,if_pos (e1.2 h3)]
    ·rw [if_neg h3,if_neg (fun h => h3 (e1.1 h))]
     by_cases h4 : (y : Int) < (x : Int)
     ·rw [if_pos h4,if_pos (e2.2 h4)]
     ·rw [if_neg h4,if_neg (fun h => h4 (e2.1 h))]
theorem cmpW_step {N M k : Nat} : cmpW N M (k + 1) = if cmpI (wd N k) (wd M k) = 0 then cmpW N M k else cmpI (wd N k) (wd M k) := by
 have e : cmpI (wd N k) (wd M k) = if wdN N k < wdN M k then -1 else if wdN M k < wdN N k then 1 else 0 := by
  unfold cmpI wd
  by_cases h1 : wdN N k < wdN M k
  ·rw [if_pos h1,if_pos (by omega)]
  ·rw [if_neg h1,if_neg (by omega)]
   by_cases h2 : wdN M k < wdN N k
   ·rw [if_pos h2,if_pos (by omega)]
   ·rw [if_neg h2,if_neg (by omega)]
 rw [e]
 show (if wdN N k < wdN M k then _ else _) = _
 by_cases h1 : wdN N k < wdN M k
 ·rw [if_pos h1,if_pos h1,if_neg (by omega)]
 ·rw [if_neg h1,if_neg h1]
  by_cases h2 : wdN M k < wdN N k
  ·rw [if_pos h2,if_pos h2,if_neg (by omega)]
  ·rw [if_neg h2,if_neg h2,if_pos rfl]
def ltS (N M : Nat) : Prop := lowN N 16 < lowN M 16
theorem ltOf_S (x y : Nat) : ltOf (fun x y : Nat => cmpW x y 16) x y = true ↔ ltS x y := by
 unfold ltOf ltS
 show decide (cmpW x y 16 < 0) = true ↔ _
 rw [cmpW_eq]
 unfold cmpI
 simp only [decide_eq_true_eq]
 split
 ·simp; omega
 ·split <;> simp <;> omega
theorem swoS : SWO (ltOf fun x y : Nat => cmpW x y 16) where
 irrefl x := by
  rw [Bool.eq_false_iff]
  intro h
  have := (ltOf_S x x).1 h
  unfold ltS at this
  omega
 trans x y z h1 h2 := by
  rw [ltOf_S] at *
  unfold ltS at *
  omega
 ntrans x y z h1 h2 := by
  rw [Bool.eq_false_iff] at *
  simp only [ne_eq,ltOf_S] at *
  unfold ltS at *
  omega
theorem nanu_any (a : Int) (w : World) : Calls Tryz.prog 116 #[.int .u64 a] w fun e w' => e = .returned (.bool false) ∧ w' = w := by
 go_enter Tryz.func116,Tryz.ntmps116
 go_wp2
 go_ret
 exact ⟨rfl,rfl⟩
theorem cmpu_any (a b : Int) (w : World) : Calls Tryz.prog 68 #[.int .u64 a, .int .u64 b] w fun e w' => e = .returned (.int .i64 (cmpI a b)) ∧ w' = w := by
 go_enter Tryz.func68,Tryz.ntmps68
 go_wp2_with (go_at_call 116; refine (nanu_any _ _).mono ?_; rintro e w' ⟨rfl,rfl⟩)
 all_goals (go_ret; exact ⟨ret_int (by unfold cmpI; first | (rw [if_pos (by omega)]) | (rw [if_neg (by omega),if_pos (by omega)]) | (rw [if_neg (by omega),if_neg (by omega)])),rfl⟩)
set_option maxRecDepth 100000 in
set_option maxHeartbeats 4000000 in
theorem cmpw_any (N M : Nat) (w : World) : Calls Tryz.prog 23 #[.agg (setC N), .agg (setC M)] w fun e w' => e = .returned (.int .i64 (cmpW N M 16)) ∧ Gr w w' := by
 obtain ⟨R,hR⟩ : ∃ R,R = cmpW N M 16 := ⟨_,rfl⟩
 rw [← hR]
 have hR' := hide hR
 clear hR
 have hB2 := hide ((Blk.new w 25 (setC N)).ext (ext_self1 _ (.cells (setC M) 25)))
 have hB3 := hide (Blk.new (w.alloc (.cells (setC N) 25)) 25 (setC M))
 have hx1 := hide (((Gr.refl w).alloc (.cells (setC N) 25)).alloc (.cells (setC M) 25))
 simp only [World.size_alloc] at hB3
 go_enter Tryz.func23,Tryz.ntmps23
 go_wp2_with fail
 generalize (w.alloc (.cells (setC N) 25)).alloc (.cells (setC M) 25) = W1 at *
 generalize w.heap.size + 1 = b3 at *
 generalize w.heap.size = b2 at *
 go_loopw [5] (fun i wr => ∃ k : Nat,k ≤ 16 ∧ i = .int .i64 ((k : Int) - 1) ∧ R = cmpW N M k ∧ Blk wr b2 25 (setC N) ∧ Blk wr b3 25 (setC M) ∧ Gr w wr) (fun i _ => (intOf i + 1).toNat)
 case atStart => exact ⟨16,Nat.le_refl _,rfl,unhide hR',unhide hB2,unhide hB3,unhide hx1⟩
 case round =>
  obtain ⟨k,hk,rfl,hRk,hB,hC,hx⟩ := hrel
  have hRk' := hide hRk
  have hB' := hide hB
  have hC' := hide hC
  have hx' := hide hx
  clear hB2 hB3 hx1 hRk
  cases k with
  | zero =>
   clear hB hC hx
   go_wp2_with fail
   go_ret
   exact ⟨ret_int (by rw [unhide hRk']; rfl),unhide hx'⟩
  | succ k =>
   have hk16 : k < 16 := by omega
   have hki : (k : Int) < 16 := by omega
   have c0 := hB.cells k (setC_get N hk16)
   have c1 := hC.cells k (setC_get M hk16)
   have hself := Ext.refl wr
   clear hB hC hx
   obtain ⟨z,hz⟩ : ∃ z,z = cmpI (wd N k) (wd M k) := ⟨_,rfl⟩
   have hz' := hide hz
   have e1 : ((k + 1 : Nat) : Int) - 1 = (k : Int) := by omega
   rw [e1]
   clear hz e1
   go_wp2_with fail
   refine wp_region_ql (P := Tryz.prog) (fun a b => b = a) (Gr wr) [0,1,2,3,4,5,6,7] [] 0 #[true,true,true,true,true,true,true,true] (by kernel_rfl) (by kernel_rfl) rfl (by rfl) (fun _ => rfl) (fun _ _ _ h1 h2 => h2.trans h1) (fun _ _ h e => by rw [e]; exact h) (Gr.refl wr).drew ?_
   have c0' : ∀ W,Gr wr W → W.cell? ⟨b2,k,none⟩ = some (.int .u64 (wd N k)) := fun W h => c0 W h.ext
   have c1' : ∀ W,Gr wr W → W.cell? ⟨b3,k,none⟩ = some (.int .u64 (wd M k)) := fun W h => c1 W h.ext
   clear c0 c1 hself
   iterate 8
    refine ql_want (v := ?_) rfl (by rfl) (fun W hW => ?_) ?_
    rotate_left
    ·go_simp
     first | done | rfl | (go_at_call 68; refine (cmpu_any _ _ _).mono ?_; rintro _ _ ⟨h1,h2⟩; refine ⟨_,h1, ?_,h2⟩; rfl)
    go_frame
   refine wpQL_nil (fun w3 hx3 => ?_)
   refine wpX_done (by kernel_rfl) ?_
   try go_frame
   have hx3' := hide ((unhide hx').trans hx3)
   have hB3 := hide ((unhide hB').ext hx3.ext)
   have hC3 := hide ((unhide hC').ext hx3.ext)
   rw [← unhide hz']
   have hst : cmpW N M (k + 1) = if z = 0 then cmpW N M k else z := by rw [unhide hz']; exact cmpW_step
   have hst' := hide hst
   clear c0' c1' hx3 hst hx' hB' hC'
   by_cases hz0 : z = 0
   ·subst hz0
    have hw : IntKind.i64.wrap ((k : Int) - 1) = (k : Int) - 1 := IntWalk.i64_in _ (by omega)
    go_wp2_with fail
    go_roundw
    case rel => exact ⟨k,by omega,by first | rfl | go_num,by rw [unhide hRk',unhide hst',if_pos rfl],unhide hB3,unhide hC3,unhide hx3'⟩
    case measure => first | (simp [intOf]; done) | (simp [intOf]; omega)
   ·have hzn : (z != 0) = true := by simp [hz0]
    replace hz0 := hide hz0
    go_wp2_with fail
    go_ret
    exact ⟨ret_int (by rw [unhide hRk',unhide hst',if_neg (unhide hz0)]),unhide hx3'⟩
end Go.Proofs.YtmokciekndllpaaGreatDoor
