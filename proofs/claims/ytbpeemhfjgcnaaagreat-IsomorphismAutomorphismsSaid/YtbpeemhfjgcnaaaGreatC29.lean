/- Parts of a proof, laid together. Each part says its own conditions. -/
import Derived.Test.YtbpeemhfjgcnaaaGreatC19
import Derived.Test.YtbpeemhfjgcnaaaGreatC20
import Derived.Test.YtbpeemhfjgcnaaaGreatC6
import Derived.Test.YtbpeemhfjgcnaaaGreatC27
namespace Go.Proofs.YtbpeemhfjgcnaaaGreat
open Go Go.RowKit Go.Shelf
attribute [local go_sem] qUpon lUpon
attribute [local irreducible] wpO wpX wpQL
def idxI (x : Int) (L : List Int) : Int := posI (fun y => y == x) L
theorem idxI_hit {L : List Int} {x : Int} {i : Nat} (hi : i < L.length) (h : L[i] = x) (hno : ∀ j (hj : j < i),L[j]'(by omega) ≠ x) : idxI x L = i := posI_hit hi (by rw [h]; simp) (fun j hj => by simp [hno j hj])
theorem idxI_miss {L : List Int} {x : Int} (hno : ∀ j (hj : j < L.length),L[j] ≠ x) : idxI x L = -1 := posI_miss (fun j hj => by simp [hno j hj])
theorem idxI_nonneg {L : List Int} {x : Int} : 0 ≤ idxI x L ↔ x ∈ L := by
 unfold idxI posI
 cases h : L.findIdx? (fun y => y == x) with
 | none =>
  rw [List.findIdx?_eq_none_iff] at h
  constructor
  ·intro h1
   exact absurd h1 (by decide)
  ·intro h1
   have := h x h1
   simp at this
 | some i =>
  obtain ⟨h1,h2,_⟩ := List.findIdx?_eq_some_iff_getElem.1 h
  constructor
  ·intro _
   have h3 : L[i] = x := by simpa using h2
   rw [← h3]
   exact List.getElem_mem h1
  ·intro _
   exact Int.natCast_nonneg i
set_option maxRecDepth 100000 in
set_option maxHeartbeats 16000000 in
theorem idx_any (A : Option Addr) (L : List Int) (n cA : Nat) (x : Int) (w : World) (hA : SlAt encI 1 w A L) (hn : n = L.length) (hl : n ≤ 100000) :
  Calls Tryz.prog 47 #[.slice A n cA, .int .i64 x] w fun e w' => e = .returned (.int .i64 (idxI x L)) ∧ Ext w w' := by
 have hA' := hide hA
 have hn' := hide hn
 have hl' := hide hl
 clear hA hn hl
 have hP := hide (Sp.new w)
 refine callsIn_wide.1 (callsIn_of_wp_marks (n := 0) Tryz.func47 rfl trivial (wpIn_wide.2 ?_))
 simp only [Tryz.ntmps47,List.size_toArray,List.length_cons,List.length_nil,Nat.reduceAdd,Nat.reduceSub,Array.replicate_succ,Array.replicate_zero,List.push_toArray,List.append_toArray,List.nil_append,List.cons_append]
 try dsimp only
 repeat ((fail_if_success (with_reducible refine wp_reg (id := 0) ?_)); (first | go_values | go_skip | go_step | go_guarded | go_upon | go_in | go_back | fail))
 with_reducible refine wp_reg (id := 0) ?_
 refine wpO_want rfl ?_
 go_simp
 refine wpO_done ?_
 try go_frame
 try dsimp only
 repeat ((fail_if_success (with_reducible refine wp_reg (id := 1) ?_)); (first | go_values | go_skip | go_step | go_guarded | go_upon | go_in | go_back | fail))
 with_reducible refine wp_reg (id := 1) ?_
 iterate 3
  refine wpO_want rfl ?_
  go_simp
 refine wpO_done ?_
 try go_frame
 go_wp2_with fail
 obtain ⟨I0_2,hI0_20⟩ : ∃ I : Nat → Act → World → Prop,I = fun fi a' wr => ∃ (i : Nat),a'.tmps.size = 19 ∧ a'.tmps.getD 0 undef = .slice A n cA ∧ a'.tmps.getD 1 undef = .int .i64 x ∧ a'.tmps.getD 4 undef = .int .i64 0 ∧ a'.tmps.getD 6 undef = .slice A n cA ∧ a'.tmps.getD 7 undef = .int .i64 (n : Nat) ∧ a'.tmps.getD 8 undef = .int .i64 (i : Nat) ∧ a'.defers = [] ∧ i ≤ n ∧ (∀ j (_ : j < i) (hj : j < L.length),L[j] ≠ x) ∧ Sp w [] w [] [] [] wr ∧ fi = n - i := ⟨_,rfl⟩
 have hI0_2 := hide hI0_20
 clear hI0_20
 refine wp_loop_ix I0_2 (n - 0) ?_ ?_
 ·rw [unhide hI0_2]; exact ⟨0,rfl,rfl,rfl,rfl,rfl,rfl,rfl,rfl,Nat.zero_le _,fun j hj => by omega,unhide hP,rfl⟩
 ·rintro fi ⟨tm,dfs⟩ wr hrel
  rw [unhide hI0_2] at hrel
  obtain ⟨i,hsz,e0,e1,e4,e6,e7,e8,hdf,hin,hno,hPr,hfm⟩ := hrel
  obtain ⟨us,rfl⟩ : ∃ us : Nat → Value,tm = #[us 0,us 1,us 2,us 3,us 4,us 5,us 6,us 7,us 8,us 9,us 10,us 11,us 12,us 13,us 14,us 15,us 16,us 17,us 18] := ⟨fun i => tm.getD i undef,arr_fn hsz⟩
  have h0 : us 0 = .slice A n cA := e0
  have h1 : us 1 = .int .i64 x := e1
  have h4 : us 4 = .int .i64 0 := e4
  have h6 : us 6 = .slice A n cA := e6
  have h7 : us 7 = .int .i64 (n : Nat) := e7
  have h8 : us 8 = .int .i64 (i : Nat) := e8
  have hdf2 : dfs = [] := hdf
  subst hdf2
  clear hdf hsz e0 e1 e4 e6 e7 e8
  simp only [h0,h1,h4,h6,h7,h8]
  clear h0 h1 h4 h6 h7 h8
  clear hP
  have hP := hide hPr
  have hfm' := hide hfm
  have hno' := hide hno
  have hAr := hide ((unhide hA').ext (unhide hP).extf)
  clear hPr hfm hno
  by_cases hlt : i < n
  ·skip
   have hil : (i : Int) < (n : Int) := by omega
   have hiL : i < L.length := by have := unhide hn'; omega
   have hib : (i : Int) ≤ 100000 := by have := unhide hl'; omega
   obtain ⟨b,off,rfl,c0⟩ := atI (unhide hAr) hiL
   have hself := Ext.refl wr
   obtain ⟨z,hz⟩ : ∃ z,z = L[i] := ⟨_,rfl⟩
   rw [← hz] at c0
   have hz' := hide hz
   clear hz
   try dsimp only
   repeat ((fail_if_success (with_reducible refine wp_reg (id := 2) ?_)); (first | go_values | go_skip | go_step | go_guarded | go_upon | go_in | go_back | fail))
   with_reducible refine wp_reg (id := 2) ?_
   refine wpO_want rfl ?_
   go_simp
   refine wpO_done ?_
   try go_frame
   try dsimp only
   repeat ((fail_if_success (with_reducible refine wp_reg (id := 3) ?_)); (first | go_values | go_skip | go_step | go_guarded | go_upon | go_in | go_back | fail))
   with_reducible refine wp_reg (id := 3) ?_
   iterate 2
    refine wpO_want rfl ?_
    go_simp
   refine wpO_done ?_
   try go_frame
   by_cases hxz : x = z
   ·skip
    have hq : ((x:Int) == z) = true := by simp [hxz]
    have hxz' := hide hxz
    clear hxz
    try dsimp only
    repeat ((fail_if_success (with_reducible refine wp_reg (id := 4) ?_)); (first | go_values | go_skip | go_step | go_guarded | go_upon | go_in | go_back | fail))
    with_reducible refine wp_reg (id := 4) ?_
    iterate 6
     refine wpO_want rfl ?_
     go_simp
    refine wpO_done ?_
    try go_frame
    clear c0 hself
    try dsimp only
    repeat ((fail_if_success (with_reducible refine wp_reg (id := 5) ?_)); (first | go_values | go_skip | go_step | go_guarded | go_upon | go_in | go_back | fail))
    with_reducible refine wp_reg (id := 5) ?_
    iterate 2
     refine wpO_want rfl ?_
     go_simp
    refine wpO_done ?_
    try go_frame
    go_wp2_with fail
    refine Sp.leaves0 ?_
    exact ⟨_,results_tmp rfl _ _ _,by rw [idxI_hit hiL (by rw [← unhide hz', ← unhide hxz']) (fun j hj => unhide hno' j hj (by omega))]; rfl,(unhide hP).extf⟩
   ·skip
    have hq : ((x:Int) == z) = false := by simp [hxz]
    have hxz' := hide hxz
    clear hxz
    try dsimp only
    repeat ((fail_if_success (with_reducible refine wp_reg (id := 4) ?_)); (first | go_values | go_skip | go_step | go_guarded | go_upon | go_in | go_back | fail))
    with_reducible refine wp_reg (id := 4) ?_
    iterate 6
     refine wpO_want rfl ?_
     go_simp
    refine wpO_done ?_
    try go_frame
    clear c0 hself
    go_wp2_with fail
    refine ⟨n - (i + 1), ?_,by have := unhide hfm'; omega⟩
    rw [unhide hI0_2]
    exact ⟨i + 1,(by first | rfl | trivial),(by first | rfl | trivial),(by first | rfl | trivial),(by first | rfl | trivial),(by first | rfl | trivial),(by first | rfl | trivial),(by first | rfl | (show _ = Value.int _ _; go_num) | go_num),(by first | rfl | trivial),by omega,(fun j hj hj2 => by
     by_cases hji : j < i
     ·exact unhide hno' j hji hj2
     ·obtain rfl : j = i := by omega
      rw [← unhide hz']
      exact fun h => unhide hxz' h.symm),unhide hP,rfl⟩
  ·skip
   have hil : ¬ (i : Int) < (n : Int) := by omega
   obtain rfl : n = i := by omega
   clear hlt hin
   try dsimp only
   repeat ((fail_if_success (with_reducible refine wp_reg (id := 2) ?_)); (first | go_values | go_skip | go_step | go_guarded | go_upon | go_in | go_back | fail))
   with_reducible refine wp_reg (id := 2) ?_
   refine wpO_want rfl ?_
   go_simp
   refine wpO_done ?_
   try go_frame
   try dsimp only
   repeat ((fail_if_success (with_reducible refine wp_reg (id := 7) ?_)); (first | go_values | go_skip | go_step | go_guarded | go_upon | go_in | go_back | fail))
   with_reducible refine wp_reg (id := 7) ?_
   refine wpO_want rfl ?_
   go_simp
   refine wpO_done ?_
   try go_frame
   go_wp2_with fail
   refine Sp.leaves0 ?_
   exact ⟨_,results_tmp rfl _ _ _,by rw [idxI_miss (fun j hj => unhide hno' j (by rw [unhide hn']; exact hj) hj)]; rfl,(unhide hP).extf⟩
set_option maxRecDepth 100000 in
set_option maxHeartbeats 16000000 in
theorem contains_any (A : Option Addr) (L : List Int) (n cA : Nat) (x : Int) (w : World) (hA : SlAt encI 1 w A L) (hn : n = L.length) (hl : n ≤ 100000) :
  Calls Tryz.prog 83 #[.slice A n cA, .int .i64 x] w fun e w' => e = .returned (.bool (decide (x ∈ L))) ∧ Ext w w' := by
 have hA' := hide hA
 have hn' := hide hn
 have hl' := hide hl
 clear hA hn hl
 have hP := hide (Sp.new w)
 refine callsIn_wide.1 (callsIn_of_wp_marks (n := 0) Tryz.func83 rfl trivial (wpIn_wide.2 ?_))
 simp only [Tryz.ntmps83,List.size_toArray,List.length_cons,List.length_nil,Nat.reduceAdd,Nat.reduceSub,Array.replicate_succ,Array.replicate_zero,List.push_toArray,List.append_toArray,List.nil_append,List.cons_append]
 try dsimp only
 repeat ((fail_if_success (with_reducible refine wp_reg (id := 0) ?_)); (first | go_values | go_skip | go_step | go_guarded | go_upon | go_in | go_back | fail))
 with_reducible refine wp_reg (id := 0) ?_
 refine wpO_want rfl ?_
 go_simp
 refine wpO_done ?_
 try go_frame
 try dsimp only
 repeat ((fail_if_success (with_reducible refine wp_reg (id := 1) ?_)); (first | go_values | go_skip | go_step | go_guarded | go_upon | go_in | go_back | fail))
 with_reducible refine wp_reg (id := 1) ?_
 iterate 3
  refine wpO_want rfl ?_
  go_simp
 refine (idx_any A L n cA x w ((unhide hA').ext (unhide hP).extf) (unhide hn') (unhide hl')).mono ?_
 rintro _ y1 ⟨rfl,hxc⟩
 refine ⟨_,rfl, ?_⟩
 replace hP : Hid (Sp w [] w [] [] [] y1) := hide ((unhide hP).ext hxc)
 clear hxc
 obtain ⟨z,hz⟩ : ∃ z,z = idxI x L := ⟨_,rfl⟩
 rw [← hz]
 have hz' := hide hz
 clear hz
 iterate 2
  refine wpO_want rfl ?_
  go_simp
 refine wpO_done ?_
 try go_frame
 go_wp2_with fail
 refine Sp.leaves0 ?_
 exact ⟨_,results_tmp rfl _ _ _,by show Ending.returned (.bool _) = _; rw [unhide hz']; simp only [idxI_nonneg],(unhide hP).extf⟩
end Go.Proofs.YtbpeemhfjgcnaaaGreat
namespace Go.Proofs.YtbpeemhfjgcnaaaGreat
open Go Go.RowKit Go.Shelf
attribute [local go_sem] qUpon lUpon
attribute [local irreducible] wpO wpX wpQL
structure FxM (b1 b2 b3 b4 b5 b6 : Nat) (Av : Option Addr) (nv cv : Nat) (Au : Option Addr) (nu cu : Nat) (ga bva bea gb bvb beb : Nat) (V : List (Int × Thing)) (E : List ((Int × Int) × Thing)) (V' : List (Int × Thing)) (E' : List ((Int × Int) × Thing)) (fd : Nat) (caps : Array Value) (W : World) : Prop where
 c1 : Blk W b1 82 #[.slice Av nv cv]
 c2 : Blk W b2 103 #[.func (.func fd) #[] caps]
 c3 : Blk W b3 82 #[.slice Au nu cu]
 c4 : Blk W b4 24 #[.pointer (some ⟨ga,0,none⟩)]
 c5 : Blk W b5 24 #[.pointer (some ⟨gb,0,none⟩)]
 c6 : Blk W b6 103 #[.func (.func 82) #[] #[.pointer (some ⟨b1,0,none⟩), .pointer (some ⟨b2,0,none⟩), .pointer (some ⟨b3,0,none⟩), .pointer (some ⟨b4,0,none⟩), .pointer (some ⟨b5,0,none⟩), .pointer (some ⟨b6,0,none⟩)]]
 va : SlAt encV 3 W Av V
 vu : SlAt encV 3 W Au V'
 ha : IsG W ga bva bea V E
 hb : IsG W gb bvb beb V' E'
def tfM (b1 b2 b3 b4 b5 b6 : Nat) (Av Au : Option Addr) (ga bva bea gb bvb beb : Nat) : List Nat := [b1,b2,b3,b4,b5,b6,ga,bva,bea,gb,bvb,beb] ++ (blkA Av ++ blkA Au)
theorem FxM.keep {b1 b2 b3 b4 b5 b6 nv cv nu cu ga bva bea gb bvb beb fd : Nat} {Av Au : Option Addr} {V V' : List (Int × Thing)} {E E' : List ((Int × Int) × Thing)} {caps : Array Value} : ∀ S W W',FxM b1 b2 b3 b4 b5 b6 Av nv cv Au nu cu ga bva bea gb bvb beb V E V' E' fd caps W → Keep S W W' → (∀ x ∈ S,x ∉ tfM b1 b2 b3 b4 b5 b6 Av Au ga bva bea gb bvb beb) → FxM b1 b2 b3 b4 b5 b6 Av nv cv Au nu cu ga bva bea gb bvb beb V E V' E' fd caps W' := by
 intro S W W' h hk hS
 have key : ∀ x,x ∈ tfM b1 b2 b3 b4 b5 b6 Av Au ga bva bea gb bvb beb → x ∉ S := fun x h1 h2 => hS x h2 h1
 refine ⟨h.c1.keep hk (key _ (by simp [tfM])),h.c2.keep hk (key _ (by simp [tfM])),h.c3.keep hk (key _ (by simp [tfM])),h.c4.keep hk (key _ (by simp [tfM])),h.c5.keep hk (key _ (by simp [tfM])),h.c6.keep hk (key _ (by simp [tfM])),h.va.keepS hk fun b off e => key b ?_,h.vu.keepS hk fun b off e => key b ?_,h.ha.keep hk (key _ (by simp [tfM])) (key _ (by simp [tfM])) (key _ (by simp [tfM])),h.hb.keep hk (key _ (by simp [tfM])) (key _ (by simp [tfM])) (key _ (by simp [tfM]))⟩ <;> (subst e; simp [tfM,blkA])
def outT (q : Bool) (L : List (List Int)) : List (List Int) := if q = true then L else L.take 1
def ansT (q : Bool) (L : List (List Int)) : Bool := q || L.isEmpty
def mapT (V : List (Int × Thing)) (E : List ((Int × Int) × Thing)) (ids : List Int) (V' : List (Int × Thing)) (E' : List ((Int × Int) × Thing)) (us : List Int) (f : Nat) (xs : List Int) (i : Nat) : List (List Int) := ((us.take i).filter (okM V E ids V' E' xs)).flatMap fun u => extL V E ids V' E' us f (xs ++ [u])
section
variable {V V' : List (Int × Thing)} {E E' : List ((Int × Int) × Thing)} {ids us xs : List Int} {f i n : Nat}
theorem mapT_zero : mapT V E ids V' E' us f xs 0 = [] := rfl
theorem mapT_full (hn : us.length ≤ n) : mapT V E ids V' E' us f xs n = extL V E ids V' E' us (f + 1) xs := by
 unfold mapT
 rw [List.take_of_length_le hn]
 rfl
theorem mapT_no (hi : i < us.length) (h : okM V E ids V' E' xs us[i] = false) : mapT V E ids V' E' us f xs (i + 1) = mapT V E ids V' E' us f xs i := by
 unfold mapT
 rw [List.take_succ_eq_append_getElem hi,List.filter_append,List.filter_cons,List.filter_nil,h]
 simp
theorem mapT_yes (hi : i < us.length) (h : okM V E ids V' E' xs us[i] = true) : mapT V E ids V' E' us f xs (i + 1) = mapT V E ids V' E' us f xs i ++ extL V E ids V' E' us f (xs ++ [us[i]]) := by
 unfold mapT
 rw [List.take_succ_eq_append_getElem hi,List.filter_append,List.filter_cons,List.filter_nil,h]
 simp
theorem mapT_pre (i : Nat) : ∃ R,extL V E ids V' E' us (f + 1) xs = mapT V E ids V' E' us f xs i ++ R := by
 refine ⟨((us.drop i).filter (okM V E ids V' E' xs)).flatMap fun u => extL V E ids V' E' us f (xs ++ [u]), ?_⟩
 show (us.filter _).flatMap _ = _
 unfold mapT
 rw [← List.flatMap_append, ← List.filter_append,List.take_append_drop]
end
theorem run_neqSide {ρ : Operand → Value} {op : Oper} {x y : Operand} {T : TypeId} {w : World} {a b : Option Thing} (ho : op.op = .binOp .neq 138 x y T) (hx : ρ x = sideV a) (hy : ρ y = sideV b) : (execOp ρ op).run Tryz.prog w = .ok (.value (.bool (!decide (a = b)))) w := by
 unfold execOp
 simp only [ho,hx,hy]
 cases a with
 | none => cases b with
  | none => simp [sideV,go_sem]
  | some t => simp [sideV,go_sem]
 | some t => cases b with
  | none => simp [sideV,go_sem]
  | some s =>
   obtain ⟨t1,t2⟩ := t
   obtain ⟨s1,s2⟩ := s
   by_cases h1 : t1 = s1 <;> by_cases h2 : t2 = s2 <;> simp [sideV,go_sem,h1,h2]
end Go.Proofs.YtbpeemhfjgcnaaaGreat
