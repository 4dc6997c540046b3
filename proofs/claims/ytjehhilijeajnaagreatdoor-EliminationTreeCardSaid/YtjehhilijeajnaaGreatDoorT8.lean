/- Parts of a proof, laid together: Cp, Fn, Aj, Sf, R2, R3. Each part says its own conditions. -/
import Derived.Test.YtjehhilijeajnaaGreatDoorT6
import Derived.Test.YtjehhilijeajnaaGreatDoorT3
import Derived.Test.YtjehhilijeajnaaGreatDoorT4
import Derived.Test.YtjehhilijeajnaaGreatDoorT7
/- elimination.Parents$1: the least place of a neighbor. Conditions: see each theorem. -/
namespace Go.Proofs.YtjehhilijeajnaaGreatDoor
open Go Go.RowKit Go.Shelf
attribute [local go_sem] qUpon lUpon

def evI (n : Int) : Value := .int .i64 n
theorem zeroI (w : World) : (zeroValue 3).run Tryz.prog w = .ok (evI 0) w := by kernel_rfl
def plM (M : List (Int × Int)) (x : Int) : Int := (lookM M x).getD 0
def upF (M : List (Int × Int)) (up x : Int) : Int := if up < 0 then plM M x else if plM M x < up then plM M x else up
def upS (M : List (Int × Int)) (s : Nat) : Int := (toL s).foldl (upF M) (-1)

set_option maxRecDepth 100000 in
set_option maxHeartbeats 8000000 in
theorem parFn (k : Nat) (x : Int) (s : Nat) (Ac : Option Addr) (n cc base bl bp bq : Nat) (M : List (Int × Int)) (xs : List Int) (v : Value) (w : World) (h : Acc encI 3 29 1 base bl xs v w) (hp : Blk w bp 92 #[.map (some bq)]) (hm : MapIs ekV evI i64ok w bq M) (hT : Tab w) (hn : xs.length ≤ 10000000) :
    Calls Tryz.prog 41 #[.int .i64 k, .agg (stepC x s), .slice Ac n cc, .pointer (some ⟨bp, 0, none⟩), .pointer (some ⟨bl, 0, none⟩)] w fun e w' => (∃ v, e = .returned v) ∧ ∃ v', Acc encI 3 29 1 base bl (xs ++ [upS M s]) v' w' ∧ Keep (accT bl v) w w' ∧ ∀ y ∈ accT bl v', y ∈ accT bl v ∨ w.heap.size ≤ y := by
  have h' := hide h
  have hp' := hide hp
  have hm' := hide hm
  have hT' := hide hT
  have hn' := hide hn
  clear h hp hm hT hn
  refine callsIn_wide.1 (callsIn_of_wp_marks (n := 0) Tryz.func41 rfl trivial (wpIn_wide.2 ?_))
  simp only [Tryz.ntmps41, List.size_toArray, List.length_cons, List.length_nil, Nat.reduceAdd, Nat.reduceSub, Array.replicate_succ, Array.replicate_zero, List.push_toArray, List.append_toArray, List.nil_append, List.cons_append]
  try dsimp only
  repeat (first | (with_reducible refine wp_reg (id := 0) ?_) | go_values | go_step | go_guarded | go_upon | go_in | go_back | fail)
  refine wpO_want rfl ?_
  go_simp
  refine wpO_done ?_
  try go_frame
  have hB := hide (Blk.new w 58 (stepC x s))
  have hx1 := hide (ext_self1 w (.cells (stepC x s) 58))
  generalize w.alloc (.cells (stepC x s) 58) = w1 at *
  try dsimp only
  repeat (first | (with_reducible refine wp_reg (id := 1) ?_) | go_values | go_step | go_guarded | go_upon | go_in | go_back | fail)
  iterate 2
    refine wpO_want rfl ?_
    go_simp
  refine wpO_done ?_
  try go_frame
  have hBu := hide (Blk.new w1 3 #[.int .i64 (-1)])
  have hx2 := hide ((unhide hx1).trans (ext_self1 w1 (.cells #[.int .i64 (-1)] 3)))
  have hB2 := hide ((unhide hB).ext (ext_self1 w1 (.cells #[.int .i64 (-1)] 3)))
  have hz1 := hide (Below.size (unhide hx1))
  clear hB hx1
  generalize w1.alloc (.cells #[.int .i64 (-1)] 3) = w2 at *
  generalize w1.heap.size = bu at *
  try dsimp only
  repeat (first | (with_reducible refine wp_reg (id := 2) ?_) | go_values | go_step | go_guarded | go_upon | go_in | go_back | fail)
  refine wpO_want rfl ?_
  go_simp
  refine wpO_val rfl (load_SetR (N := s) rfl rfl ((unhide hB2).sub (stepC_set x s))) ?_
  refine wpO_want rfl ?_
  go_simp
  refine (all_any s w2).mono ?_
  rintro e w3 ⟨rfl, rfl⟩
  refine ⟨_, rfl, ?_⟩
  refine wpO_done ?_
  try go_frame
  have hBs := hide (Blk.new w2 56 (setC s))
  have hBu3 := hide ((unhide hBu).ext (ext_self1 w2 (.cells (setC s) 56)))
  have hx3 := hide ((unhide hx2).trans (ext_self1 w2 (.cells (setC s) 56)))
  clear hBu hB2 hx2
  generalize w2.heap.size = bs at *
  generalize w2.alloc (.cells (setC s) 56) = w3 at *
  go_wp2_with fail
  have hT3 := hide ((unhide hT').ext (unhide hx3))
  refine wp_range (gf := 77) (lb := #[.pointer (some ⟨bs, 0, none⟩)]) rfl (enters_of Tryz.func77 (by kernel_rfl) rfl) (ex := [0]) (by have := (unhide hT3).lt; simp; omega)
    (all_iter s bs w3 (unhide hBs) (unhide hT3)) (fun _ => rfl)
    (fun pre W => Blk W bu 3 #[.int .i64 (pre.foldl (upF M) (-1))] ∧ Keep [bu] w3 W) (fun _ _ _ => False)
    (fun tm pre u a1 W => (Blk W bu 3 #[.int .i64 (pre.foldl (upF M) (-1))] ∧ Keep [bu] w3 W) ∧ a1 = ⟨(tm.setIfInBounds 13 (.int .i64 u)).setIfInBounds 9 (.int .i64 u), []⟩)
    (fun pre A1 A2 h hk => ⟨h.1.keep hk (by have := (unhide hBu3).lt; rw [mem_privs]; omega), h.2.of_new hk (fun z hz => by rw [mem_privs] at hz; right; omega)⟩) (fun _ _ _ _ h => h.elim)
    (fun pre u a1 A1 A2 h hk => ⟨⟨h.1.1.keep hk (by have := (unhide hBu3).lt; rw [mem_privs]; omega), h.1.2.of_new hk (fun z hz => by rw [mem_privs] at hz; right; omega)⟩, h.2⟩)
    ⟨unhide hBu3, Keep.refl _ _⟩ ?_ ?_ ?_ (fun _ _ _ h => h.elim)
  · intro pre u W K hI hpre hsz hK
    have hK' := hide hK
    clear hK
    rw [zip1]
    simp only [List.setIfInBounds_toArray, List.set_cons_succ, List.set_cons_zero]
    try dsimp only
    repeat (first | (with_reducible refine wpI_reg (id := 3) (by kernel_rfl) ?_) | go_values | gi_step | gi_guarded | gi_upon | gi_in | gi_back | fail)
    refine wpO_want rfl ?_
    go_simp
    refine wpO_done ?_
    try go_frame
    exact unhide hK' _ _ ⟨hI, rfl⟩ (Same.refl _ _) (Nat.le_refl _)
  · rintro pre u a1 W ⟨⟨hBW, hkW⟩, rfl⟩ hpre hsz _
    simp only [List.setIfInBounds_toArray, List.set_cons_succ, List.set_cons_zero]
    have hu0 : 0 ≤ u ∧ u < 1024 := by
      have hmem : u ∈ toL s := hpre.subset (by simp)
      have := mem_toL'.1 hmem
      exact ⟨this.1, this.2.1⟩
    have hbul := (unhide hBu3).lt
    have hpl := (unhide hp').lt
    have hz1' := unhide hz1
    have hmW := hide (((unhide hm').ext (unhide hx3)).keep hkW (by rw [List.mem_singleton]; have := (unhide hm').lt; omega))
    have hpW := hide (((unhide hp').ext (unhide hx3)).keep hkW (by rw [List.mem_singleton]; omega))
    have hBW' := hide hBW
    have hkW' := hide hkW
    have hTW := hide ((unhide hT3).lt)
    have hsz' := hide hsz
    have hu0' := hide (okK hu0)
    generalize hup : pre.foldl (upF M) (-1) = up at *
    have hnx : (pre ++ [u]).foldl (upF M) (-1) = upF M up u := by rw [List.foldl_append, hup]; rfl
    have hnx' := hide hnx
    have c0 := hBW.cells 0 (v := .int .i64 up) rfl
    have q0 := (unhide hpW).cells 0 (v := .map (some bq)) rfl
    have lk := fun (W' : World) (hW' : Ext W W') => ((unhide hmW).ext hW').lookup1 keV Tryz.underlying92 (zeroI W') (unhide hu0')
    rw [show (lookM M u).getD 0 = plM M u from rfl] at lk
    simp only [ekV, evI] at lk
    have f0 := hBW.frozen 0
    have cc0 := hBW.cell 0
    simp at cc0
    have hself := Ext.refl W
    obtain ⟨pu, hpu⟩ : ∃ pu, pu = plM M u := ⟨_, rfl⟩
    rw [← hpu] at lk
    have hpu' := hide hpu
    clear hBW hkW hbul hpl hz1' hsz hu0 hup hnx hpu hpre
    by_cases hneg : up < 0
    · have hst : upF M up u = pu := by unfold upF; rw [if_pos hneg, unhide hpu']
      have hst' := hide hst
      clear hst
      try dsimp only
      repeat (first | (with_reducible refine wpI_reg (id := 4) (by kernel_rfl) ?_) | go_values | gi_step | gi_guarded | gi_upon | gi_in | gi_back | fail)
      iterate 3
        refine wpO_want rfl ?_
        go_simp
      iterate 5
        refine wpO_out (by rfl) ?_
        go_frame
      iterate 1
        refine wpO_want rfl ?_
        go_simp
      refine wpO_done ?_
      try go_frame
      try dsimp only
      repeat (first | (with_reducible refine wpI_reg (id := 5) (by kernel_rfl) ?_) | go_values | gi_step | gi_guarded | gi_upon | gi_in | gi_back | fail)
      iterate 4
        refine wpO_want rfl ?_
        go_simp
      refine wpO_done ?_
      try go_frame
      gi_wp2_with fail
      have hBn := hide ((unhide hBW').set 0 (.int .i64 pu))
      simp only [List.setIfInBounds_toArray, List.set_cons_zero] at hBn
      have hkn := hide (Keep.setCell W bu 0 (.int .i64 pu))
      refine ⟨(unhide hkn).size, Same.of_keep (unhide hkn) fun z hz => ?_, ?_, (unhide hkW').trans (unhide hkn)⟩
      · rw [List.mem_singleton]
        have h1 := (unhide hBu3).lt
        have h2 := unhide hTW
        have h3 := unhide hz1
        have h4 := (unhide hT').lt
        have h5 := unhide hsz'
        rcases List.mem_append.1 hz with hz | hz
        · rw [mem_privs] at hz; omega
        · rw [List.mem_singleton] at hz; omega
      · rw [unhide hnx', unhide hst']
        exact unhide hBn
    · by_cases hlt : pu < up
      · have hst : upF M up u = pu := by unfold upF; rw [if_neg hneg, ← unhide hpu', if_pos hlt]
        have hst' := hide hst
        clear hst
        try dsimp only
        repeat (first | (with_reducible refine wpI_reg (id := 4) (by kernel_rfl) ?_) | go_values | gi_step | gi_guarded | gi_upon | gi_in | gi_back | fail)
        iterate 9
          refine wpO_want rfl ?_
          go_simp
        refine wpO_done ?_
        try go_frame
        try dsimp only
        repeat (first | (with_reducible refine wpI_reg (id := 5) (by kernel_rfl) ?_) | go_values | gi_step | gi_guarded | gi_upon | gi_in | gi_back | fail)
        iterate 4
          refine wpO_want rfl ?_
          go_simp
        refine wpO_done ?_
        try go_frame
        gi_wp2_with fail
        have hBn := hide ((unhide hBW').set 0 (.int .i64 pu))
        simp only [List.setIfInBounds_toArray, List.set_cons_zero] at hBn
        have hkn := hide (Keep.setCell W bu 0 (.int .i64 pu))
        refine ⟨(unhide hkn).size, Same.of_keep (unhide hkn) fun z hz => ?_, ?_, (unhide hkW').trans (unhide hkn)⟩
        · rw [List.mem_singleton]
          have h1 := (unhide hBu3).lt
          have h2 := unhide hTW
          have h3 := unhide hz1
          have h4 := (unhide hT').lt
          have h5 := unhide hsz'
          rcases List.mem_append.1 hz with hz | hz
          · rw [mem_privs] at hz; omega
          · rw [List.mem_singleton] at hz; omega
        · rw [unhide hnx', unhide hst']
          exact unhide hBn
      · have hst : upF M up u = up := by unfold upF; rw [if_neg hneg, ← unhide hpu', if_neg hlt]
        have hst' := hide hst
        clear hst
        try dsimp only
        repeat (first | (with_reducible refine wpI_reg (id := 4) (by kernel_rfl) ?_) | go_values | gi_step | gi_guarded | gi_upon | gi_in | gi_back | fail)
        iterate 9
          refine wpO_want rfl ?_
          go_simp
        refine wpO_done ?_
        try go_frame
        gi_wp2_with fail
        refine ⟨Nat.le_refl _, Same.refl _ _, ?_, unhide hkW'⟩
        rw [unhide hnx', unhide hst']
        exact unhide hBW'
  · intro W hI hD
    obtain ⟨hBW, hkW⟩ := hI
    have hx3' := unhide hx3
    have hz1' := unhide hz1
    have hbl := (unhide h').below
    have hAW := hide (((unhide h').ext hx3').keep hkW (fun x hx hm => by rw [List.mem_singleton] at hx; have := hbl _ hm; omega))
    have c0 := (unhide hAW).cell.cells 0 (v := v) rfl
    have cu := hBW.cells 0 (v := .int .i64 (upS M s)) rfl
    have hzW := hide (Nat.le_trans (Below.size hx3') hkW.size)
    have hkW' := hide hkW
    have hD' := hide hD
    have hself := Ext.refl W
    clear hBW hkW hx3' hz1' hbl hD
    try dsimp only
    repeat (first | (with_reducible refine wp_reg (id := 6) ?_) | go_values | go_step | go_guarded | go_upon | go_in | go_back | fail)
    iterate 3
      refine wpO_want rfl ?_
      go_simp
    obtain ⟨up, hup⟩ : ∃ up, up = upS M s := ⟨_, rfl⟩
    rw [← hup] at cu ⊢
    have hB2 : Blk (W.alloc (.cells #[.int .i64 up] 3)) W.heap.size 3 (encI up).toArray := Blk.new W 3 #[.int .i64 up]
    have hx2 := ext_self1 W (.cells #[.int .i64 up] 3)
    refine wpO_ap1 rfl infoI Tryz.underlying29 one_encI (fun _ => rfl) (by decide) (by decide) rfl (v := v) up rfl rfl hB2 (own_ext (unhide hAW).own hx2) (unhide hn') (Nat.le_trans (unhide hAW).le (Below.size hx2)) ?_
    intro A6 c6 w6 hown6 hg6 hat6
    obtain ⟨n1, hlen⟩ : ∃ n1, n1 = xs.length + 1 := ⟨_, rfl⟩
    rw [← hlen] at hown6 hat6 ⊢
    obtain ⟨p1, p2, p3, p4, p5⟩ := (unhide hAW).push hx2 hown6 (by rw [hlen]; simp) hg6 hat6
    have p1' := hide p1
    have p2' := hide p2
    have p3' := hide p3
    have hup' := hide hup
    clear p1 p2 p3 hown6 hg6 hat6 hB2 hx2 hlen hup cu
    try go_frame
    refine wpO_want rfl ?_
    go_simp
    refine wpO_done ?_
    try go_frame
    go_wp2_with fail
    have hlD : w3.heap.size < W.heap.size := (Array.getElem?_eq_some_iff.1 (unhide hD')).1
    have hw3 := Below.size (unhide hx3)
    have hbl := (unhide h').below
    refine leaves_marks (B := w.heap.size) _ _ (.cons hw3 (((unhide p2').block _ hlD (fun hm => by have := hbl _ hm; omega)).trans (unhide hD')) (by simp) (.nil _)) ?_
    rintro w' ⟨S, hS, hkS⟩
    have hS' : ∀ x ∈ S, x = w3.heap.size := fun x hx => by
      obtain ⟨d, hd, e⟩ := hS x hx
      rw [List.mem_singleton] at hd
      subst hd
      injection e with e
      exact e.symm
    rw [unhide hup'] at p1'
    refine ⟨_, results_none rfl _ _ _, ⟨_, rfl⟩, _, (unhide p1').keep hkS (fun x hx hm => ?_), ((((unhide hx3).keep (accT bl v)).of_new (unhide hkW') (fun x hx => by rw [List.mem_singleton] at hx; rw [hx]; exact .inr (unhide hz1))).trans (unhide p2')).of_new hkS (fun x hx => by have := hS' x hx; right; omega), fun y hy => ?_⟩
    · have h1 := hS' x hx
      rcases unhide p3' x hm with h | h
      · have := hbl x h; omega
      · omega
    · rcases unhide p3' y hy with h | h
      · exact .inl h
      · right; have := unhide hzW; omega
end Go.Proofs.YtjehhilijeajnaaGreatDoor
/- SETS OUT OF LISTS OF NUMBERS, AND OF A GRAPH: plain laws. No program in sight. Conditions: see each theorem. -/
namespace Go.Proofs.YtjehhilijeajnaaGreatDoor
open Go Go.RowKit

/-- the numbers that Neighbors adds -/
def nearL (id : Int) (E : List ((Int × Int) × Thing)) : List Int := E.flatMap fun e => if id = e.1.1 then [e.1.2] else if id = e.1.2 then [e.1.1] else []
theorem nearS_fold (id : Int) (E : List ((Int × Int) × Thing)) : ∀ a, E.foldl (nearF id) a = (nearL id E).foldl withS a := by
  induction E with
  | nil => intro a; rfl
  | cons e r ih =>
    intro a
    have h : nearL id (e :: r) = (if id = e.1.1 then [e.1.2] else if id = e.1.2 then [e.1.1] else []) ++ nearL id r := by unfold nearL; rw [List.flatMap_cons]
    rw [List.foldl_cons, ih, h, List.foldl_append]
    congr 1
    unfold nearF
    split
    · rfl
    · split <;> rfl
theorem nearS_eq (id : Int) (E : List ((Int × Int) × Thing)) : nearS id E = fromS (nearL id E) := nearS_fold id E 0
theorem mem_nearL {id x : Int} {E : List ((Int × Int) × Thing)} (hlo : ∀ e ∈ E, e.1.1 < e.1.2) : x ∈ nearL id E ↔ ∃ e ∈ E, e.1 = (min id x, max id x) := by
  unfold nearL
  rw [List.mem_flatMap]
  constructor
  · rintro ⟨e, he, h⟩
    have := hlo e he
    refine ⟨e, he, ?_⟩
    split at h
    · simp at h; apply Prod.ext <;> simp <;> omega
    · split at h
      · simp at h; apply Prod.ext <;> simp <;> omega
      · simp at h
  · rintro ⟨e, he, h⟩
    have hl := hlo e he
    rw [h] at hl
    simp at hl
    refine ⟨e, he, ?_⟩
    rw [h]
    simp
    by_cases h1 : id = min id x
    · rw [if_pos h1]; simp; omega
    · rw [if_neg h1, if_pos (by omega)]; simp; omega
/-- what ref.Near lists: the neighbours -/
def rnear (id : Int) (V : List (Int × Thing)) (E : List ((Int × Int) × Thing)) : List Int := (V.filter fun p => decide (0 ≤ posI (isE p.1 id) E)).map (·.1)
theorem rnear_eq {id : Int} {V : List (Int × Thing)} {E : List ((Int × Int) × Thing)} (hi : GInv V E) : fromS (rnear id V E) = nearS id E := by
  rw [nearS_eq]
  apply fromS_congr
  intro x
  rw [mem_nearL hi.lo]
  unfold rnear
  rw [List.mem_map]
  constructor
  · rintro ⟨p, hp, rfl⟩
    rw [List.mem_filter, decide_eq_true_eq, posI_nonneg] at hp
    obtain ⟨_, e, he, h⟩ := hp
    rw [isE_iff (hi.lo e he)] at h
    exact ⟨e, he, by rw [h]; apply Prod.ext <;> simp <;> omega⟩
  · rintro ⟨e, he, h⟩
    have hv : ∃ t, (x, t) ∈ V := by
      have h2 := hi.ends e he
      have hl := hi.lo e he
      rw [h] at h2 hl
      simp at hl
      by_cases hx : x = min id x
      · rw [← hx] at h2; exact h2.1
      · have : x = max id x := by omega
        rw [← this] at h2; exact h2.2
    obtain ⟨t, ht⟩ := hv
    refine ⟨(x, t), ?_, rfl⟩
    rw [List.mem_filter, decide_eq_true_eq, posI_nonneg]
    exact ⟨ht, e, he, by rw [isE_iff (hi.lo e he), h]; apply Prod.ext <;> simp <;> omega⟩
/-- the places of the edge of two vertices: one law for graph.Edge and ref.Edge -/
theorem posI_congr {α : Type} {p q : α → Bool} : ∀ {l : List α}, (∀ x ∈ l, p x = q x) → posI p l = posI q l := by
  intro l h
  unfold posI
  have : l.findIdx? p = l.findIdx? q := by
    induction l with
    | nil => rfl
    | cons x r ih =>
      rw [List.findIdx?_cons, List.findIdx?_cons, h x (by simp), ih (fun y hy => h y (by simp [hy]))]
  rw [this]
theorem posI_cases {α : Type} (p : α → Bool) (l : List α) : posI p l = -1 ∧ (∀ x ∈ l, p x = false) ∨ ∃ i, ∃ h : i < l.length, posI p l = (i : Int) ∧ p l[i] = true := by
  unfold posI
  cases hf : l.findIdx? p with
  | none => exact .inl ⟨rfl, by simpa [List.findIdx?_eq_none_iff] using hf⟩
  | some i =>
    obtain ⟨h, hp, _⟩ := List.findIdx?_eq_some_iff_getElem.1 hf
    exact .inr ⟨i, h, rfl, hp⟩
theorem find_look {u : Int} {V : List (Int × Thing)} (hs : V.Pairwise ltV) : (lookM V u).isSome = false ∧ posI (fun p : Int × Thing => p.1 == u) V = -1 ∨ ∃ i, ∃ h : i < V.length, (lookM V u).isSome = true ∧ posI (fun p : Int × Thing => p.1 == u) V = (i : Int) ∧ V[i] = (u, (lookM V u).getD (0, 0)) := by
  rcases posI_cases (fun p : Int × Thing => p.1 == u) V with ⟨h1, h2⟩ | ⟨i, hi, h1, h2⟩
  · refine .inl ⟨?_, h1⟩
    rw [Bool.eq_false_iff]
    intro h
    obtain ⟨p, hp, h3⟩ := lookM_isSome.1 h
    have := h2 p hp
    simp [h3] at this
  · refine .inr ⟨i, hi, ?_, h1, ?_⟩
    · exact lookM_isSome.2 ⟨V[i], List.getElem_mem hi, by simpa using h2⟩
    · have h3 : V[i].1 = u := by simpa using h2
      have h4 : lookM V u = some V[i].2 := (lookM_some (sv_nodup hs)).2 (by rw [← h3]; exact List.getElem_mem hi)
      rw [h4, ← h3]
      rfl
end Go.Proofs.YtjehhilijeajnaaGreatDoor
/- ELIMINATION, plain: the graph filled step by step; what walk computes in its terms. No program in sight. Conditions: see each theorem. -/
namespace Go.Proofs.YtjehhilijeajnaaGreatDoor
open Go Go.RowKit

/-- a list without duplicates within another one that is no longer -/
theorem nodup_of_sub : ∀ (l m : List Int), l.Nodup → (∀ x ∈ l, x ∈ m) → m.length ≤ l.length → m.Nodup ∧ ∀ x ∈ m, x ∈ l
  | [], m, _, _, h => by
    have : m = [] := List.eq_nil_of_length_eq_zero (by simpa using h)
    subst this
    exact ⟨.nil, by simp⟩
  | a :: r, m, hn, hs, hl => by
    have ha : a ∈ m := hs a (by simp)
    have hp := List.perm_cons_erase ha
    obtain ⟨hna, hnr⟩ := List.nodup_cons.1 hn
    have hlen := hp.length_eq
    simp only [List.length_cons] at hlen hl
    obtain ⟨h1, h2⟩ := nodup_of_sub r (m.erase a) hnr (fun x hx => (List.mem_erase_of_ne (fun e => hna (by rw [← e]; exact hx))).2 (hs x (by simp [hx]))) (by omega)
    refine ⟨hp.nodup_iff.2 (List.nodup_cons.2 ⟨fun h => hna (h2 a h), h1⟩), fun x hx => ?_⟩
    rcases List.mem_cons.1 (hp.mem_iff.1 hx) with rfl | h
    · simp
    · exact List.mem_cons_of_mem _ (h2 x h)

/-- AN ORDER: each vertex once -/
structure Ord (V : List (Int × Thing)) (L : List Int) : Prop where
  nodup : L.Nodup
  mem : ∀ x, x ∈ L ↔ x ∈ V.map (·.1)
theorem check_ord {L : List Int} {V : List (Int × Thing)} {E : List ((Int × Int) × Thing)} (hi : GInv V E) (h : checkS L V = 0) : Ord V L := by
  have hm := checkS_mem hi h
  have hl : L.length = V.length := by
    unfold checkS at h
    split at h
    · rename_i h2; exact h2.1
    · cases h
  obtain ⟨h1, h2⟩ := nodup_of_sub (V.map (·.1)) L (sv_nodup hi.sv) hm (by simp [hl])
  exact ⟨h1, fun x => ⟨h2 x, hm x⟩⟩
theorem ord_check {L : List Int} {V : List (Int × Thing)} (h : Ord V L) (hl : L.length = V.length) : checkS L V = 0 := by
  unfold checkS
  have he : eqS (fromS L) (vS V) = true := by
    rw [eqS_iff]
    intro k hk
    rw [vS_eq, fromS_bit, fromS_bit]
    congr 1
    rw [decide_eq_decide]
    exact h.mem _
  rw [if_pos ⟨hl, he⟩]
theorem Ord.rng {V : List (Int × Thing)} {E : List ((Int × Int) × Thing)} {L : List Int} (h : Ord V L) (hi : GInv V E) {x : Int} (hx : x ∈ L) : 0 ≤ x ∧ x < 1024 := by
  obtain ⟨p, hp, rfl⟩ := List.mem_map.1 ((h.mem x).1 hx)
  have hid := hi.ids p hp
  simpa [idB] using hid
theorem Ord.len {V : List (Int × Thing)} {E : List ((Int × Int) × Thing)} {L : List Int} (h : Ord V L) (hi : GInv V E) : L.length = V.length := by
  have h1 : L.Perm (V.map (·.1)) := (List.perm_ext_iff_of_nodup h.nodup (sv_nodup hi.sv)).2 h.mem
  simpa using h1.length_eq

/-- two vertices are joined by an edge -/
def Adj0 (E : List ((Int × Int) × Thing)) (u v : Int) : Prop := ∃ e ∈ E, e.1 = (min u v, max u v)
/-- .. or by what the first k steps have added -/
def Adj (E : List ((Int × Int) × Thing)) (L : List Int) : Nat → Int → Int → Prop
  | 0, u, v => Adj0 E u v
  | k + 1, u, v => Adj E L k u v ∨ (u ≠ v ∧ u ∈ L.drop (k + 1) ∧ v ∈ L.drop (k + 1) ∧ Adj E L k (L[k]?.getD 0) u ∧ Adj E L k (L[k]?.getD 0) v)
section
variable {V : List (Int × Thing)} {E : List ((Int × Int) × Thing)} {L : List Int}
theorem Adj.symm : ∀ {k : Nat} {u v : Int}, Adj E L k u v → Adj E L k v u
  | 0, u, v, ⟨e, he, h⟩ => ⟨e, he, by rw [h]; simp only [Prod.mk.injEq]; omega⟩
  | k + 1, u, v, h => h.imp (Adj.symm) fun ⟨h1, h2, h3, h4, h5⟩ => ⟨h1.symm, h3, h2, h5, h4⟩
theorem Adj.ne (hi : GInv V E) : ∀ {k : Nat} {u v : Int}, Adj E L k u v → u ≠ v
  | 0, u, v, ⟨e, he, h⟩ => by
    have := hi.lo e he
    rw [h] at this
    simp at this
    omega
  | k + 1, u, v, h => by
    rcases h with h | h
    · exact Adj.ne hi h
    · exact h.1
theorem Adj.mem (hi : GInv V E) (ho : Ord V L) : ∀ {k : Nat} {u v : Int}, Adj E L k u v → u ∈ L ∧ v ∈ L
  | 0, u, v, ⟨e, he, h⟩ => by
    obtain ⟨⟨t1, h1⟩, t2, h2⟩ := hi.ends e he
    rw [h] at h1 h2
    have h3 := (ho.mem _).2 (List.mem_map_of_mem (f := (·.1)) h1)
    have h4 := (ho.mem _).2 (List.mem_map_of_mem (f := (·.1)) h2)
    simp only at h3 h4
    rcases Int.le_total u v with h5 | h5
    · rw [show min u v = u by omega] at h3
      rw [show max u v = v by omega] at h4
      exact ⟨h3, h4⟩
    · rw [show min u v = v by omega] at h3
      rw [show max u v = u by omega] at h4
      exact ⟨h4, h3⟩
  | k + 1, u, v, h => by
    rcases h with h | ⟨_, h1, h2, _⟩
    · exact Adj.mem hi ho h
    · exact ⟨List.mem_of_mem_drop h1, List.mem_of_mem_drop h2⟩
theorem Adj.mono {k m : Nat} {u v : Int} (h : Adj E L k u v) (hkm : k ≤ m) : Adj E L m u v := by
  induction m with
  | zero => rw [Nat.le_zero.1 hkm] at h; exact h
  | succ m ih =>
    by_cases e : k = m + 1
    · rw [← e]; exact h
    · exact .inl (ih (by omega))
/-- what later steps add does not touch what was eliminated before -/
theorem Adj.back (hn : L.Nodup) {k m : Nat} {v : Int} (hkm : k ≤ m) (hk : k < L.length) (h : Adj E L m L[k] v) : Adj E L k L[k] v := by
  induction m with
  | zero =>
    obtain rfl : k = 0 := Nat.le_zero.1 hkm
    exact h
  | succ m ih =>
    by_cases e : k = m + 1
    · subst e; exact h
    · rcases h with h | ⟨_, h1, _⟩
      · exact ih (by omega) h
      · exfalso
        obtain ⟨i, hi, he⟩ := List.getElem_of_mem h1
        rw [List.getElem_drop] at he
        have := (List.getElem_inj hn).1 he
        omega

theorem drop_get {k : Nat} (hk : k < L.length) : L.drop k = L[k] :: L.drop (k + 1) := List.drop_eq_getElem_cons hk
theorem not_drop (hn : L.Nodup) {k : Nat} (hk : k < L.length) : L[k] ∉ L.drop (k + 1) := by
  have h := (List.drop_sublist k L).nodup hn
  rw [drop_get hk] at h
  exact (List.nodup_cons.1 h).1
theorem mem_drop_iff (hn : L.Nodup) {k : Nat} (hk : k < L.length) {x : Int} : x ∈ L.drop (k + 1) ↔ x ∈ L.drop k ∧ x ≠ L[k] := by
  rw [drop_get hk, List.mem_cons]
  constructor
  · intro h
    exact ⟨.inr h, fun e => not_drop hn hk (by rw [← e]; exact h)⟩
  · rintro ⟨h | h, h2⟩
    · exact absurd h h2
    · exact h

theorem lookM_map (u x : Int) (v : Nat) : ∀ M : List (Int × Nat), lookM (M.map fun p => if p.1 = u then (u, v) else p) x = if x = u ∧ (lookM M u).isSome = true then some v else lookM M x
  | [] => by simp [lookM]
  | p :: r => by
    have ih := lookM_map u x v r
    unfold lookM at ih ⊢
    rw [List.map_cons, List.find?_cons, List.find?_cons, List.find?_cons]
    by_cases h1 : p.1 = u
    · by_cases h2 : x = u
      · subst h2; simp [h1]
      · have h3 : ¬ u = x := fun e => h2 e.symm
        rw [if_pos h1, decide_eq_false h3, decide_eq_false (show ¬ p.1 = x from fun e => h3 (h1.symm.trans e)), ih, if_neg (fun h => h2 h.1), if_neg (fun h => h2 h.1)]
    · rw [if_neg h1, decide_eq_false h1]
      by_cases h2 : p.1 = x
      · have h3 : ¬ x = u := fun e => h1 (h2.trans e)
        rw [decide_eq_true h2, if_neg (fun h => h3 h.1)]
      · rw [decide_eq_false h2, ih]
theorem lookM_putM (M : List (Int × Nat)) (u x : Int) (v : Nat) : lookM (putM M u v) x = if x = u then some v else lookM M x := by
  unfold putM
  split
  · rename_i h
    rw [lookM_map]
    by_cases h2 : x = u
    · rw [if_pos ⟨h2, h⟩, if_pos h2]
    · rw [if_neg (fun h => h2 h.1), if_neg h2]
  · rename_i h
    have h0 : lookM M u = none := by simpa using h
    unfold lookM at h0 ⊢
    rw [List.find?_append]
    by_cases h2 : x = u
    · subst h2
      have h1 : M.find? (fun p => decide (p.1 = x)) = none := by simpa using h0
      rw [h1, if_pos rfl]
      simp
    · rw [if_neg h2]
      have h3 : ¬ u = x := fun e => h2 e.symm
      simp [h3]
theorem lookM_putM_same (M : List (Int × Nat)) (u : Int) (v : Nat) : lookM (putM M u v) u = some v := by
  rw [lookM_putM, if_pos rfl]
theorem nr_put (M : List (Int × Nat)) (u x : Int) (v : Nat) : nrM (putM M u v) x = if x = u then v else nrM M x := by
  unfold nrM
  rw [lookM_putM]
  split <;> rfl
theorem m0_nr : ∀ {x : Int}, x ∈ L → nrM (m0 E L) x = nearS x E := by
  have key : ∀ (l : List Int) (M : List (Int × Nat)) (x : Int), nrM (l.foldl (fun M id => putM M id (nearS id E)) M) x = if x ∈ l then nearS x E else nrM M x := by
    intro l
    induction l with
    | nil => intro M x; simp
    | cons a r ih =>
      intro M x
      rw [List.foldl_cons, ih, nr_put]
      by_cases h1 : x ∈ r
      · rw [if_pos h1, if_pos (by simp [h1])]
      · by_cases h2 : x = a
        · subst h2; rw [if_neg h1, if_pos rfl, if_pos (by simp)]
        · rw [if_neg h1, if_neg h2, if_neg (by simp [h1, h2])]
  intro x hx
  unfold m0
  rw [key, if_pos hx]
theorem withoutS_bit (N : Nat) (x : Int) (k : Nat) : (withoutS N x).testBit k = (N.testBit k && !(decide (k < 1024) && decide (x = (k : Int)))) := by
  unfold withoutS fitB
  by_cases h : 0 ≤ x ∧ x < 1024
  · rw [if_pos (by simp [h.1, h.2]), minusS_bit, Nat.testBit_two_pow]
    congr 2
    rw [Bool.eq_iff_iff]
    simp only [Bool.and_eq_true, decide_eq_true_eq]
    omega
  · rw [if_neg (by simp; omega)]
    have : (decide (k < 1024) && decide (x = (k : Int))) = false := by
      rw [Bool.eq_false_iff]
      simp only [ne_eq, Bool.and_eq_true, decide_eq_true_eq]
      omega
    rw [this, Bool.not_false, Bool.and_true]
theorem upd_nr (s : Nat) (id : Int) : ∀ (l : List Int) (M : List (Int × Nat)) (x : Int), l.Nodup → nrM (l.foldl (updF s id) M) x = if x ∈ l then withoutS (withoutS (nrM M x ||| s) x) id else nrM M x
  | [], M, x, _ => by simp
  | a :: r, M, x, hn => by
    obtain ⟨h0, h1⟩ := List.nodup_cons.1 hn
    have hp : nrM (updF s id M a) x = if x = a then withoutS (withoutS (nrM M a ||| s) a) id else nrM M x := by
      unfold updF
      rw [nr_put]
    rw [List.foldl_cons, upd_nr s id r _ x h1, hp]
    by_cases h2 : x ∈ r
    · have : x ≠ a := fun e => h0 (by rw [← e]; exact h2)
      rw [if_pos h2, if_neg this, if_pos (List.mem_cons_of_mem _ h2)]
    · by_cases h3 : x = a
      · subst h3; rw [if_neg h2, if_pos rfl, if_pos List.mem_cons_self]
      · rw [if_neg h2, if_neg h3, if_neg (by simp [h2, h3])]

/-- THE INVARIANT OF walk: before step k, what is kept for a vertex that is left are its neighbors that are left -/
theorem mAt_bit (hi : GInv V E) (ho : Ord V L) : ∀ (k : Nat), k ≤ L.length → ∀ u ∈ L.drop k, ∀ v : Nat, v < 1024 → ((nrM (mAt E L k) u).testBit v = true ↔ (v : Int) ∈ L.drop k ∧ Adj E L k u v)
  | 0, _, u, hu, v, hv => by
    rw [List.drop_zero] at hu ⊢
    have h1 : nrM (mAt E L 0) u = nearS u E := by
      unfold mAt
      rw [List.take_zero, List.foldl_nil]
      exact m0_nr hu
    rw [h1, nearS_eq, fromS_bit]
    simp only [Bool.and_eq_true, decide_eq_true_eq, hv, true_and]
    rw [mem_nearL hi.lo]
    constructor
    · intro h; exact ⟨(Adj.mem (L := L) (k := 0) hi ho h).2, h⟩
    · intro h; exact h.2
  | k + 1, hk, u, hu, v, hv => by
    have hkl : k < L.length := by omega
    have ih := mAt_bit hi ho k (by omega)
    obtain ⟨hud, hux⟩ := (mem_drop_iff ho.nodup hkl).1 hu
    have hxk : L[k] ∈ L.drop k := by rw [drop_get hkl]; exact List.mem_cons_self
    have hs : ∀ y : Nat, y < 1024 → ((sAt E L k).testBit y = true ↔ (y : Int) ∈ L.drop k ∧ Adj E L k L[k] y) := fun y hy => by
      rw [sAt_eq E L k hkl]
      exact ih L[k] hxk y hy
    have hxr := ho.rng hi (List.getElem_mem hkl)
    have hur := ho.rng hi (List.mem_of_mem_drop hu)
    rw [mAt_next E L k hkl]
    unfold stM updM
    rw [← sAt_eq E L k hkl]
    rw [upd_nr _ _ _ _ _ (toL_nodup _)]
    have hgk : L[k]?.getD 0 = L[k] := by simp [hkl]
    have hmu : u ∈ toL (sAt E L k) ↔ Adj E L k L[k] u := by
      rw [mem_toL', hs u.toNat (by omega)]
      rw [show ((u.toNat : Nat) : Int) = u by omega]
      constructor
      · intro h; exact h.2.2.2
      · intro h; exact ⟨hur.1, hur.2, hud, h⟩
    rw [mem_drop_iff ho.nodup hkl]
    have hg : Adj E L (k + 1) u v ↔ Adj E L k u v ∨ (u ≠ v ∧ u ∈ L.drop (k + 1) ∧ (v : Int) ∈ L.drop (k + 1) ∧ Adj E L k L[k] u ∧ Adj E L k L[k] v) := by
      show (_ ∨ _) ↔ _
      rw [hgk]
    rw [hg]
    have h1 := ih u hud v hv
    have h2 := hs v hv
    by_cases hm : u ∈ toL (sAt E L k)
    · have hxu := hmu.1 hm
      rw [if_pos hm, withoutS_bit, withoutS_bit, Nat.testBit_or]
      simp only [Bool.and_eq_true, Bool.or_eq_true, Bool.not_eq_true', Bool.and_eq_false_iff, decide_eq_false_iff_not, h1, h2, hv, not_true_eq_false, false_or]
      constructor
      · rintro ⟨⟨h | h, h3⟩, h4⟩
        · exact ⟨⟨h.1, fun e => h4 e.symm⟩, .inl h.2⟩
        · exact ⟨⟨h.1, fun e => h4 e.symm⟩, .inr ⟨h3, hu, (mem_drop_iff ho.nodup hkl).2 ⟨h.1, fun e => h4 e.symm⟩, hxu, h.2⟩⟩
      · rintro ⟨⟨h3, h4⟩, h | ⟨h5, h6, h7, h8, h9⟩⟩
        · exact ⟨⟨.inl ⟨h3, h⟩, Adj.ne hi h⟩, fun e => h4 e.symm⟩
        · exact ⟨⟨.inr ⟨h3, h9⟩, h5⟩, fun e => h4 e.symm⟩
    · rw [if_neg hm, h1]
      have hxu : ¬ Adj E L k L[k] u := fun h => hm (hmu.2 h)
      constructor
      · rintro ⟨h3, h4⟩
        refine ⟨⟨h3, fun e => ?_⟩, .inl h4⟩
        rw [e] at h4
        exact hxu h4.symm
      · rintro ⟨⟨h3, h4⟩, h | h⟩
        · exact ⟨h3, h⟩
        · exact absurd h.2.2.2.1 hxu
theorem sAt_bit (hi : GInv V E) (ho : Ord V L) {k : Nat} (hk : k < L.length) (v : Nat) (hv : v < 1024) : (sAt E L k).testBit v = true ↔ (v : Int) ∈ L.drop (k + 1) ∧ Adj E L k L[k] v := by
  rw [sAt_eq E L k hk, mAt_bit hi ho k (by omega) L[k] (by rw [drop_get hk]; exact List.mem_cons_self) v hv, mem_drop_iff ho.nodup hk]
  constructor
  · rintro ⟨h1, h2⟩; exact ⟨⟨h1, fun e => Adj.ne hi h2 e.symm⟩, h2⟩
  · rintro ⟨h1, h2⟩; exact ⟨h1.1, h2⟩
theorem mem_sAt (hi : GInv V E) (ho : Ord V L) {k : Nat} (hk : k < L.length) {v : Int} : v ∈ toL (sAt E L k) ↔ v ∈ L.drop (k + 1) ∧ Adj E L k L[k] v := by
  rw [mem_toL']
  constructor
  · rintro ⟨h1, h2, h3⟩
    have := (sAt_bit hi ho hk v.toNat (by omega)).1 h3
    rwa [show ((v.toNat : Nat) : Int) = v by omega] at this
  · intro h
    have hr := ho.rng hi (List.mem_of_mem_drop h.1)
    refine ⟨hr.1, hr.2, (sAt_bit hi ho hk v.toNat (by omega)).2 ?_⟩
    rwa [show ((v.toNat : Nat) : Int) = v by omega]
/-- what step k adds -/
theorem mem_cAt (hi : GInv V E) (ho : Ord V L) {k : Nat} (hk : k < L.length) {p : Int × Int} : p ∈ cAt E L k ↔ p.1 < p.2 ∧ Adj E L (k + 1) p.1 p.2 ∧ ¬ Adj E L k p.1 p.2 := by
  obtain ⟨u, v⟩ := p
  have hg : Adj E L (k + 1) u v ↔ Adj E L k u v ∨ (u ≠ v ∧ u ∈ L.drop (k + 1) ∧ v ∈ L.drop (k + 1) ∧ Adj E L k L[k] u ∧ Adj E L k L[k] v) := by
    show (_ ∨ _) ↔ _
    rw [show L[k]?.getD 0 = L[k] by simp [hk]]
  unfold cAt comeS
  rw [List.mem_flatMap]
  simp only [hg]
  constructor
  · rintro ⟨u', hu', h⟩
    unfold comeU at h
    obtain ⟨v', hv', he⟩ := List.mem_map.1 h
    simp only [Prod.mk.injEq] at he
    obtain ⟨rfl, rfl⟩ := he
    obtain ⟨h1, h2, h3⟩ := mem_toL'.1 hv'
    rw [minusS_bit, minusS_bit] at h3
    simp only [Bool.and_eq_true, Bool.not_eq_true'] at h3
    obtain ⟨⟨h3, h4⟩, h5⟩ := h3
    obtain ⟨hu1, hu2⟩ := (mem_sAt hi ho hk).1 hu'
    have hv2 := (sAt_bit hi ho hk v'.toNat (by omega)).1 h3
    rw [show ((v'.toNat : Nat) : Int) = v' by omega] at hv2
    have hur := ho.rng hi (List.mem_of_mem_drop hu1)
    have hlt : u' < v' := by
      unfold belS at h4
      rw [Nat.testBit_two_pow_sub_one] at h4
      simp at h4
      omega
    have hnb : ¬ Adj E L k u' v' := fun h => by
      have := (mAt_bit hi ho k (by omega) u' ((mem_drop_iff ho.nodup hk).1 hu1).1 v'.toNat (by omega)).2 ?_
      · rw [this] at h5; cases h5
      · rw [show ((v'.toNat : Nat) : Int) = v' by omega]
        exact ⟨((mem_drop_iff ho.nodup hk).1 hv2.1).1, h⟩
    exact ⟨hlt, .inr ⟨by omega, hu1, hv2.1, hu2, hv2.2⟩, hnb⟩
  · rintro ⟨h1, h2, h3⟩
    rcases h2 with h2 | ⟨_, h4, h5, h6, h7⟩
    · exact absurd h2 h3
    · refine ⟨u, (mem_sAt hi ho hk).2 ⟨h4, h6⟩, ?_⟩
      unfold comeU
      refine List.mem_map.2 ⟨v, ?_, rfl⟩
      have hvr := ho.rng hi (List.mem_of_mem_drop h5)
      have hur := ho.rng hi (List.mem_of_mem_drop h4)
      refine mem_toL'.2 ⟨hvr.1, hvr.2, ?_⟩
      rw [minusS_bit, minusS_bit]
      simp only [Bool.and_eq_true, Bool.not_eq_true']
      refine ⟨⟨(sAt_bit hi ho hk v.toNat (by omega)).2 ?_, ?_⟩, ?_⟩
      · rw [show ((v.toNat : Nat) : Int) = v by omega]; exact ⟨h5, h7⟩
      · unfold belS
        rw [Nat.testBit_two_pow_sub_one]
        simp
        omega
      · rw [Bool.eq_false_iff]
        intro h
        have := (mAt_bit hi ho k (by omega) u ((mem_drop_iff ho.nodup hk).1 h4).1 v.toNat (by omega)).1 h
        rw [show ((v.toNat : Nat) : Int) = v by omega] at this
        exact h3 this.2
theorem nodup_flat {α β : Type} {f : α → List β} (g : β → α) (hg : ∀ a, ∀ b ∈ f a, g b = a) (hf : ∀ a, (f a).Nodup) : ∀ {l : List α}, l.Nodup → (l.flatMap f).Nodup
  | [], _ => by simp
  | a :: r, h => by
    obtain ⟨h0, h1⟩ := List.nodup_cons.1 h
    rw [List.flatMap_cons, List.nodup_append]
    refine ⟨hf a, nodup_flat g hg hf h1, fun x hx y hy e => ?_⟩
    subst e
    obtain ⟨b, hb, h2⟩ := List.mem_flatMap.1 hy
    rw [← hg a x hx, hg b x h2] at h0
    exact h0 hb
theorem cAt_nodup (k : Nat) : (cAt E L k).Nodup := by
  unfold cAt comeS
  refine nodup_flat (·.1) (fun a b hb => ?_) (fun a => ?_) (toL_nodup _)
  · unfold comeU at hb
    obtain ⟨v, _, rfl⟩ := List.mem_map.1 hb
    rfl
  · unfold comeU
    exact List.pairwise_map.2 ((toL_nodup _).imp fun {x y} h e => h (by simpa using e))
/-- what all steps before k have added -/
def comeK (E : List ((Int × Int) × Thing)) (L : List Int) (k : Nat) : List (Int × Int) := (List.range k).flatMap (cAt E L)
theorem comeK_next (k : Nat) : comeK E L (k + 1) = comeK E L k ++ cAt E L k := by
  unfold comeK
  rw [List.range_succ, List.flatMap_append, List.flatMap_cons, List.flatMap_nil, List.append_nil]
theorem mem_comeK (hi : GInv V E) (ho : Ord V L) : ∀ {k : Nat}, k ≤ L.length → ∀ {p : Int × Int}, p ∈ comeK E L k ↔ p.1 < p.2 ∧ Adj E L k p.1 p.2 ∧ ¬ Adj0 E p.1 p.2
  | 0, _, p => by
    unfold comeK
    simp only [List.range_zero, List.flatMap_nil, List.not_mem_nil, false_iff]
    rintro ⟨_, h1, h2⟩
    exact h2 h1
  | k + 1, hk, p => by
    rw [comeK_next, List.mem_append, mem_comeK hi ho (by omega), mem_cAt hi ho (by omega)]
    constructor
    · rintro (⟨h1, h2, h3⟩ | ⟨h1, h2, h3⟩)
      · exact ⟨h1, .inl h2, h3⟩
      · exact ⟨h1, h2, fun h => h3 (Adj.mono (k := 0) h (Nat.zero_le _))⟩
    · rintro ⟨h1, h2, h3⟩
      by_cases h : Adj E L k p.1 p.2
      · exact .inl ⟨h1, h, h3⟩
      · exact .inr ⟨h1, h2, h⟩
theorem comeK_nodup (hi : GInv V E) (ho : Ord V L) : ∀ {k : Nat}, k ≤ L.length → (comeK E L k).Nodup
  | 0, _ => by simp [comeK]
  | k + 1, hk => by
    rw [comeK_next, List.nodup_append]
    refine ⟨comeK_nodup hi ho (by omega), cAt_nodup k, fun x hx y hy e => ?_⟩
    subst e
    exact ((mem_cAt hi ho (by omega)).1 hy).2.2 ((mem_comeK hi ho (by omega)).1 hx).2.1
end
end Go.Proofs.YtjehhilijeajnaaGreatDoor
/- THE FUNCTIONS HANDED TO walk AS ITS CONTRACT ASKS. Conditions: see each theorem. -/
namespace Go.Proofs.YtjehhilijeajnaaGreatDoor
open Go Go.RowKit

theorem len_le_of_sub : ∀ (l m : List Int), l.Nodup → (∀ x ∈ l, x ∈ m) → l.length ≤ m.length
  | [], _, _, _ => Nat.zero_le _
  | a :: r, m, hn, hs => by
    have ha : a ∈ m := hs a (by simp)
    obtain ⟨hna, hnr⟩ := List.nodup_cons.1 hn
    have h1 := len_le_of_sub r (m.erase a) hnr (fun x hx => (List.mem_erase_of_ne (fun e => hna (by rw [← e]; exact hx))).2 (hs x (by simp [hx])))
    have h2 := (List.perm_cons_erase ha).length_eq
    simp only [List.length_cons] at h2 ⊢
    omega
section
variable {V : List (Int × Thing)} {E : List ((Int × Int) × Thing)} {L : List Int}
theorem sAt_len (hi : GInv V E) (ho : Ord V L) {k : Nat} (hk : k < L.length) : (toL (sAt E L k)).length ≤ L.length :=
  len_le_of_sub _ _ (toL_nodup _) fun _ hx => List.mem_of_mem_drop ((mem_sAt hi ho hk).1 hx).1
theorem comeU_len (M : List (Int × Nat)) (s : Nat) (u : Int) : (comeU M s u).length ≤ (toL s).length := by
  unfold comeU
  rw [List.length_map]
  refine len_le_of_sub _ _ (toL_nodup _) fun x hx => ?_
  obtain ⟨h1, h2, h3⟩ := mem_toL'.1 hx
  rw [minusS_bit, minusS_bit] at h3
  simp only [Bool.and_eq_true] at h3
  exact mem_toL'.2 ⟨h1, h2, h3.1.1⟩
theorem cAt_len (hi : GInv V E) (ho : Ord V L) (hl : L.length ≤ 100) {k : Nat} (hk : k < L.length) : (cAt E L k).length ≤ 10000 := by
  have h1 := sAt_len hi ho hk
  have h2 := flat_len (fun u => Nat.le_trans (comeU_len (mAt E L k) (sAt E L k) u) (Nat.le_trans h1 hl)) (toL (sAt E L k))
  have h3 : (toL (sAt E L k)).length * 100 ≤ 100 * 100 := Nat.mul_le_mul_right _ (by omega)
  unfold cAt comeS
  omega
theorem comeK_len (hi : GInv V E) (ho : Ord V L) (hl : L.length ≤ 100) : ∀ {k : Nat}, k ≤ L.length → (comeK E L k).length ≤ k * 10000
  | 0, _ => by simp [comeK]
  | k + 1, hk => by
    rw [comeK_next, List.length_append]
    have := comeK_len hi ho hl (k := k) (by omega)
    have := cAt_len hi ho hl (k := k) (by omega)
    omega

def stepsK (E : List ((Int × Int) × Thing)) (L : List Int) (k : Nat) : List (Int × Nat) := (List.range k).map fun i => (L[i]?.getD 0, sAt E L i)
theorem range_next {α : Type} (f : Nat → α) (k : Nat) : (List.range (k + 1)).map f = (List.range k).map f ++ [f k] := by rw [List.range_succ, List.map_append]; rfl
theorem get_D {k : Nat} (hk : k < L.length) : L[k]?.getD 0 = L[k] := by simp [hk]

theorem steps_clo (base bl : Nat) (hl : L.length ≤ 1024) : Clo E L 45 #[.pointer (some ⟨bl, 0, none⟩)] (fun k T W => ∃ v, Acc encSt 58 43 17 base bl (stepsK E L k) v W ∧ T = accT bl v) where
  enters := enters_of Tryz.func45 (by kernel_rfl) rfl
  keep := fun k T W W' S ⟨v, h, e⟩ hk hS => by subst e; exact ⟨v, h.keep hk hS, rfl⟩
  lt := fun k T W ⟨v, h, e⟩ => by subst e; exact h.below
  step := fun k hk T W Ac cc ⟨v, h, e⟩ _ _ _ => by
    subst e
    refine (stepFn k L[k] (sAt E L k) Ac _ cc base bl (stepsK E L k) v W h (by simp [stepsK]; omega)).mono ?_
    rintro e w' ⟨hr, v', h1, h2, h3⟩
    refine ⟨hr, accT bl v', ⟨v', ?_, rfl⟩, h2, h3⟩
    have : stepsK E L (k + 1) = stepsK E L k ++ [(L[k], sAt E L k)] := by unfold stepsK; rw [range_next, get_D hk]
    rw [this]
    exact h1
def highK (E : List ((Int × Int) × Thing)) (L : List Int) (k : Nat) : List Nat := (List.range k).map (sAt E L)
theorem high_clo (base bl : Nat) (hl : L.length ≤ 1024) : Clo E L 58 #[.pointer (some ⟨bl, 0, none⟩)] (fun k T W => ∃ v, Acc encS 56 67 16 base bl (highK E L k) v W ∧ T = accT bl v) where
  enters := enters_of Tryz.func58 (by kernel_rfl) rfl
  keep := fun k T W W' S ⟨v, h, e⟩ hk hS => by subst e; exact ⟨v, h.keep hk hS, rfl⟩
  lt := fun k T W ⟨v, h, e⟩ => by subst e; exact h.below
  step := fun k hk T W Ac cc ⟨v, h, e⟩ _ _ _ => by
    subst e
    refine (highFn k L[k] (sAt E L k) Ac _ cc base bl (highK E L k) v W h (by simp [highK]; omega)).mono ?_
    rintro e w' ⟨hr, v', h1, h2, h3⟩
    refine ⟨hr, accT bl v', ⟨v', ?_, rfl⟩, h2, h3⟩
    have : highK E L (k + 1) = highK E L k ++ [sAt E L k] := by unfold highK; rw [range_next]
    rw [this]
    exact h1
def widK (E : List ((Int × Int) × Thing)) (L : List Int) (k : Nat) : Int := (List.range k).foldl (fun m i => max m (cntF (sAt E L i) 1024 : Int)) (-1)
theorem width_clo (bn : Nat) : Clo E L 46 #[.pointer (some ⟨bn, 0, none⟩)] (fun k T W => Blk W bn 3 #[.int .i64 (widK E L k)] ∧ T = [bn]) where
  enters := enters_of Tryz.func46 (by kernel_rfl) rfl
  keep := fun k T W W' S ⟨h, e⟩ hk hS => by subst e; exact ⟨h.keep hk (fun hm => hS _ hm (by simp)), rfl⟩
  lt := fun k T W ⟨h, e⟩ => by subst e; intro x hx; rw [List.mem_singleton] at hx; subst hx; exact h.lt
  step := fun k hk T W Ac cc ⟨h, e⟩ _ _ _ => by
    subst e
    refine (widthFn k L[k] (sAt E L k) Ac _ cc bn (widK E L k) W h).mono ?_
    rintro e w' ⟨hr, h1, h2⟩
    refine ⟨hr, [bn], ⟨?_, rfl⟩, h2, fun y hy => .inl hy⟩
    have : widK E L (k + 1) = max (widK E L k) (cntF (sAt E L k) 1024 : Int) := by unfold widK; rw [List.range_succ, List.foldl_append]; rfl
    rw [this]
    exact h1
set_option maxRecDepth 100000 in
theorem fill_clo (base bl : Nat) (hi : GInv V E) (ho : Ord V L) (hl : L.length ≤ 100) : Clo E L 48 #[.pointer (some ⟨bl, 0, none⟩)] (fun k T W => k ≤ L.length ∧ ∃ v, Acc encE 62 46 4 base bl ((comeK E L k).map edgeP) v W ∧ T = accT bl v) where
  enters := enters_of Tryz.func48 (by kernel_rfl) rfl
  keep := fun k T W W' S ⟨h0, v, h, e⟩ hk hS => by subst e; exact ⟨h0, v, h.keep hk hS, rfl⟩
  lt := fun k T W ⟨_, v, h, e⟩ => by subst e; exact h.below
  step := fun k hk T W Ac cc ⟨h0, v, h, e⟩ _ hA hsep => by
    subst e
    have h1 := comeK_len hi ho hl h0
    have h2 := cAt_len hi ho hl hk
    have hb : ((comeK E L k).map edgeP).length + (cAt E L k).length ≤ 10000000 := by
      rw [List.length_map]
      have h3 : k * 10000 ≤ 100 * 10000 := Nat.mul_le_mul_right _ (by omega)
      omega
    refine (fillFn k L[k] (sAt E L k) Ac (cAt E L k) cc base bl ((comeK E L k).map edgeP) v W h hA hsep hb).mono ?_
    rintro e w' ⟨hr, v', h1, h2, h3⟩
    refine ⟨hr, accT bl v', ⟨hk, v', ?_, rfl⟩, h2, h3⟩
    rw [comeK_next, List.map_append]
    exact h1
def parK (E : List ((Int × Int) × Thing)) (L : List Int) (M : List (Int × Int)) (k : Nat) : List Int := (List.range k).map fun i => upS M (sAt E L i)
theorem par_clo (base bl bp bq : Nat) (M : List (Int × Int)) (hl : L.length ≤ 1024) (hpb : bp < bl) (hqb : bq < bl) : Clo E L 41 #[.pointer (some ⟨bp, 0, none⟩), .pointer (some ⟨bl, 0, none⟩)] (fun k T W => ∃ v, Acc encI 3 29 1 base bl (parK E L M k) v W ∧ Blk W bp 92 #[.map (some bq)] ∧ MapIs ekV evI i64ok W bq M ∧ T = bp :: bq :: accT bl v) where
  enters := enters_of Tryz.func41 (by kernel_rfl) rfl
  keep := fun k T W W' S ⟨v, h, hp, hm, e⟩ hk hS => by
    subst e
    exact ⟨v, h.keep hk (fun x hx hm => hS x hx (by simp [hm])), hp.keep hk (fun hm => hS _ hm (by simp)), hm.keep hk (fun hm => hS _ hm (by simp)), rfl⟩
  lt := fun k T W ⟨v, h, hp, hm, e⟩ => by
    subst e
    intro x hx
    simp only [List.mem_cons] at hx
    rcases hx with rfl | rfl | hx
    · exact hp.lt
    · exact hm.lt
    · exact h.below x hx
  step := fun k hk T W Ac cc ⟨v, h, hp, hm, e⟩ hT _ _ => by
    subst e
    refine (parFn k L[k] (sAt E L k) Ac _ cc base bl bp bq M (parK E L M k) v W h hp hm hT (by simp [parK]; omega)).mono ?_
    rintro e w' ⟨hr, v', h1, h2, h3⟩
    have hne : ∀ z, z < bl → z ∉ accT bl v := fun z hz hm => by
      simp only [accT, List.mem_cons, Option.mem_toList] at hm
      rcases hm with rfl | hm
      · omega
      · have := (own_base h.own hm).1
        have := h.lt
        omega
    refine ⟨hr, bp :: bq :: accT bl v', ⟨v', ?_, hp.keep h2 (hne _ hpb), hm.keep h2 (hne _ hqb), rfl⟩, h2.mono (by simp; intro a ha; simp [ha]), fun y hy => ?_⟩
    · have : parK E L M (k + 1) = parK E L M k ++ [upS M (sAt E L k)] := by unfold parK; rw [range_next]
      rw [this]
      exact h1
    · simp only [List.mem_cons] at hy ⊢
      rcases hy with h | h | h
      · exact .inl (.inl h)
      · exact .inl (.inr (.inl h))
      · rcases h3 y h with h | h
        · exact .inl (.inr (.inr h))
        · exact .inr h
end
end Go.Proofs.YtjehhilijeajnaaGreatDoor
/- palmetteref21.Width, Tree, Depth. Conditions: see each theorem. -/
namespace Go.Proofs.YtjehhilijeajnaaGreatDoor
open Go Go.RowKit
attribute [local go_sem] qUpon lUpon

theorem atSls {w : World} {A : Option Addr} {vs : List Sl3} {xss : List (List Int)} (h : SlAt encW 1 w A vs) (hs : SlsAt w vs xss) {i : Nat} (hi : i < xss.length) : ∃ b off Ai ci, A = some ⟨b, off, none⟩ ∧ (∀ W, Ext w W → W.cell? ⟨b, off + i, none⟩ = some (.slice Ai xss[i].length ci)) ∧ SlAt encI 1 w Ai xss[i] := by
  obtain ⟨Ai, ci, h1, h2, _⟩ := hs.2 i hi
  have hiv : i < vs.length := by rw [hs.1]; exact hi
  obtain ⟨b, off, hA, hc⟩ := h.at_ hiv
  have hv : vs[i] = (Ai, xss[i].length, ci) := by rw [List.getElem?_eq_getElem hiv] at h1; exact Option.some.inj h1
  refine ⟨b, off, Ai, ci, hA, fun W hW => ?_, h2⟩
  have := hc 0 (.slice Ai xss[i].length ci) (by rw [hv]; rfl) W hW
  simpa using this

def widRK (xss : List (List Int)) (k : Nat) : Int := (xss.take k).foldl (fun m l => max m (l.length : Int)) (-1)
def widR (E : List ((Int × Int) × Thing)) (L : List Int) : Int := widRK (neasR E L L.length) L.length
theorem widRK_next (xss : List (List Int)) (k : Nat) (h : k < xss.length) : widRK xss (k + 1) = max (widRK xss k) (xss[k].length : Int) := by
  unfold widRK
  rw [List.take_succ_eq_append_getElem h, List.foldl_append]; rfl

set_option maxRecDepth 100000 in
set_option maxHeartbeats 4000000 in
theorem width21_any (A B : Option Addr) (V : List (Int × Thing)) (E : List ((Int × Int) × Thing)) (cA cB : Nat) (C : Option Addr) (L : List Int) (cL : Nat) (w : World) (hE : SlAt encE 4 w B E) (hnE : E.length ≤ 4096) (hL : SlAt encI 1 w C L) (hl : L.length ≤ 100) :
    Calls Tryz.prog 23 #[.agg #[.slice A V.length cA, .slice B E.length cB], .slice C L.length cL] w fun e w' => e = .returned (.int .i64 (widR E L)) ∧ Ext w w' := by
  have hE' := hide hE
  have hL' := hide hL
  clear hE hL
  go_enter Tryz.func23, Tryz.ntmps23
  go_wp2_with fail
  have hx1 := hide (ext_self1 w (.cells #[.slice A V.length cA, .slice B E.length cB] 28))
  generalize w.alloc (.cells #[.slice A V.length cA, .slice B E.length cB] 28) = w1 at *
  refine (near21_any A B V E cA cB C L cL w1 ((unhide hE').ext (unhide hx1)) hnE ((unhide hL').ext (unhide hx1)) hl).mono ?_
  rintro e w2 ⟨A1, c1, A2, c2, vs, rfl, hA1, hS1, hA2, hx2⟩
  have hA1' := hide hA1
  have hS1' := hide hS1
  have hA2' := hide hA2
  have hx2' := hide ((unhide hx1).trans hx2)
  have hnl : (neasR E L L.length).length = L.length := by simp [neasR]
  rw [hnl]
  have hnl' := hide hnl
  clear hA1 hS1 hA2 hx2 hnl
  go_wp2_with fail
  go_loopw [7, 8] (fun wv iv wr => ∃ k : Nat, k ≤ L.length ∧ iv = .int .i64 k ∧ wv = .int .i64 (widRK (neasR E L L.length) k) ∧ Ext w2 wr) (fun _ iv _ => L.length - (intOf iv).toNat)
  case atStart => exact ⟨0, Nat.zero_le _, rfl, rfl, Ext.refl _⟩
  case round =>
    obtain ⟨k, hk, rfl, rfl, hx⟩ := hrel
    have hx' := hide hx
    clear hx
    by_cases hlt : k < L.length
    · have hki : k < (neasR E L L.length).length := by rw [unhide hnl']; exact hlt
      obtain ⟨b, off, Ai, ci, rfl, c0, hzz⟩ := atSls ((unhide hA1').ext (unhide hx')) ((unhide hS1').ext (unhide hx')) hki
      have hst := hide (widRK_next (neasR E L L.length) k hki)
      generalize (neasR E L L.length)[k].length = m at c0 hst
      generalize widRK (neasR E L L.length) k = wk at *
      have hself := Ext.refl wr
      clear hzz hki
      go_wp2_with fail
      go_roundw
      case rel => exact ⟨k + 1, by omega, by go_num, by rw [unhide hst], unhide hx'⟩
      case measure => simp [intOf]; omega
    · have hke : k = L.length := by omega
      subst hke
      go_wp2_with fail
      go_ret
      exact ⟨rfl, (unhide hx2').trans (unhide hx')⟩

/-- the least place from m on of a vertex that is near -/
def upR (near L : List Int) (m : Nat) : Int := match (List.range' m (L.length - m)).find? (fun k => near.any (· == L[k]?.getD 0)) with
  | some k => (k : Int)
  | none => -1
theorem upR_end (near L : List Int) : upR near L L.length = -1 := by unfold upR; simp
theorem upR_step (near L : List Int) (m : Nat) (h : m < L.length) : upR near L m = if near.any (· == L[m]) = true then (m : Int) else upR near L (m + 1) := by
  have e : List.range' m (L.length - m) = m :: List.range' (m + 1) (L.length - (m + 1)) := by
    rw [show L.length - m = (L.length - (m + 1)) + 1 by omega, List.range'_succ]
  have hg : L[m]?.getD 0 = L[m] := by simp [h]
  unfold upR
  rw [e, List.find?_cons, hg]
  cases near.any (· == L[m]) <;> rfl
def treeR (E : List ((Int × Int) × Thing)) (L : List Int) (k : Nat) : List Int := (List.range k).map fun i => upR (neaR E L i) L (i + 1)

set_option maxRecDepth 100000 in
set_option maxHeartbeats 8000000 in
theorem tree21_any (A B : Option Addr) (V : List (Int × Thing)) (E : List ((Int × Int) × Thing)) (cA cB : Nat) (C : Option Addr) (L : List Int) (cL : Nat) (w : World) (hE : SlAt encE 4 w B E) (hnE : E.length ≤ 4096) (hL : SlAt encI 1 w C L) (hl : L.length ≤ 100) :
    Calls Tryz.prog 16 #[.agg #[.slice A V.length cA, .slice B E.length cB], .slice C L.length cL] w (SlPost encI 1 w (treeR E L L.length)) := by
  have hE' := hide hE
  have hL' := hide hL
  clear hE hL
  go_enter Tryz.func16, Tryz.ntmps16
  go_wp2_with fail
  have hx1 := hide (ext_self1 w (.cells #[.slice A V.length cA, .slice B E.length cB] 28))
  generalize w.alloc (.cells #[.slice A V.length cA, .slice B E.length cB] 28) = w1 at *
  refine (near21_any A B V E cA cB C L cL w1 ((unhide hE').ext (unhide hx1)) hnE ((unhide hL').ext (unhide hx1)) hl).mono ?_
  rintro e w2 ⟨A1, c1, A2, c2, vs, rfl, hA1, hS1, hA2, hx2⟩
  have hA1' := hide hA1
  have hS1' := hide hS1
  have hA2' := hide hA2
  have hx2' := hide ((unhide hx1).trans hx2)
  have hnl : (neasR E L L.length).length = L.length := by simp [neasR]
  rw [hnl]
  have hnl' := hide hnl
  clear hA1 hS1 hA2 hx2 hnl
  go_wp2_with fail
  have hz1 := hide (Below.size (unhide hx2'))
  go_loopw [7, 8] (fun ov iv wr => ∃ (k : Nat) (vo : Value), k ≤ L.length ∧ iv = .int .i64 k ∧ vo = ov ∧ wr.ownsRow w2.heap.size 3 1 vo (treeR E L k).length ((treeR E L k).flatMap encI) ∧ Ext w2 wr) (fun _ iv _ => L.length - (intOf iv).toNat)
  case atStart => exact ⟨0, _, Nat.zero_le _, rfl, rfl, World.ownsRow_nil _ _ _ _, Ext.refl _⟩
  case round =>
    obtain ⟨k, vo, hk, rfl, hv, hown, hx⟩ := hrel
    subst hv
    have hx' := hide hx
    have hown' := hide hown
    clear hx hown
    by_cases hlt : k < L.length
    · have hki : k < (neasR E L L.length).length := by rw [unhide hnl']; exact hlt
      have hnk : (neasR E L L.length)[k] = neaR E L k := by simp [neasR]
      generalize wr = wo at *
      have hself0 := Ext.refl wo
      go_wp2_with fail
      go_loopw [9, 10] (fun uv iv W => ∃ (m : Nat), k + 1 ≤ m ∧ m ≤ L.length ∧ iv = .int .i64 ((m : Int) - 1) ∧ uv = .int .i64 (upR (neaR E L k) L m) ∧ Ext wo W) (fun _ iv _ => (intOf iv + 1).toNat)
      case atStart => exact ⟨L.length, hlt, Nat.le_refl _, rfl, by rw [upR_end], Ext.refl _⟩
      case round =>
        obtain ⟨m, hkm, hml, rfl, rfl, hxi⟩ := hrel
        have hxi' := hide hxi
        clear hxi hself0
        by_cases hgt : k + 1 < m
        · obtain ⟨m', rfl⟩ : ∃ m', m = m' + 1 := ⟨m - 1, by omega⟩
          have hm' : m' < L.length := by omega
          obtain ⟨b, off, Ai, ci, rfl, c0, hsi⟩ := atSls ((unhide hA1').ext ((unhide hx').trans (unhide hxi'))) ((unhide hS1').ext ((unhide hx').trans (unhide hxi'))) hki
          have hLW := (unhide hL').ext ((unhide hx2').trans ((unhide hx').trans (unhide hxi')))
          obtain ⟨bl, offl, rfl, d0⟩ := atI hLW hm'
          have hst := hide (upR_step (neaR E L k) L m' hm')
          have hnl2 := hide (show (neaR E L k).length ≤ 4611686018427387904 from by
            have : (neaR E L k).length ≤ L.length := nearR_len _ _ _ _ _
            omega)
          rw [hnk] at c0 hsi
          have hsi' := hide hsi
          have hm1 : ((m' + 1 : Nat) : Int) - 1 = (m' : Int) := by omega
          rw [hm1]
          have hgd : decide ((k : Int) < (m' : Int)) = true := decide_eq_true (by omega)
          generalize L[m'] = y at d0 hst
          generalize upR (neaR E L k) L (m' + 1) = up at *
          have hself := Ext.refl wr
          clear hsi hLW hm1
          cases hq : (neaR E L k).any (· == y) with
          | true =>
            have hq' := hide hq
            clear hq
            go_wp2_with fail
            refine wp_region_ext (P := Tryz.prog) [0,1,2,3,4,5,6,7,8] [] 0 #[true,true,true,true,true,true,true,true,true] (by kernel_rfl) (by kernel_rfl) rfl (by rfl) ?_
            iterate 9
              refine ql_want (v := ?_) rfl (by rfl) (fun W hW => ?_) ?_
              rotate_left
              · go_simp
                first | done | rfl | (go_at_call 44; refine (has01_any Ai _ ci y _ ((unhide hsi').ext (by assumption)) (unhide hnl2)).mono ?_; rw [unhide hq']; rintro _ _ ⟨h1, h2⟩; refine ⟨_, h1, ?_, h2⟩; rfl)
              go_frame
            refine wpQL_nil (fun w3 hx3 => ?_)
            refine wpX_done (by kernel_rfl) ?_
            try go_frame
            have hx3' := hide ((unhide hxi').trans hx3)
            clear hx3 c0 d0 hself
            go_wp2_with fail
            go_roundw
            case rel => exact ⟨m', by omega, by omega, by go_num, by rw [unhide hst, if_pos (unhide hq')], unhide hx3'⟩
            case measure => simp [intOf]
          | false =>
            have hq' := hide hq
            clear hq
            go_wp2_with fail
            refine wp_region_ext (P := Tryz.prog) [0,1,2,3,4,5,6,7,8] [] 0 #[true,true,true,true,true,true,true,true,true] (by kernel_rfl) (by kernel_rfl) rfl (by rfl) ?_
            iterate 9
              refine ql_want (v := ?_) rfl (by rfl) (fun W hW => ?_) ?_
              rotate_left
              · go_simp
                first | done | rfl | (go_at_call 44; refine (has01_any Ai _ ci y _ ((unhide hsi').ext (by assumption)) (unhide hnl2)).mono ?_; rw [unhide hq']; rintro _ _ ⟨h1, h2⟩; refine ⟨_, h1, ?_, h2⟩; rfl)
              go_frame
            refine wpQL_nil (fun w3 hx3 => ?_)
            refine wpX_done (by kernel_rfl) ?_
            try go_frame
            have hx3' := hide ((unhide hxi').trans hx3)
            clear hx3 c0 d0 hself
            go_wp2_with fail
            go_roundw
            case rel => exact ⟨m', by omega, by omega, by go_num, by rw [unhide hst, if_neg (by rw [unhide hq']; simp)], unhide hx3'⟩
            case measure => simp [intOf]
        · have hme : m = k + 1 := by omega
          subst hme
          have hgd : decide ((k : Int) < ((k + 1 : Nat) : Int) - 1) = false := decide_eq_false (by omega)
          have htl := hide (show (treeR E L k).length ≤ 10000000 by simp [treeR]; omega)
          obtain ⟨up, hup⟩ : ∃ up, up = upR (neaR E L k) L (k + 1) := ⟨_, rfl⟩
          rw [← hup]
          have hup' := hide hup
          obtain ⟨tr, htr⟩ : ∃ tr, tr = treeR E L k := ⟨_, rfl⟩
          rw [← htr] at hown' htl
          have htr' := hide htr
          clear hup htr
          have hownI := hide (own_ext (unhide hown') (unhide hxi'))
          have hxI := hide ((unhide hx').trans (unhide hxi'))
          have hbI := hide (Below.size (unhide hxI))
          try dsimp only
          repeat ((fail_if_success (with_reducible refine wp_reg (id := 12) ?_)); (first | go_values | go_skip | go_step | go_guarded | go_upon | go_in | go_back | fail))
          with_reducible refine wp_reg (id := 12) ?_
          iterate 3
            refine wpO_want rfl ?_
            go_simp
          refine wpO_ap1 (enc := _) rfl infoI Tryz.underlying29 one_encI (fun _ => rfl) (by decide) (by decide) rfl (v := vo) (xs := tr) up rfl rfl (Blk.new wr 3 #[.int .i64 up]) (own_ext (unhide hownI) (ext_self1 wr (.cells #[.int .i64 up] 3))) (unhide htl) (Nat.le_trans (unhide hbI) (Below.size (ext_self1 wr (.cells #[.int .i64 up] 3)))) ?_
          intro A_w6 c_w6 w6 ho6 hg6 _
          obtain ⟨n_w6, hlen6⟩ : ∃ n_w6, n_w6 = (tr).length + 1 := ⟨_, rfl⟩
          rw [← hlen6] at ho6 ⊢
          have hx_w6 := hide (((unhide hxI).trans (ext_self1 wr (.cells #[.int .i64 up] 3))).of_new (Keep.of_grown hg6) (fun z hz => Nat.le_trans (Nat.le_refl _) (own_base (unhide hownI) (by simpa using hz)).1))
          have hown_w6 := hide (own_n ho6 (m := (tr ++ [up]).length) (by rw [hlen6, List.length_append (bs := [_])]; rfl))
          have hn_w6 := hide hlen6
          clear ho6 hg6 hlen6
          try go_frame
          refine wpO_want rfl ?_
          go_simp
          refine wpO_done ?_
          try go_frame
          have hnx : tr ++ [up] = treeR E L (k + 1) := by unfold treeR; rw [range_next, unhide hup', unhide htr']; rfl
          rw [hnx] at hown_w6
          go_wp2_with fail
          go_roundw
          case rel => exact ⟨k + 1, _, by omega, by go_num, rfl, unhide hown_w6, unhide hx_w6⟩
          case measure => simp [intOf]; omega
    · have hke : k = L.length := by omega
      subst hke
      obtain ⟨A7, c7, rfl⟩ := own_slice (unhide hown')
      go_wp2_with fail
      go_ret
      exact .mk rfl (own_at (enc := encI) (unhide hown') (fun _ => rfl)) ((unhide hx2').trans (unhide hx'))
end Go.Proofs.YtjehhilijeajnaaGreatDoor
/- palmetteref21.Depth, palmettelaw21.ints. Conditions: see each theorem. -/
namespace Go.Proofs.YtjehhilijeajnaaGreatDoor
open Go Go.RowKit
attribute [local go_sem] qUpon lUpon

def depRK (P : List Int) (k : Nat) : Int := (List.range k).foldl (fun d i => max d (dep P i)) 0
theorem depRK_next (P : List Int) (k : Nat) : depRK P (k + 1) = max (depRK P k) (dep P k) := by
  unfold depRK
  rw [List.range_succ, List.foldl_append]; rfl
theorem treeR_len (E : List ((Int × Int) × Thing)) (L : List Int) (k : Nat) : (treeR E L k).length = k := by simp [treeR]

set_option maxRecDepth 100000 in
set_option maxHeartbeats 8000000 in
theorem depth21_any (A B : Option Addr) (V : List (Int × Thing)) (E : List ((Int × Int) × Thing)) (cA cB : Nat) (C : Option Addr) (L : List Int) (cL : Nat) (w : World) (hE : SlAt encE 4 w B E) (hnE : E.length ≤ 4096) (hL : SlAt encI 1 w C L) (hl : L.length ≤ 100) (hP : UpOK (treeR E L L.length)) :
    Calls Tryz.prog 17 #[.agg #[.slice A V.length cA, .slice B E.length cB], .slice C L.length cL] w fun e w' => e = .returned (.int .i64 (depRK (treeR E L L.length) L.length)) ∧ Ext w w' := by
  have hP' := hide hP
  clear hP
  have hE' := hide hE
  have hL' := hide hL
  clear hE hL
  go_enter Tryz.func17, Tryz.ntmps17
  go_wp2_with fail
  have hx1 := hide (ext_self1 w (.cells #[.slice A V.length cA, .slice B E.length cB] 28))
  generalize w.alloc (.cells #[.slice A V.length cA, .slice B E.length cB] 28) = w1 at *
  refine (tree21_any A B V E cA cB C L cL w1 ((unhide hE').ext (unhide hx1)) hnE ((unhide hL').ext (unhide hx1)) hl).mono ?_
  have hlen0 := treeR_len E L L.length
  obtain ⟨P, hPe⟩ : ∃ P, P = treeR E L L.length := ⟨_, rfl⟩
  rw [← hPe] at hlen0 hP' ⊢
  rintro e w2 ⟨A1, c1, rfl, hs1, hx2⟩
  have hlen := hide hlen0
  obtain ⟨n, hn⟩ : ∃ n, n = L.length := ⟨_, rfl⟩
  rw [← hn] at hlen hl ⊢
  rw [unhide hlen]
  have hs1' := hide hs1
  have hx2' := hide ((unhide hx1).trans hx2)
  have hPe' := hide hPe
  have hn' := hide hn
  clear hs1 hx2 hPe hlen0 hn
  go_wp2_with fail
  go_loopw [6, 7] (fun dv iv wr => ∃ k : Nat, k ≤ n ∧ iv = .int .i64 k ∧ dv = .int .i64 (depRK P k) ∧ Ext w2 wr) (fun _ iv _ => n - (intOf iv).toNat)
  case atStart => exact ⟨0, Nat.zero_le _, rfl, rfl, Ext.refl _⟩
  case round =>
    obtain ⟨k, hk, rfl, rfl, hx⟩ := hrel
    have hx' := hide hx
    clear hx
    by_cases hlt : k < n
    · have hkP : k < P.length := by rw [unhide hlen]; exact hlt
      obtain ⟨b, off, rfl, c0⟩ := atI ((unhide hs1').ext (unhide hx')) hkP
      have hup := unhide hP' k hkP
      have hd0 := hide (dep_none hkP)
      have hd1 := hide (dep_some (unhide hP') hkP)
      have hnx := hide (depRK_next P k)
      generalize hu : P[k] = up at c0 hup hd0 hd1
      have hself := Ext.refl wr
      obtain ⟨dk, hdk⟩ : ∃ dk, dk = depRK P k := ⟨_, rfl⟩
      rw [← hdk] at hnx ⊢
      have hdk' := hide hdk
      clear hu hdk
      generalize wr = wo at *
      go_wp2_with fail
      go_loopw [8, 9] (fun nv kv W => ∃ (c kk : Int), nv = .int .i64 c ∧ kv = .int .i64 kk ∧ 0 ≤ c ∧ c ≤ n ∧ Ext wo W ∧ (kk = -1 ∧ c = dep P k ∨ ∃ m : Nat, kk = (m : Int) ∧ k < m ∧ m < n ∧ c + dep P m = dep P k ∧ c ≤ m)) (fun _ kv _ => if intOf kv < 0 then 0 else n - (intOf kv).toNat)
      case atStart =>
        refine ⟨1, up, rfl, rfl, by omega, by omega, Ext.refl _, ?_⟩
        rcases hup with h | ⟨h1, h2⟩
        · exact .inl ⟨h, (unhide hd0 (by omega)).symm⟩
        · refine .inr ⟨up.toNat, by omega, by omega, by have := unhide hlen; omega, (unhide hd1 (by omega)).symm, by omega⟩
      case round =>
        obtain ⟨c, kk, rfl, rfl, hc0, hcn, hxi, hcase⟩ := hrel
        have hxi' := hide hxi
        clear hxi hself
        rcases hcase with ⟨rfl, hce⟩ | ⟨m, rfl, hkm, hmn, hce, hcm⟩
        · have hce' := hide hce
          clear hce hup
          go_wp2_with fail
          go_roundw
          case rel => exact ⟨k + 1, by omega, by go_num, by rw [unhide hnx, ← unhide hce'], (unhide hx').trans (unhide hxi')⟩
          case measure => simp [intOf]; omega
        · have hmP : m < P.length := by rw [unhide hlen]; exact hmn
          have hc1 := atI_at ((unhide hs1').ext ((unhide hx').trans (unhide hxi'))) hmP
          have hself := Ext.refl wr
          have hc1000 : c ≤ 1000 := by omega
          have hup2 := unhide hP' m hmP
          have he0 := hide (dep_none hmP)
          have he1 := hide (dep_some (unhide hP') hmP)
          generalize hu2 : P[m] = up2 at hc1 hup2 he0 he1
          have hce' := hide hce
          have hlen2 := unhide hlen
          clear hce hup hu2
          go_wp2_with fail
          go_roundw
          case rel =>
            refine ⟨c + 1, up2, by go_num, rfl, by omega, by omega, unhide hxi', ?_⟩
            have h := unhide hce'
            rcases hup2 with h2 | ⟨h1, h2⟩
            · have := unhide he0 (by omega)
              exact .inl ⟨h2, by omega⟩
            · have := unhide he1 (by omega)
              exact .inr ⟨up2.toNat, by omega, by omega, by omega, by omega, by omega⟩
          case measure =>
            rcases hup2 with h2 | ⟨h1, h2⟩
            · subst h2
              simp [intOf, show ¬ ((m : Int) < 0) by omega]
              omega
            · simp [intOf, show ¬ ((m : Int) < 0) by omega, show ¬ (up2 < 0) by omega]
              omega
    · have hke : k = n := by omega
      subst hke
      go_wp2_with fail
      go_ret
      exact ⟨ret_int (by rw [← unhide hPe', ← unhide hn']), (unhide hx2').trans (unhide hx')⟩

set_option maxRecDepth 100000 in
set_option maxHeartbeats 4000000 in
theorem ints_any (A B : Option Addr) (a b : List Int) (cA cB : Nat) (w : World) (hA : SlAt encI 1 w A a) (hB : SlAt encI 1 w B b) (hl : a.length ≤ 4611686018427387904) :
    Calls Tryz.prog 15 #[.slice A a.length cA, .slice B b.length cB] w fun e w' => e = .returned (.bool (decide (a = b))) ∧ Ext w w' := by
  have hself := hide (Ext.refl w)
  have hA' := hide hA
  have hB' := hide hB
  clear hA hB
  go_enter Tryz.func15, Tryz.ntmps15
  by_cases hlen : a.length = b.length
  · have e1 : ((a.length : Int) != (b.length : Int)) = false := by simp [hlen]
    have hlen' := hide hlen
    clear hlen
    go_wp2_with fail
    go_loopw [5] (fun iv wr => ∃ k : Nat, k ≤ a.length ∧ iv = .int .i64 k ∧ (∀ j (h1 : j < a.length) (h2 : j < b.length), j < k → a[j] = b[j]) ∧ Ext w wr) (fun iv _ => a.length - (intOf iv).toNat)
    case atStart => exact ⟨0, Nat.zero_le _, rfl, fun j _ _ h => by omega, unhide hself⟩
    case round =>
      obtain ⟨k, hk, rfl, heq, hx⟩ := hrel
      have heq' := hide heq
      have hx' := hide hx
      clear heq hx
      by_cases hlt : k < a.length
      · have hlb : k < b.length := by rw [← unhide hlen']; exact hlt
        obtain ⟨b1, off1, rfl, c0⟩ := atI ((unhide hA').ext (unhide hx')) hlt
        obtain ⟨b2, off2, rfl, d0⟩ := atI ((unhide hB').ext (unhide hx')) hlb
        generalize hx1 : a[k] = x at c0
        generalize hy1 : b[k] = y at d0
        have hx1' := hide hx1
        have hy1' := hide hy1
        have hself1 := Ext.refl wr
        clear hx1 hy1
        by_cases hxy : x = y
        · subst hxy
          have e2 : (x != x) = false := by simp
          go_wp2_with fail
          refine wp_region_ext (P := Tryz.prog) [0,1,2,3,4,5,6,7,8] [] 0 #[true,true,true,true,true,true,true,true,true] (by kernel_rfl) (by kernel_rfl) rfl (by rfl) ?_
          iterate 9
            refine ql_want (v := ?_) rfl (by rfl) (fun W hW => ?_) ?_
            rotate_left
            · go_simp
              first | done | rfl
            go_frame
          refine wpQL_nil (fun w3 hx3 => ?_)
          refine wpX_done (by kernel_rfl) ?_
          try go_frame
          have hx3' := hide ((unhide hx').trans hx3)
          clear hx3 c0 d0 hself1
          go_wp2_with fail
          go_roundw
          case rel =>
            refine ⟨k + 1, by omega, by go_num, fun j h1 h2 h3 => ?_, unhide hx3'⟩
            by_cases hjk : j = k
            · subst hjk; rw [unhide hx1', unhide hy1']
            · exact unhide heq' j h1 h2 (by omega)
          case measure => simp [intOf]; omega
        · have e2 : (x != y) = true := by simpa using hxy
          have hne : a ≠ b := fun e => hxy (by subst e; rw [← unhide hx1', ← unhide hy1'])
          have hne' := hide hne
          clear hxy hne
          go_wp2_with fail
          refine wp_region_ext (P := Tryz.prog) [0,1,2,3,4,5,6,7,8] [] 0 #[true,true,true,true,true,true,true,true,true] (by kernel_rfl) (by kernel_rfl) rfl (by rfl) ?_
          iterate 9
            refine ql_want (v := ?_) rfl (by rfl) (fun W hW => ?_) ?_
            rotate_left
            · go_simp
              first | done | rfl
            go_frame
          refine wpQL_nil (fun w3 hx3 => ?_)
          refine wpX_done (by kernel_rfl) ?_
          try go_frame
          have hx3' := hide ((unhide hx').trans hx3)
          clear hx3 c0 d0 hself1
          go_wp2_with fail
          go_ret
          exact ⟨ret_bl (decide_eq_false (unhide hne')).symm, unhide hx3'⟩
      · have hab : a = b := List.ext_getElem (unhide hlen') fun j h1 h2 => unhide heq' j h1 h2 (by omega)
        have hab' := hide hab
        clear hab
        go_wp2_with fail
        go_ret
        exact ⟨ret_bl (decide_eq_true (unhide hab')).symm, unhide hx'⟩
  · have e1 : ((a.length : Int) != (b.length : Int)) = true := by simp; omega
    have hne := hide (show a ≠ b from fun e => hlen (by rw [e]))
    clear hlen
    go_wp2_with fail
    go_ret
    exact ⟨ret_bl (decide_eq_false (unhide hne)).symm, unhide hself⟩
end Go.Proofs.YtjehhilijeajnaaGreatDoor
