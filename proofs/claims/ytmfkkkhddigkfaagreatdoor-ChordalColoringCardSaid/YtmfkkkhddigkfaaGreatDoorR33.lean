/- Parts of a proof, laid together. Each part says its own conditions. -/
import Derived.Test.YtmfkkkhddigkfaaGreatDoorR30
import Derived.Test.YtmfkkkhddigkfaaGreatDoorR25
import Derived.Test.YtmfkkkhddigkfaaGreatDoorR26
import Derived.Test.YtmfkkkhddigkfaaGreatDoorR32
import Derived.OwnWalk
namespace Go.Proofs.YtmfkkkhddigkfaaGreatDoor
open Go Go.RowKit Go.Shelf
attribute [local go_sem] qUpon lUpon
attribute [local irreducible] wpO wpX wpQL
def evJ (n : Int) : Value := .int .i64 n
def evB (b : Bool) : Value := .bool b
theorem zeroJ (w : World) : (zeroValue 3).run Tryz.prog w = .ok (evJ 0) w := by kernel_rfl
theorem zeroB (w : World) : (zeroValue 4).run Tryz.prog w = .ok (evB false) w := by kernel_rfl
theorem zip2 (tm : Array Value) (p q : Nat) (u v : Value) : (#[p,q].zip #[u,v]).foldl (fun t (q : Nat × Value) => t.setIfInBounds q.1 q.2) tm = (tm.setIfInBounds p u).setIfInBounds q v := by simp [Array.zip]
theorem back_ext (A : Option Addr) (n c : Nat) (w : World) : Calls Tryz.prog 56 #[.slice A n c] w fun e w' => ∃ b,e = .returned (.func (.func 84) #[] #[.pointer (some ⟨b,0,none⟩)]) ∧ Blk w' b 31 #[.slice A n c] ∧ Ext w w' ∧ w.heap.size ≤ b :=
 (back_any A n c w).mono fun _ _ ⟨h1,h2⟩ => ⟨_,h1,by rw [h2]; exact Blk.new w _ _,by rw [h2]; exact ext_self1 w _,Nat.le_refl _⟩
theorem bwL_snd (L : List Int) : (bwL L).map (·.2) = L.reverse := by
 unfold bwL
 rw [List.map_reverse,List.map_map]
 congr 1
 refine List.ext_getElem (by simp) fun i h1 h2 => ?_
 simp [bwF,List.getElem?_eq_getElem h2]
theorem exA_off {w : World} {A : Option Addr} {L : List Int} (h : SlAt encI 1 w A L) {b t : Nat} {o : Option Addr} (hb : Blk w b t #[.pointer o]) : b ∉ exA A L := fun hm => by
 unfold exA at hm
 split at hm
 ·simp at hm
 ·rename_i hne
  obtain ⟨b',off,rfl,hlt,hc⟩ := h (by rintro rfl; simp at hne)
  simp only [List.mem_singleton] at hm
  subst hm
  have h1 := hc 0 L[0] (List.getElem?_eq_getElem (by omega)) 0 (.int .i64 L[0]) rfl
  rw [hb.cell] at h1
  have hz : off + 0 * 1 + 0 = off := by omega
  rw [hz] at h1
  match off,h1 with
  | 0,h1 => simp at h1
  | off + 1,h1 => simp at h1
theorem poS_mem {E : List ((Int × Int) × Thing)} (f : Nat) : ∀ (N : Nat) (o : List Int),poS E f N = some o → o.length ≤ f ∧ ∀ x ∈ o,x ∈ toL N := by
 induction f with
 | zero => intro N o h; rw [poS] at h; cases h
 | succ f ih =>
  intro N o h
  rw [poS] at h
  split at h
  ·obtain ⟨u,hu,h2⟩ := Option.bind_eq_some_iff.1 h
   obtain ⟨l,hl,rfl⟩ := Option.map_eq_some_iff.1 h2
   obtain ⟨h3,h4⟩ := ih _ l hl
   refine ⟨by rw [List.length_cons]; omega,fun x hx => ?_⟩
   rcases List.mem_cons.1 hx with rfl | hx
   ·exact List.mem_of_find?_eq_some hu
   ·exact (mem_without.1 (h4 x hx)).1
  ·cases h; simp
def tkM (M : List (Int × Int)) (pre : List Int) : List (Int × Bool) := (pre.filterMap (lookM M)).foldl (fun T c => putM T c true) []
theorem look_fold (l : List Int) (c : Int) : ∀ T : List (Int × Bool),lookM (l.foldl (fun T c => putM T c true) T) c = if c ∈ l then some true else lookM T c := by
 induction l with
 | nil => intro T; simp
 | cons x l ih =>
  intro T
  rw [List.foldl_cons,ih,look_put]
  by_cases h1 : c ∈ l
  ·simp [h1]
  ·by_cases h2 : c = x
   ·simp [h2]
   ·simp [h1,h2]
theorem look_tk (M : List (Int × Int)) (pre : List Int) (c : Int) : (lookM (tkM M pre) c).getD false = decide (c ∈ pre.filterMap (lookM M)) := by
 unfold tkM
 rw [look_fold]
 by_cases h : c ∈ pre.filterMap (lookM M)
 ·rw [if_pos h,decide_eq_true h]; rfl
 ·rw [if_neg h,decide_eq_false h]; rfl
theorem tk_some {M : List (Int × Int)} {pre : List Int} {u c : Int} (h : lookM M u = some c) : tkM M (pre ++ [u]) = putM (tkM M pre) c true := by
 unfold tkM
 rw [List.filterMap_append,List.foldl_append]
 simp [h]
theorem tk_none {M : List (Int × Int)} {pre : List Int} {u : Int} (h : lookM M u = none) : tkM M (pre ++ [u]) = tkM M pre := by
 unfold tkM
 rw [List.filterMap_append]
 simp [h]
theorem mex_le (l : List Int) : 0 ≤ mexL l ∧ mexL l ≤ (l.length : Int) := by
 have h := mex_spec l
 have h2 := run_len (l := l) (n := (mexL l).toNat) (fun d h1 h2 => h.2.2 d h1 (by omega))
 have := h.1
 omega
structure ColB (s : List (Int × Int) × Int) : Prop where
 m : ∀ p ∈ s.1,0 ≤ p.1 ∧ p.1 < 1024 ∧ 0 ≤ p.2 ∧ p.2 ≤ 1024
 lo : 0 ≤ s.2
 hi : s.2 ≤ 1025
theorem taken_len (E : List ((Int × Int) × Thing)) (M : List (Int × Int)) (v : Int) : (takenS E M v).length ≤ 1024 := Nat.le_trans (List.length_filterMap_le _ _) (toL_len_le _)
theorem ColB.next {E : List ((Int × Int) × Thing)} {s : List (Int × Int) × Int} {v : Int} (h : ColB s) (hv : 0 ≤ v ∧ v < 1024) : ColB (colStep E s v) := by
 have h1 := mex_le (takenS E s.1 v)
 have h2 := taken_len E s.1 v
 have h3 := h.lo
 have h4 := h.hi
 unfold colStep
 generalize mexL (takenS E s.1 v) = c at h1
 refine ⟨fun p hp => ?_,by simp only; omega,by simp only; omega⟩
 simp only at hp
 unfold putM at hp
 split at hp
 ·obtain ⟨q,hq,rfl⟩ := List.mem_map.1 hp
  split
  ·simp only; omega
  ·exact h.m q hq
 ·rcases List.mem_append.1 hp with hp | hp
  ·exact h.m p hp
  ·rw [List.mem_singleton] at hp
   subst hp
   simp only; omega
theorem ColB.fold {E : List ((Int × Int) × Thing)} (l : List Int) : ∀ s,ColB s → (∀ v ∈ l,0 ≤ v ∧ v < 1024) → ColB (l.foldl (colStep E) s) := by
 induction l with
 | nil => intro s h _; exact h
 | cons v l ih => intro s h hl; rw [List.foldl_cons]; exact ih (colStep E s v) (h.next (hl v (by simp))) (fun x hx => hl x (by simp [hx]))
theorem ColB.start : ColB ([],0) := ⟨by simp,by simp,by simp⟩
theorem ColB.ok {s : List (Int × Int) × Int} (h : ColB s) : ∀ p ∈ s.1,i64ok p.1 := fun p hp => okK ⟨(h.m p hp).1,(h.m p hp).2.1⟩
theorem look_mem {M : List (Int × Int)} {u c : Int} (h : lookM M u = some c) : ∃ p ∈ M,p.2 = c := by
 unfold lookM at h
 obtain ⟨p,hp,rfl⟩ := Option.map_eq_some_iff.1 h
 exact ⟨p,List.mem_of_find?_eq_some hp,rfl⟩
theorem tk_ok {M : List (Int × Int)} (h : ∀ p ∈ M,0 ≤ p.2 ∧ p.2 ≤ 1024) (pre : List Int) : ∀ p ∈ tkM M pre,i64ok p.1 := by
 have key : ∀ (l : List Int) (T : List (Int × Bool)),(∀ c ∈ l,i64ok c) → (∀ p ∈ T,i64ok p.1) → ∀ p ∈ l.foldl (fun T c => putM T c true) T,i64ok p.1 := by
  intro l
  induction l with
  | nil => intro T _ h; exact h
  | cons c l ih => intro T h1 h2; rw [List.foldl_cons]; exact ih _ (fun x hx => h1 x (by simp [hx])) (putM_ok h2 (h1 c (by simp)))
 refine key _ [] (fun c hc => ?_) (by simp)
 obtain ⟨u,_,hu⟩ := List.mem_filterMap.1 hc
 obtain ⟨p,hp,rfl⟩ := look_mem hu
 have := h p hp
 unfold i64ok
 omega
def CoPost (w : World) (po : Option (List Int)) (n : Int) (l : List Int) (e : Ending) (w' : World) : Prop := match po with
 | none => e = .returned (.tuple #[.int .i64 0, .slice none 0 0, .int .i64 3]) ∧ Ext w w'
 | some _ => ∃ A c,e = .returned (.tuple #[.int .i64 n, .slice A l.length c, .int .i64 0]) ∧ SlAt encI 1 w' A l ∧ Ext w w'
theorem CoPost.none {w w' : World} {n : Int} {l : List Int} (h : Ext w w') : CoPost w none n l (.returned (.tuple #[.int .i64 0, .slice none 0 0, .int .i64 3])) w' := ⟨rfl,h⟩
theorem CoPost.some {w w' : World} {o l : List Int} {x : Int} {A : Option Addr} {n c : Nat} (hn : n = l.length) (h : SlAt encI 1 w' A l) (hx : Ext w w') : CoPost w (some o) x l (.returned (.tuple #[.int .i64 x, .slice A n c, .int .i64 0])) w' := ⟨A,c,by rw [hn],h,hx⟩
theorem exA_n {A : Option Addr} {L : List Int} {w : World} {bN n c : Nat} (hn : n = L.length) (hB : Blk w bN 31 #[.slice A n c]) (hL : SlAt encI 1 w A L) (hl : L.length ≤ 2000) :
  Iter1 Tryz.prog 84 #[.pointer (some ⟨bN,0,none⟩)] (fun p : Int × Int => #[.int .i64 p.1, .int .i64 p.2]) (bwL L) 0 (bN :: exA A L) w := by
 subst hn
 exact back_iter A L c bN w hB hL (by omega)
theorem pre_rng {L : List Int} {pre : List (Int × Int)} {q : Int × Int} (hL : ∀ x ∈ L,0 ≤ x ∧ x < 1024) (h : (pre ++ [q]) <+: bwL L) : (0 ≤ q.2 ∧ q.2 < 1024) ∧ ∀ x ∈ pre.map (·.2),0 ≤ x ∧ x < 1024 := by
 have key : ∀ p ∈ bwL L,0 ≤ p.2 ∧ p.2 < 1024 := fun p hp => hL _ (by
  have : p.2 ∈ (bwL L).map (·.2) := List.mem_map.2 ⟨p,hp,rfl⟩
  rw [bwL_snd] at this
  simpa using this)
 refine ⟨key _ (h.subset (by simp)),fun x hx => ?_⟩
 obtain ⟨p,hp,rfl⟩ := List.mem_map.1 hx
 exact key _ (h.subset (by simp [hp]))
theorem Sp.outRow {wf w W : World} {T0 : List Nat} {ds : List Deferred} {L : List Cl} {Rs : List Rw} {T n c : Nat} {A : Option Addr} {L0 : List Int} (h : Sp wf T0 w ds L ((T,1, .slice A n c,n,L0.flatMap encI) :: Rs) W) (hn : n = L0.length) :
  Sp wf T0 w ds L Rs W ∧ SlAt encI 1 W A L0 ∧ ∀ b ∈ exA A L0,b < W.heap.size ∧ b ∉ stT L Rs := by
 subst hn
 have hs : SlAt encI 1 W A L0 := own_at (h.row 0 rfl) (fun _ => rfl)
 refine ⟨h.sub (List.Sublist.refl _) (List.sublist_cons_self _ _),hs,fun b hb => ⟨exA_lt hs b hb,fun hm => ?_⟩⟩
 have hn := h.st.nd
 unfold exA at hb
 split at hb
 ·simp at hb
 ·cases A with
  | none => simp at hb
  | some a =>
   simp only [List.mem_singleton] at hb
   subst hb
   unfold stT rwT at hn hm
   rw [List.flatMap_cons,rwB_slice (show (1 : Nat) ≠ 0 by decide)] at hn
   simp only [Value.ownBlock,Option.toList,List.singleton_append] at hn
   have := (List.perm_middle.nodup_iff.1 hn)
   exact (List.nodup_cons.1 this).1 hm
set_option maxRecDepth 100000 in
set_option maxHeartbeats 16000000 in
theorem coloring_any (og : Option Addr) (V : List (Int × Thing)) (E : List ((Int × Int) × Thing)) (w : World) (hg : GL w og V E) (hT : Tab w) :
  Calls Tryz.prog 19 #[.pointer og] w (CoPost w (peoS V E) (colS E ((peoS V E).getD [])).2 (colOut V E ((peoS V E).getD []))) := by
 have hg' := hide hg
 have hT' := hide hT
 obtain ⟨po,hpo⟩ : ∃ po,po = peoS V E := ⟨_,rfl⟩
 have hpc := hide (fun (W : World) (hW : Ext w W) => perfect_any og V E W (hg.ext hW) (hT.ext hW))
 have hlr := hide (show ∀ o,po = some o → o.length ≤ 1025 ∧ ∀ x ∈ o,0 ≤ x ∧ x < 1024 from fun o h => by
  rw [hpo] at h
  have h2 := poS_mem _ _ _ h
  exact ⟨h2.1,fun x hx => ⟨(mem_toL'.1 (h2.2 x hx)).1,(mem_toL'.1 (h2.2 x hx)).2.1⟩⟩)
 rw [← hpo] at hpc ⊢
 clear hg hT hpo
 have hP := hide (Sp.new w)
 refine callsIn_wide.1 (callsIn_of_wp_marks (n := 0) Tryz.func19 rfl trivial (wpIn_wide.2 ?_))
 simp only [Tryz.ntmps19,List.size_toArray,List.length_cons,List.length_nil,Nat.reduceAdd,Nat.reduceSub,Array.replicate_succ,Array.replicate_zero,List.push_toArray,List.append_toArray,List.nil_append,List.cons_append]
 try dsimp only
 repeat ((fail_if_success (with_reducible refine wp_reg (id := 0) ?_)); (first | go_values | go_skip | go_step | go_guarded | go_upon | go_in | go_back | fail))
 with_reducible refine wp_reg (id := 0) ?_
 refine (unhide hP).allocO 24 #[.pointer og] rfl (run_box (v := .pointer og) rfl rfl) ?_
 intro bg y1 hQ
 replace hP : Hid (Sp w [] w [] [(bg,24, #[.pointer og])] [] y1) := hide hQ
 clear hQ
 iterate 3
  refine wpO_want rfl ?_
  go_simp
 refine wpO_done ?_
 try go_frame
 try dsimp only
 repeat ((fail_if_success (with_reducible refine wp_reg (id := 1) ?_)); (first | go_values | go_skip | go_step | go_guarded | go_upon | go_in | go_back | fail))
 with_reducible refine wp_reg (id := 1) ?_
 refine wpO_val rfl (load_V (v := .pointer og) rfl rfl (by simp [go_sem]) (((unhide hP).get 0 rfl).cell 0)) ?_
 go_frame
 refine wpO_want rfl ?_
 go_simp
 refine (unhide hpc _ (unhide hP).extf).mono ?_
 rintro _ y2 ⟨A0,c0,rfl,hs0,hxc⟩
 refine ⟨_,rfl, ?_⟩
 generalize htu0 : Value.tuple _ = tu
 have htu := hide htu0
 clear htu0
 obtain ⟨pb,hpb⟩ : ∃ pb,pb = po.isSome := ⟨_,rfl⟩
 obtain ⟨lo,hlo⟩ : ∃ lo,lo = po.getD [] := ⟨_,rfl⟩
 rw [← hpb, ← hlo] at htu
 rw [← hlo] at hs0
 obtain ⟨pn,hpn⟩ : ∃ pn,pn = lo.length := ⟨_,rfl⟩
 rw [← hpn] at htu hs0
 replace hP : Hid (Sp w [] w [] [(bg,24, #[.pointer og])] [(3,1, .slice A0 pn c0,pn,lo.flatMap encI)] y2) := hide ((unhide hP).addRow hxc hs0)
 have hpn' := hide hpn
 have hpo' := hide (show po = if pb = true then some lo else none by rw [hpb,hlo]; cases po <;> rfl)
 clear hxc hpc hpb hlo hpn hs0
 refine wpO_val rfl (run_move rfl rfl) ?_
 go_frame
 refine wpO_val rfl (run_extract (i := 0) (v := .slice A0 pn c0) rfl (unhide htu).symm rfl) ?_
 go_frame
 refine wpO_val rfl (run_extract (i := 1) (v := .bool pb) rfl (unhide htu).symm rfl) ?_
 go_frame
 iterate 2
  refine wpO_want rfl ?_
  go_simp
 refine wpO_done ?_
 try go_frame
 try dsimp only
 repeat ((fail_if_success (with_reducible refine wp_reg (id := 2) ?_)); (first | go_values | go_skip | go_step | go_guarded | go_upon | go_in | go_back | fail))
 with_reducible refine wp_reg (id := 2) ?_
 iterate 2
  refine wpO_want rfl ?_
  go_simp
 refine wpO_done ?_
 try go_frame
 clear htu
 cases pb
 ·-- not chordal
  have hpz : po = none := by have h := unhide hpo'; rw [if_neg (by simp)] at h; exact h
  have hpz' := hide hpz
  clear hpz
  try dsimp only
  repeat ((fail_if_success (with_reducible refine wp_reg (id := 3) ?_)); (first | go_values | go_skip | go_step | go_guarded | go_upon | go_in | go_back | fail))
  with_reducible refine wp_reg (id := 3) ?_
  iterate 3
   refine wpO_want rfl ?_
   go_simp
  refine wpO_done ?_
  try go_frame
  go_wp2_with fail
  refine (unhide hP).leaves ?_
  intro w' hx hst
  refine ⟨_,results_tmp3 (t := 2) (u := 3) (v := 4) rfl _ _ _, ?_⟩
  rw [unhide hpz']
  exact CoPost.none hx
 ·-- chordal
  have hpz : po = some lo := by have h := unhide hpo'; rw [if_pos rfl] at h; exact h
  have hpz' := hide hpz
  obtain ⟨hlen,hlr2⟩ := unhide hlr lo hpz
  have hlen' := hide hlen
  have hlr' := hide hlr2
  clear hpo' hlr hlen hlr2 hpz
  try dsimp only
  repeat ((fail_if_success (with_reducible refine wp_reg (id := 4) ?_)); (first | go_values | go_skip | go_step | go_guarded | go_upon | go_in | go_back | fail))
  with_reducible refine wp_reg (id := 4) ?_
  refine (unhide hP).mapNewO 96 0 rfl (run_makeMapO rfl) ?_
  intro bm y3 hQ
  replace hP : Hid (Sp w [] w [] [(bg,24, #[.pointer og])] [(3,1, .slice A0 pn c0,pn,lo.flatMap encI),(96,0, .map (some bm),0,[])] y3) := hide hQ
  clear hQ
  go_frame
  refine (unhide hP).allocO 96 #[.map none] rfl (by go_simp) ?_
  intro b7 y4 hQ
  replace hP : Hid (Sp w [] w [] [(bg,24, #[.pointer og]),(b7,96, #[.map none])] [(3,1, .slice A0 pn c0,pn,lo.flatMap encI),(96,0, .map (some bm),0,[])] y4) := hide hQ
  clear hQ
  refine (unhide hP).setO 1 #[.map (some bm)] rfl rfl (fun hb => run_store_row (v := .map (some bm)) rfl rfl rfl (by simp [go_sem]) hb rfl (by simp [Value.cells,Value.oneCell'])) ?_
  intro y5 hQ
  replace hP : Hid (Sp w [] w [] [(bg,24, #[.pointer og]),(b7,96, #[.map (some bm)])] [(3,1, .slice A0 pn c0,pn,lo.flatMap encI),(96,0, .map (some bm),0,[])] y5) := hide hQ
  clear hQ
  refine wpO_done ?_
  try go_frame
  try dsimp only
  repeat ((fail_if_success (with_reducible refine wp_reg (id := 5) ?_)); (first | go_values | go_skip | go_step | go_guarded | go_upon | go_in | go_back | fail))
  with_reducible refine wp_reg (id := 5) ?_
  refine (unhide hP).allocO 3 #[.int .i64 0] rfl (by go_simp) ?_
  intro b8 y6 hQ
  replace hP : Hid (Sp w [] w [] [(bg,24, #[.pointer og]),(b7,96, #[.map (some bm)]),(b8,3, #[.int .i64 0])] [(3,1, .slice A0 pn c0,pn,lo.flatMap encI),(96,0, .map (some bm),0,[])] y6) := hide hQ
  clear hQ
  refine (unhide hP).setO 2 #[.int .i64 0] rfl rfl (fun hb => run_store_row (v := .int .i64 0) rfl rfl rfl (by simp [go_sem]) hb rfl (by simp [Value.cells,Value.oneCell'])) ?_
  intro y7 hQ
  replace hP : Hid (Sp w [] w [] [(bg,24, #[.pointer og]),(b7,96, #[.map (some bm)]),(b8,3, #[.int .i64 0])] [(3,1, .slice A0 pn c0,pn,lo.flatMap encI),(96,0, .map (some bm),0,[])] y7) := hide hQ
  clear hQ
  refine wpO_done ?_
  try go_frame
  try dsimp only
  repeat ((fail_if_success (with_reducible refine wp_reg (id := 6) ?_)); (first | go_values | go_skip | go_step | go_guarded | go_upon | go_in | go_back | fail))
  with_reducible refine wp_reg (id := 6) ?_
  refine wpO_val rfl (run_move rfl rfl) ?_
  go_frame
  refine wpO_want rfl ?_
  go_simp
  refine (back_ext A0 pn c0 _).mono ?_
  rintro _ y8 ⟨bN,rfl,hBN0,hxc,hgeN⟩
  refine ⟨_,rfl, ?_⟩
  have hbN := hide (show bN ∉ stT [(bg,24, #[.pointer og]),(b7,96, #[.map (some bm)]),(b8,3, #[.int .i64 0])] [(3,1, .slice A0 pn c0,pn,lo.flatMap encI),(96,0, .map (some bm),0,[])] from fun hm => absurd ((unhide hP).lt bN hm) (Nat.not_lt.2 hgeN))
  obtain ⟨hPo,hslo,hexo⟩ := Sp.outRow ((unhide hP).ext hxc) (unhide hpn')
  replace hP : Hid (Sp w [] w [] [(bg,24, #[.pointer og]),(b7,96, #[.map (some bm)]),(b8,3, #[.int .i64 0])] [(96,0, .map (some bm),0,[])] y8) := hide hPo
  have hBN := hide hBN0
  have hslo' := hide hslo
  have hex' := hide (show ∀ b ∈ bN :: exA A0 lo,b < y8.heap.size ∧ b ∉ stT [(bg,24, #[.pointer og]),(b7,96, #[.map (some bm)]),(b8,3, #[.int .i64 0])] [(96,0, .map (some bm),0,[])] from fun b hb => by
   rcases List.mem_cons.1 hb with rfl | hb
   ·exact ⟨hBN0.lt,fun hm => unhide hbN (stT_sub (List.Sublist.refl _) (List.sublist_cons_self _ _) _ hm)⟩
   ·exact hexo b hb)
  clear hxc hBN0 hgeN hbN hPo hslo hexo
  refine wpO_done ?_
  try go_frame
  go_wp2_with fail
  refine wp_rngS (gf := 84) (lb := #[.pointer (some ⟨bN,0,none⟩)]) (unhide hP) rfl (enters_of Tryz.func84 (by kernel_rfl) rfl) (ex := bN :: exA A0 lo) (unhide hex') (exA_n (unhide hpn') (unhide hBN) (unhide hslo') (by have := unhide hlen'; omega)) (fun _ => rfl)
   (fun pre L' Rs' => L' = [(bg,24, #[.pointer og]),(b7,96, #[.map (some bm)]),(b8,3, #[.int .i64 ((pre.map (·.2)).foldl (colStep E) ([],0)).2])] ∧ Rs' = [(96,0, .map (some bm),0,mapXs ekV evJ ((pre.map (·.2)).foldl (colStep E) ([],0)).1)])
   (fun _ _ _ => False)
   (fun tm _ (x : Int × Int) a1 _ => a1 = ⟨((tm.setIfInBounds 28 (.int .i64 x.1)).setIfInBounds 29 (.int .i64 x.2)).setIfInBounds 10 (.int .i64 x.2),[]⟩)
   (fun _ _ _ _ _ h _ => h) ⟨rfl,rfl⟩ ?_ ?_ ?_ ?_
  ·intro T' x W' K hlt' hsz hK
   have hK' := hide hK
   clear hK hlt' hsz
   rw [zip2]
   simp only [List.setIfInBounds_toArray,List.set_cons_succ,List.set_cons_zero]
   try dsimp only
   repeat ((fail_if_success (with_reducible refine wpI_reg (id := 7) (by kernel_rfl) ?_)); (first | go_values | gi_step | gi_guarded | gi_upon | gi_in | gi_back | fail))
   with_reducible refine wpI_reg (id := 7) (by kernel_rfl) ?_
   refine wpO_want rfl ?_
   go_simp
   refine wpO_done ?_
   try go_frame
   exact unhide hK' _ _ rfl (Ext.refl _)
  ·rintro l pre ⟨ix,v⟩ a1 L' Rs' W' ⟨rfl,rfl⟩ hB0 rfl hpx hl hkW htW
   simp only [List.setIfInBounds_toArray,List.set_cons_succ,List.set_cons_zero]
   obtain ⟨hv0,hpr⟩ := pre_rng (unhide hlr') hpx
   have hcb := ColB.fold (E := E) (pre.map (·.2)) ([],0) ColB.start hpr
   obtain ⟨st,hst⟩ : ∃ st,st = ((pre.map (·.2)).foldl (colStep E) ([],0)) := ⟨_,rfl⟩
   rw [← hst] at hB0 hcb
   have hst' := hide hst
   obtain ⟨M,many⟩ := st
   simp only at hB0 hv0
   have hMok := hide hcb.ok
   have hcb' := hide hcb
   have hv0' := hide hv0
   have hl' := hide hl
   have hB : Hid (Sp w (stT [(bg,24, #[.pointer og]),(b7,96, #[.map (some bm)]),(b8,3, #[.int .i64 many])] [(96,0, .map (some bm),0,mapXs ekV evJ M)]) W' [] [(bg,24, #[.pointer og]),(b7,96, #[.map (some bm)]),(b8,3, #[.int .i64 many])] [(96,0, .map (some bm),0,mapXs ekV evJ M)] W') := hide hB0
   have hsW := hide hB0.st
   clear hB0 hst hpx hl hkW htW hpr hv0 hcb
   try dsimp only
   repeat ((fail_if_success (with_reducible refine wpI_reg (id := 8) (by kernel_rfl) ?_)); (first | go_values | gi_step | gi_guarded | gi_upon | gi_in | gi_back | fail))
   with_reducible refine wpI_reg (id := 8) (by kernel_rfl) ?_
   refine (unhide hB).mapNewO 100 0 rfl (run_makeMapO rfl) ?_
   intro bt y9 hQ
   replace hB : Hid (Sp w (stT [(bg,24, #[.pointer og]),(b7,96, #[.map (some bm)]),(b8,3, #[.int .i64 many])] [(96,0, .map (some bm),0,mapXs ekV evJ M)]) W' [] [(bg,24, #[.pointer og]),(b7,96, #[.map (some bm)]),(b8,3, #[.int .i64 many])] [(96,0, .map (some bm),0,mapXs ekV evJ M),(100,0, .map (some bt),0,[])] y9) := hide hQ
   clear hQ
   go_frame
   refine (unhide hB).allocO 100 #[.map none] rfl (by go_simp) ?_
   intro b11 y10 hQ
   replace hB : Hid (Sp w (stT [(bg,24, #[.pointer og]),(b7,96, #[.map (some bm)]),(b8,3, #[.int .i64 many])] [(96,0, .map (some bm),0,mapXs ekV evJ M)]) W' [] [(bg,24, #[.pointer og]),(b7,96, #[.map (some bm)]),(b8,3, #[.int .i64 many]),(b11,100, #[.map none])] [(96,0, .map (some bm),0,mapXs ekV evJ M),(100,0, .map (some bt),0,[])] y10) := hide hQ
   clear hQ
   refine (unhide hB).setO 3 #[.map (some bt)] rfl rfl (fun hb => run_store_row (v := .map (some bt)) rfl rfl rfl (by simp [go_sem]) hb rfl (by simp [Value.cells,Value.oneCell'])) ?_
   intro y11 hQ
   replace hB : Hid (Sp w (stT [(bg,24, #[.pointer og]),(b7,96, #[.map (some bm)]),(b8,3, #[.int .i64 many])] [(96,0, .map (some bm),0,mapXs ekV evJ M)]) W' [] [(bg,24, #[.pointer og]),(b7,96, #[.map (some bm)]),(b8,3, #[.int .i64 many]),(b11,100, #[.map (some bt)])] [(96,0, .map (some bm),0,mapXs ekV evJ M),(100,0, .map (some bt),0,[])] y11) := hide hQ
   clear hQ
   refine wpO_done ?_
   try go_frame
   try dsimp only
   repeat ((fail_if_success (with_reducible refine wpI_reg (id := 9) (by kernel_rfl) ?_)); (first | go_values | gi_step | gi_guarded | gi_upon | gi_in | gi_back | fail))
   with_reducible refine wpI_reg (id := 9) (by kernel_rfl) ?_
   refine wpO_val rfl (load_V (v := .pointer og) rfl rfl (by simp [go_sem]) (((unhide hB).get 0 rfl).cell 0)) ?_
   go_frame
   refine wpO_val rfl (run_move rfl rfl) ?_
   go_frame
   refine wpO_want rfl ?_
   go_simp
   refine (nearG og V E v _ ((unhide hg').ext (unhide hB).extf)).mono ?_
   rintro _ y12 ⟨rfl,hxc⟩
   refine ⟨_,rfl, ?_⟩
   replace hB : Hid (Sp w (stT [(bg,24, #[.pointer og]),(b7,96, #[.map (some bm)]),(b8,3, #[.int .i64 many])] [(96,0, .map (some bm),0,mapXs ekV evJ M)]) W' [] [(bg,24, #[.pointer og]),(b7,96, #[.map (some bm)]),(b8,3, #[.int .i64 many]),(b11,100, #[.map (some bt)])] [(96,0, .map (some bm),0,mapXs ekV evJ M),(100,0, .map (some bt),0,[])] y12) := hide ((unhide hB).ext hxc)
   clear hxc
   refine wpO_want rfl ?_
   go_simp
   refine (all_ext (nearS v E) _).mono ?_
   rintro _ y13 ⟨bi,rfl,hBa0,hxc⟩
   refine ⟨_,rfl, ?_⟩
   replace hB : Hid (Sp w (stT [(bg,24, #[.pointer og]),(b7,96, #[.map (some bm)]),(b8,3, #[.int .i64 many])] [(96,0, .map (some bm),0,mapXs ekV evJ M)]) W' [] [(bg,24, #[.pointer og]),(b7,96, #[.map (some bm)]),(b8,3, #[.int .i64 many]),(b11,100, #[.map (some bt)])] [(96,0, .map (some bm),0,mapXs ekV evJ M),(100,0, .map (some bt),0,[])] y13) := hide ((unhide hB).ext hxc)
   have hBa := hide hBa0
   clear hxc hBa0
   refine wpO_done ?_
   try go_frame
   gi_wp2_with fail
   refine wpI_rngS ((unhide hB).loop (unhide hsW) (unhide hl')) (gf := 78) (lb := #[.pointer (some ⟨bi,0,none⟩)]) (unhide hB) rfl (enters_of Tryz.func78 (by kernel_rfl) rfl) (ex := [0]) ((unhide hB).tab (unhide hT')) (all_iter (nearS v E) bi y13 (unhide hBa) ((unhide hT').ext (unhide hB).extf)) (fun _ => rfl)
    (fun pre2 L' Rs' => L' = [(bg,24, #[.pointer og]),(b7,96, #[.map (some bm)]),(b8,3, #[.int .i64 many]),(b11,100, #[.map (some bt)])] ∧ Rs' = [(96,0, .map (some bm),0,mapXs ekV evJ M),(100,0, .map (some bt),0,mapXs ekV evB (tkM M pre2))])
    (fun _ _ _ => False)
    (fun tm _ u a1 _ => a1 = ⟨(tm.setIfInBounds 35 (.int .i64 u)).setIfInBounds 12 (.int .i64 u),[]⟩)
    (fun _ _ _ _ _ h _ => h) ⟨rfl,rfl⟩ ?_ ?_ ?_ ?_
   ·intro T' u W' K hlt' hsz hK
    have hK' := hide hK
    have hlt2 := hide hlt'
    have hsz2 := hide hsz
    clear hK hlt' hsz
    rw [zip1]
    simp only [List.setIfInBounds_toArray,List.set_cons_succ,List.set_cons_zero]
    try dsimp only
    repeat ((fail_if_success (with_reducible refine wpI_reg (id := 10) (by kernel_rfl) ?_)); (first | go_values | gi_step | gi_guarded | gi_upon | gi_in | gi_back | fail))
    with_reducible refine wpI_reg (id := 10) (by kernel_rfl) ?_
    refine wpO_want rfl ?_
    go_simp
    refine wpO_done ?_
    try go_frame
    exact unhide hK' _ _ rfl (Ext.refl _)
   ·rintro l2 pre2 u a1 L' Rs' W2 ⟨rfl,rfl⟩ hC0 rfl hpx hl2 hkW htW
    simp only [List.setIfInBounds_toArray,List.set_cons_succ,List.set_cons_zero]
    have hu0 := hide (okK ⟨(mem_toL'.1 (hpx.subset (by simp) : u ∈ toL (nearS v E))).1,(mem_toL'.1 (hpx.subset (by simp) : u ∈ toL (nearS v E))).2.1⟩)
    have htok := hide (tk_ok (M := M) (fun p hp => ⟨((unhide hcb').m p hp).2.2.1,((unhide hcb').m p hp).2.2.2⟩) pre2)
    have hC : Hid (Sp w (stT [(bg,24, #[.pointer og]),(b7,96, #[.map (some bm)]),(b8,3, #[.int .i64 many]),(b11,100, #[.map (some bt)])] [(96,0, .map (some bm),0,mapXs ekV evJ M),(100,0, .map (some bt),0,mapXs ekV evB (tkM M pre2))]) W2 [] [(bg,24, #[.pointer og]),(b7,96, #[.map (some bm)]),(b8,3, #[.int .i64 many]),(b11,100, #[.map (some bt)])] [(96,0, .map (some bm),0,mapXs ekV evJ M),(100,0, .map (some bt),0,mapXs ekV evB (tkM M pre2))] W2) := hide hC0
    clear hC0 hpx hl2 hkW htW
    obtain ⟨q,hq⟩ : ∃ q,lookM M u = q := ⟨_,rfl⟩
    have hq' := hide hq
    try dsimp only
    repeat ((fail_if_success (with_reducible refine wpI_reg (id := 11) (by kernel_rfl) ?_)); (first | go_values | gi_step | gi_guarded | gi_upon | gi_in | gi_back | fail))
    with_reducible refine wpI_reg (id := 11) (by kernel_rfl) ?_
    refine wpO_val rfl (load_V (v := .map (some bm)) rfl rfl (by simp [go_sem]) (((unhide hC).get 1 rfl).cell 0)) ?_
    go_frame
    refine wpO_val rfl (run_move rfl rfl) ?_
    go_frame
    refine (unhide hC).look2O 0 (m := M) rfl (unhide hMok) rfl keV Tryz.underlying96 (zeroJ _) (unhide hu0) rfl rfl rfl ?_
    rw [hq]
    clear hq
    generalize htu0 : Value.tuple _ = tu
    have htu := hide htu0
    clear htu0
    go_frame
    refine wpO_val rfl (run_move rfl rfl) ?_
    go_frame
    refine wpO_val rfl (run_extract (i := 0) (v := .int .i64 (q.getD 0)) rfl (unhide htu).symm rfl) ?_
    go_frame
    refine wpO_val rfl (run_extract (i := 1) (v := .bool q.isSome) rfl (unhide htu).symm rfl) ?_
    go_frame
    iterate 2
     refine wpO_want rfl ?_
     go_simp
    refine wpO_done ?_
    try go_frame
    try dsimp only
    repeat ((fail_if_success (with_reducible refine wpI_reg (id := 12) (by kernel_rfl) ?_)); (first | go_values | gi_step | gi_guarded | gi_upon | gi_in | gi_back | fail))
    with_reducible refine wpI_reg (id := 12) (by kernel_rfl) ?_
    refine wpO_want rfl ?_
    go_simp
    refine wpO_done ?_
    try go_frame
    clear htu
    cases q with
    | none =>
     simp only [Option.isSome_none,Option.getD_none]
     gi_wp2_with fail
     exact ⟨_,_,⟨rfl,by rw [tk_none (unhide hq')]⟩,unhide hC⟩
    | some cl =>
     simp only [Option.isSome_some,Option.getD_some]
     have hcl := hide (show i64ok cl by obtain ⟨p,hp,rfl⟩ := look_mem (unhide hq'); have := (unhide hcb').m p hp; unfold i64ok; omega)
     try dsimp only
     repeat ((fail_if_success (with_reducible refine wpI_reg (id := 13) (by kernel_rfl) ?_)); (first | go_values | gi_step | gi_guarded | gi_upon | gi_in | gi_back | fail))
     with_reducible refine wpI_reg (id := 13) (by kernel_rfl) ?_
     refine wpO_val rfl (load_V (v := .map (some bt)) rfl rfl (by simp [go_sem]) (((unhide hC).get 3 rfl).cell 0)) ?_
     go_frame
     refine wpO_val rfl (run_move rfl rfl) ?_
     go_frame
     refine (unhide hC).mapPutO 1 (m := (tkM M pre2)) (ek := ekV) (ev := evB) rfl (unhide htok) rfl keV Tryz.underlying100 (x := cl) (unhide hcl) true rfl rfl rfl rfl 0 ?_
     intro y19 hQ
     replace hC : Hid (Sp w (stT [(bg,24, #[.pointer og]),(b7,96, #[.map (some bm)]),(b8,3, #[.int .i64 many]),(b11,100, #[.map (some bt)])] [(96,0, .map (some bm),0,mapXs ekV evJ M),(100,0, .map (some bt),0,mapXs ekV evB (tkM M pre2))]) W2 [] [(bg,24, #[.pointer og]),(b7,96, #[.map (some bm)]),(b8,3, #[.int .i64 many]),(b11,100, #[.map (some bt)])] [(96,0, .map (some bm),0,mapXs ekV evJ M),(100,0, .map (some bt),0,mapXs ekV evB (putM (tkM M pre2) cl true))] y19) := hide hQ
     clear hQ
     go_frame
     refine wpO_done ?_
     try go_frame
     gi_wp2_with fail
     exact ⟨_,_,⟨rfl,by rw [tk_some (unhide hq')]⟩,unhide hC⟩
   ·rintro L' Rs' W2 ⟨rfl,rfl⟩ hkW hP2
    have hC : Hid (Sp w (stT [(bg,24, #[.pointer og]),(b7,96, #[.map (some bm)]),(b8,3, #[.int .i64 many])] [(96,0, .map (some bm),0,mapXs ekV evJ M)]) W' [] [(bg,24, #[.pointer og]),(b7,96, #[.map (some bm)]),(b8,3, #[.int .i64 many]),(b11,100, #[.map (some bt)])] [(96,0, .map (some bm),0,mapXs ekV evJ M),(100,0, .map (some bt),0,mapXs ekV evB (tkM M (toL (nearS v E))))] W2) := hide hP2
    have hTl := hide (show ∀ c,(lookM (tkM M (toL (nearS v E))) c).getD false = decide (c ∈ takenS E M v) from fun c => look_tk M (toL (nearS v E)) c)
    have htok := hide (tk_ok (M := M) (fun p hp => ⟨((unhide hcb').m p hp).2.2.1,((unhide hcb').m p hp).2.2.2⟩) (toL (nearS v E)))
    have hms := hide (mex_spec (takenS E M v))
    have hml := hide (show 0 ≤ mexL (takenS E M v) ∧ mexL (takenS E M v) ≤ 1024 by have h1 := mex_le (takenS E M v); have h2 := taken_len E M v; omega)
    obtain ⟨mx,hmx⟩ : ∃ mx,mx = mexL (takenS E M v) := ⟨_,rfl⟩
    rw [← hmx] at hms hml
    have hmx' := hide hmx
    obtain ⟨tk,htk⟩ : ∃ tk,tk = tkM M (toL (nearS v E)) := ⟨_,rfl⟩
    rw [← htk] at hC hTl htok
    clear hkW hP2 hB hmx htk
    try dsimp only
    repeat ((fail_if_success (with_reducible refine wpI_reg (id := 14) (by kernel_rfl) ?_)); (first | go_values | gi_step | gi_guarded | gi_upon | gi_in | gi_back | fail))
    with_reducible refine wpI_reg (id := 14) (by kernel_rfl) ?_
    refine wpO_want rfl ?_
    go_simp
    refine wpO_done ?_
    try go_frame
    gi_wp2_with fail
    refine wpI_loop_ix (fun f a' wr => ∃ (k : Int),a'.tmps.size = 69 ∧ a'.tmps.getD 7 undef = .pointer (some ⟨b7,0,none⟩) ∧ a'.tmps.getD 8 undef = .pointer (some ⟨b8,0,none⟩) ∧ a'.tmps.getD 10 undef = .int .i64 v ∧ a'.tmps.getD 11 undef = .pointer (some ⟨b11,0,none⟩) ∧ a'.tmps.getD 15 undef = .int .i64 k ∧ a'.defers = [] ∧ 0 ≤ k ∧ k ≤ mx ∧ Sp w (stT [(bg,24, #[.pointer og]),(b7,96, #[.map (some bm)]),(b8,3, #[.int .i64 many])] [(96,0, .map (some bm),0,mapXs ekV evJ M)]) W' [] [(bg,24, #[.pointer og]),(b7,96, #[.map (some bm)]),(b8,3, #[.int .i64 many]),(b11,100, #[.map (some bt)])] [(96,0, .map (some bm),0,mapXs ekV evJ M),(100,0, .map (some bt),0,mapXs ekV evB tk)] wr ∧ f = (mx - k).toNat) ((mx - 0).toNat) ?_ ?_
    ·exact ⟨0,rfl,rfl,rfl,rfl,rfl,rfl,rfl,Int.le_refl _,(unhide hml).1,unhide hC,rfl⟩
    ·rintro f ⟨tm,dfs⟩ wr ⟨k,hsz,e7,e8,e10,e11,e15,hdf,hk0,hk1,hCr,hfm⟩
     obtain ⟨us,rfl⟩ : ∃ us : Nat → Value,tm = #[us 0,us 1,us 2,us 3,us 4,us 5,us 6,us 7,us 8,us 9,us 10,us 11,us 12,us 13,us 14,us 15,us 16,us 17,us 18,us 19,us 20,us 21,us 22,us 23,us 24,us 25,us 26,us 27,us 28,us 29,us 30,us 31,us 32,us 33,us 34,us 35,us 36,us 37,us 38,us 39,us 40,us 41,us 42,us 43,us 44,us 45,us 46,us 47,us 48,us 49,us 50,us 51,us 52,us 53,us 54,us 55,us 56,us 57,us 58,us 59,us 60,us 61,us 62,us 63,us 64,us 65,us 66,us 67,us 68] := ⟨fun i => tm.getD i undef,arr_fn hsz⟩
     have h7 : us 7 = .pointer (some ⟨b7,0,none⟩) := e7
     have h8 : us 8 = .pointer (some ⟨b8,0,none⟩) := e8
     have h10 : us 10 = .int .i64 v := e10
     have h11 : us 11 = .pointer (some ⟨b11,0,none⟩) := e11
     have h15 : us 15 = .int .i64 k := e15
     have hdf2 : dfs = [] := hdf
     subst hdf2
     clear hdf hsz e7 e8 e10 e11 e15
     simp only [h7,h8,h10,h11,h15]
     clear h7 h8 h10 h11 h15
     clear hC
     have hC : Hid (Sp w (stT [(bg,24, #[.pointer og]),(b7,96, #[.map (some bm)]),(b8,3, #[.int .i64 many])] [(96,0, .map (some bm),0,mapXs ekV evJ M)]) W' [] [(bg,24, #[.pointer og]),(b7,96, #[.map (some bm)]),(b8,3, #[.int .i64 many]),(b11,100, #[.map (some bt)])] [(96,0, .map (some bm),0,mapXs ekV evJ M),(100,0, .map (some bt),0,mapXs ekV evB tk)] wr) := hide hCr
     have hkb := hide (show 0 ≤ k ∧ k ≤ mx from ⟨hk0,hk1⟩)
     have hkok := hide (show i64ok k by have := (unhide hml).2; unfold i64ok; omega)
     have htlk := hide (unhide hTl k)
     have hfm' := hide hfm
     clear hCr hk0 hk1 hTl hfm
     obtain ⟨tb,htb⟩ : ∃ tb,tb = (lookM tk k).getD false := ⟨_,rfl⟩
     have htb' := hide htb
     clear htb
     try dsimp only
     repeat ((fail_if_success (with_reducible refine wpI_reg (id := 15) (by kernel_rfl) ?_)); (first | go_values | gi_step | gi_guarded | gi_upon | gi_in | gi_back | fail))
     with_reducible refine wpI_reg (id := 15) (by kernel_rfl) ?_
     refine wpO_val rfl (load_V (v := .map (some bt)) rfl rfl (by simp [go_sem]) (((unhide hC).get 3 rfl).cell 0)) ?_
     go_frame
     refine wpO_want rfl ?_
     go_simp
     refine (unhide hC).look1O 1 (m := tk) (ek := ekV) (ev := evB) rfl (unhide htok) rfl keV Tryz.underlying100 (zeroB _) (unhide hkok) rfl rfl rfl ?_
     rw [← unhide htb']
     simp only [evB]
     go_frame
     refine wpO_done ?_
     try go_frame
     cases tb
     ·-- free
      have hkm : k = mx := by
       have h1 := unhide htb'
       have h2 := unhide htlk
       rw [← h1] at h2
       have h3 : k ∉ takenS E M v := fun hm => by rw [decide_eq_true hm] at h2; cases h2
       have h4 := (unhide hms).2.2 k (unhide hkb).1
       have h5 := (unhide hkb).2
       rcases Int.lt_or_eq_of_le h5 with h6 | h6
       ·exact absurd (h4 h6) h3
       ·exact h6
      subst hkm
      clear htb' htlk
      try dsimp only
      repeat ((fail_if_success (with_reducible refine wpI_reg (id := 17) (by kernel_rfl) ?_)); (first | go_values | gi_step | gi_guarded | gi_upon | gi_in | gi_back | fail))
      with_reducible refine wpI_reg (id := 17) (by kernel_rfl) ?_
      refine wpO_val rfl (load_V (v := .map (some bm)) rfl rfl (by simp [go_sem]) (((unhide hC).get 1 rfl).cell 0)) ?_
      go_frame
      refine wpO_val rfl (run_move rfl rfl) ?_
      go_frame
      refine wpO_val rfl (run_move rfl rfl) ?_
      go_frame
      refine (unhide hC).mapPutO 0 (m := M) (ek := ekV) (ev := evJ) rfl (unhide hMok) rfl keV Tryz.underlying96 (x := v) (okK (unhide hv0')) k rfl rfl rfl rfl 0 ?_
      intro y34 hQ
      replace hC : Hid (Sp w (stT [(bg,24, #[.pointer og]),(b7,96, #[.map (some bm)]),(b8,3, #[.int .i64 many])] [(96,0, .map (some bm),0,mapXs ekV evJ M)]) W' [] [(bg,24, #[.pointer og]),(b7,96, #[.map (some bm)]),(b8,3, #[.int .i64 many]),(b11,100, #[.map (some bt)])] [(96,0, .map (some bm),0,mapXs ekV evJ (putM M v k)),(100,0, .map (some bt),0,mapXs ekV evB tk)] y34) := hide hQ
      clear hQ
      go_frame
      refine wpO_done ?_
      try go_frame
      try dsimp only
      repeat ((fail_if_success (with_reducible refine wpI_reg (id := 18) (by kernel_rfl) ?_)); (first | go_values | gi_step | gi_guarded | gi_upon | gi_in | gi_back | fail))
      with_reducible refine wpI_reg (id := 18) (by kernel_rfl) ?_
      have hw1 : IntKind.i64.wrap (k + 1) = k + 1 := IntWalk.i64_in _ (by have := unhide hml; omega)
      refine wpO_val rfl (load_V (v := .int .i64 many) rfl rfl (by simp [go_sem]) (((unhide hC).get 2 rfl).cell 0)) ?_
      go_frame
      iterate 3
       refine wpO_want rfl ?_
       go_simp
      refine (unhide hC).setO 2 #[.int .i64 (max many (k + 1))] rfl rfl (fun hb => run_store_row (v := .int .i64 (max many (k + 1))) rfl rfl rfl (by simp [go_sem]) hb rfl (by simp [Value.cells,Value.oneCell'])) ?_
      intro y35 hQ
      replace hC : Hid (Sp w (stT [(bg,24, #[.pointer og]),(b7,96, #[.map (some bm)]),(b8,3, #[.int .i64 many])] [(96,0, .map (some bm),0,mapXs ekV evJ M)]) W' [] [(bg,24, #[.pointer og]),(b7,96, #[.map (some bm)]),(b8,3, #[.int .i64 (max many (k + 1))]),(b11,100, #[.map (some bt)])] [(96,0, .map (some bm),0,mapXs ekV evJ (putM M v k)),(100,0, .map (some bt),0,mapXs ekV evB tk)] y35) := hide hQ
      clear hQ
      refine wpO_done ?_
      try go_frame
      gi_wp2_with fail
      have hnew : (List.map (·.2) (pre ++ [(ix,v)])).foldl (colStep E) ([],0) = (putM M v k,max many (k + 1)) := by
       rw [List.map_append,List.foldl_append, ← unhide hst']
       show colStep E (M,many) v = _
       unfold colStep
       rw [← unhide hmx']
      exact ⟨_,_,⟨by rw [hnew],by rw [hnew]⟩,(unhide hC).sub (List.sublist_append_left _ ([(b11,_,_)] : List Cl)) (List.sublist_append_left _ ([_] : List Rw))⟩
     ·-- taken
      have hkm : k + 1 ≤ mx := by
       have h1 := unhide htb'
       have h2 := unhide htlk
       rw [← h1] at h2
       have h3 : k ∈ takenS E M v := of_decide_eq_true h2.symm
       have h5 := (unhide hkb).2
       rcases Int.lt_or_eq_of_le h5 with h6 | h6
       ·omega
       ·exact absurd (h6 ▸ h3) (unhide hms).2.1
      have hkm' := hide hkm
      have hkl0 : 0 ≤ k := (unhide hkb).1
      have hkl : k ≤ 1024 := by have := unhide hml; have := unhide hkb; omega
      clear htb' htlk hkm
      have hw1 : IntKind.i64.wrap (k + 1) = k + 1 := IntWalk.i64_in _ (by omega)
      try dsimp only
      repeat ((fail_if_success (with_reducible refine wpI_reg (id := 16) (by kernel_rfl) ?_)); (first | go_values | gi_step | gi_guarded | gi_upon | gi_in | gi_back | fail))
      with_reducible refine wpI_reg (id := 16) (by kernel_rfl) ?_
      iterate 3
       refine wpO_want rfl ?_
       go_simp
      refine wpO_done ?_
      try go_frame
      gi_wp2_with fail
      have h1 := unhide hkm'
      have h2 := unhide hkb
      have h3 := unhide hfm'
      exact ⟨(mx - (k + 1)).toNat,⟨k + 1,(by first | rfl | trivial),(by first | rfl | trivial),(by first | rfl | trivial),(by first | rfl | trivial),(by first | rfl | trivial),(by first | rfl | trivial),(by first | rfl | trivial),by omega,h1,unhide hC,(by first | rfl | trivial)⟩,by omega⟩
   ·intro c L' Rs' W2 h
    exact h.elim
  ·rintro D L' Rs' W' ⟨rfl,rfl⟩ hkW hP0
   generalize ({ target := .collected D,args := #[] } :: [] : List Deferred) = ds2 at hP0 ⊢
   rw [bwL_snd] at hP0
   have hcb := ColB.fold (E := E) lo.reverse ([],0) ColB.start (fun x hx => unhide hlr' x (by simpa using hx))
   obtain ⟨st,hst⟩ : ∃ st,st = lo.reverse.foldl (colStep E) ([],0) := ⟨_,rfl⟩
   rw [← hst] at hP0 hcb
   have hst' := hide (show colS E lo = st from hst.symm)
   clear hst
   obtain ⟨M,many⟩ := st
   simp only at hP0
   have hMok := hide hcb.ok
   clear hkW hP hBN hslo' hex' hcb
   have hP : Hid (Sp w [] w ds2 [(bg,24, #[.pointer og]),(b7,96, #[.map (some bm)]),(b8,3, #[.int .i64 many])] [(96,0, .map (some bm),0,mapXs ekV evJ M)] W') := hide hP0
   clear hP0
   try dsimp only
   repeat ((fail_if_success (with_reducible refine wp_reg (id := 19) ?_)); (first | go_values | go_skip | go_step | go_guarded | go_upon | go_in | go_back | fail))
   with_reducible refine wp_reg (id := 19) ?_
   refine (unhide hP).allocO 31 #[.slice none 0 0] rfl (by go_simp) ?_
   intro b16 y69 hQ
   replace hP : Hid (Sp w [] w ds2 [(bg,24, #[.pointer og]),(b7,96, #[.map (some bm)]),(b8,3, #[.int .i64 many]),(b16,31, #[.slice none 0 0])] [(96,0, .map (some bm),0,mapXs ekV evJ M)] y69) := hide hQ
   clear hQ
   refine wpO_done ?_
   try go_frame
   replace hP : Hid (Sp w [] w ds2 [(bg,24, #[.pointer og]),(b7,96, #[.map (some bm)]),(b8,3, #[.int .i64 many]),(b16,31, #[.slice none 0 0])] [(96,0, .map (some bm),0,mapXs ekV evJ M),(3,1, .slice none 0 0,0,[])] y69) := hide ((unhide hP).nil 3 1)
   try dsimp only
   repeat ((fail_if_success (with_reducible refine wp_reg (id := 20) ?_)); (first | go_values | go_skip | go_step | go_guarded | go_upon | go_in | go_back | fail))
   with_reducible refine wp_reg (id := 20) ?_
   refine wpO_val rfl (load_V (v := .pointer og) rfl rfl (by simp [go_sem]) (((unhide hP).get 0 rfl).cell 0)) ?_
   go_frame
   refine wpO_want rfl ?_
   go_simp
   refine (vsetG og V E _ ((unhide hg').ext (unhide hP).extf)).mono ?_
   rintro _ y70 ⟨rfl,hxc⟩
   refine ⟨_,rfl, ?_⟩
   replace hP : Hid (Sp w [] w ds2 [(bg,24, #[.pointer og]),(b7,96, #[.map (some bm)]),(b8,3, #[.int .i64 many]),(b16,31, #[.slice none 0 0])] [(96,0, .map (some bm),0,mapXs ekV evJ M),(3,1, .slice none 0 0,0,[])] y70) := hide ((unhide hP).ext hxc)
   clear hxc
   refine wpO_want rfl ?_
   go_simp
   refine (all_ext (vS V) _).mono ?_
   rintro _ y71 ⟨bi,rfl,hBa0,hxc⟩
   refine ⟨_,rfl, ?_⟩
   replace hP : Hid (Sp w [] w ds2 [(bg,24, #[.pointer og]),(b7,96, #[.map (some bm)]),(b8,3, #[.int .i64 many]),(b16,31, #[.slice none 0 0])] [(96,0, .map (some bm),0,mapXs ekV evJ M),(3,1, .slice none 0 0,0,[])] y71) := hide ((unhide hP).ext hxc)
   have hBa := hide hBa0
   clear hxc hBa0
   refine wpO_done ?_
   try go_frame
   go_wp2_with fail
   refine wp_rngS (gf := 78) (lb := #[.pointer (some ⟨bi,0,none⟩)]) (unhide hP) rfl (enters_of Tryz.func78 (by kernel_rfl) rfl) (ex := [0]) ((unhide hP).tab (unhide hT')) (all_iter (vS V) bi y71 (unhide hBa) ((unhide hT').ext (unhide hP).extf)) (fun _ => rfl)
    (fun pre L' Rs' => ∃ v6,L' = [(bg,24, #[.pointer og]),(b7,96, #[.map (some bm)]),(b8,3, #[.int .i64 many]),(b16,31, #[v6])] ∧ Rs' = [(96,0, .map (some bm),0,mapXs ekV evJ M),(3,1,v6,pre.length,(List.map (fun v => (lookM M v).getD 0) pre).flatMap encI)])
    (fun _ _ _ => False)
    (fun tm _ v a1 _ => a1 = ⟨(tm.setIfInBounds 60 (.int .i64 v)).setIfInBounds 17 (.int .i64 v),[]⟩)
    (fun _ _ _ _ _ h _ => h) ⟨.slice none 0 0,rfl,rfl⟩ ?_ ?_ ?_ ?_
   ·intro T' v W' K hlt' hsz hK
    have hK' := hide hK
    have hlt2 := hide hlt'
    have hsz2 := hide hsz
    clear hK hlt' hsz
    rw [zip1]
    simp only [List.setIfInBounds_toArray,List.set_cons_succ,List.set_cons_zero]
    try dsimp only
    repeat ((fail_if_success (with_reducible refine wpI_reg (id := 21) (by kernel_rfl) ?_)); (first | go_values | gi_step | gi_guarded | gi_upon | gi_in | gi_back | fail))
    with_reducible refine wpI_reg (id := 21) (by kernel_rfl) ?_
    refine wpO_want rfl ?_
    go_simp
    refine wpO_done ?_
    try go_frame
    exact unhide hK' _ _ rfl (Ext.refl _)
   ·rintro l pre v a1 L' Rs' W2 ⟨v6,rfl,rfl⟩ hB0 rfl hpx hl hkW htW
    simp only [List.setIfInBounds_toArray,List.set_cons_succ,List.set_cons_zero]
    obtain ⟨A6,c6,rfl⟩ := own_slice (hB0.row 1 rfl)
    have hv0' := hide (okK ⟨(mem_toL'.1 (hpx.subset (by simp) : v ∈ toL (vS V))).1,(mem_toL'.1 (hpx.subset (by simp) : v ∈ toL (vS V))).2.1⟩)
    have hn0 := hide (show pre.length ≤ 1024 by have := hpx.length_le; have h2 := toL_len_le (vS V); rw [List.length_append] at this; omega)
    obtain ⟨n,hn⟩ : ∃ n,n = pre.length := ⟨_,rfl⟩
    rw [← hn] at hB0 hn0 ⊢
    have hn' := hide hn
    have hB : Hid (Sp w (stT [(bg,24, #[.pointer og]),(b7,96, #[.map (some bm)]),(b8,3, #[.int .i64 many]),(b16,31, #[.slice A6 n c6])] [(96,0, .map (some bm),0,mapXs ekV evJ M),(3,1, .slice A6 n c6,n,(List.map (fun v => (lookM M v).getD 0) pre).flatMap encI)]) W2 [] [(bg,24, #[.pointer og]),(b7,96, #[.map (some bm)]),(b8,3, #[.int .i64 many]),(b16,31, #[.slice A6 n c6])] [(96,0, .map (some bm),0,mapXs ekV evJ M),(3,1, .slice A6 n c6,n,(List.map (fun v => (lookM M v).getD 0) pre).flatMap encI)] W2) := hide hB0
    clear hB0 hn hpx hl hkW htW
    try dsimp only
    repeat ((fail_if_success (with_reducible refine wpI_reg (id := 22) (by kernel_rfl) ?_)); (first | go_values | gi_step | gi_guarded | gi_upon | gi_in | gi_back | fail))
    with_reducible refine wpI_reg (id := 22) (by kernel_rfl) ?_
    refine wpO_val rfl (load_V (v := .slice A6 n c6) rfl rfl (by simp [go_sem]) (((unhide hB).get 3 rfl).cell 0)) ?_
    go_frame
    refine wpO_val rfl (load_V (v := .map (some bm)) rfl rfl (by simp [go_sem]) (((unhide hB).get 1 rfl).cell 0)) ?_
    go_frame
    refine wpO_val rfl (run_move rfl rfl) ?_
    go_frame
    obtain ⟨cv,hcv⟩ : ∃ cv,cv = (lookM M v).getD 0 := ⟨_,rfl⟩
    have hcv' := hide hcv
    refine (unhide hB).look1O 0 (m := M) (ek := ekV) (ev := evJ) rfl (unhide hMok) rfl keV Tryz.underlying96 (zeroJ _) (unhide hv0') rfl rfl rfl ?_
    rw [← hcv]
    clear hcv
    simp only [evJ]
    go_frame
    refine (unhide hB).build1O 3 #[.int .i64 cv] rfl (run_build1 rfl rfl) ?_
    intro bb y77 hQ
    replace hB : Hid (Sp w (stT [(bg,24, #[.pointer og]),(b7,96, #[.map (some bm)]),(b8,3, #[.int .i64 many]),(b16,31, #[.slice A6 n c6])] [(96,0, .map (some bm),0,mapXs ekV evJ M),(3,1, .slice A6 n c6,n,(List.map (fun v => (lookM M v).getD 0) pre).flatMap encI)]) W2 [] [(bg,24, #[.pointer og]),(b7,96, #[.map (some bm)]),(b8,3, #[.int .i64 many]),(b16,31, #[.slice A6 n c6]),(bb,3, #[.int .i64 cv])] [(96,0, .map (some bm),0,mapXs ekV evJ M),(3,1, .slice A6 n c6,n,(List.map (fun v => (lookM M v).getD 0) pre).flatMap encI)] y77) := hide hQ
    clear hQ
    go_frame
    refine (unhide hB).ap1O (enc := encI) (T := 3) (ST := 31) 1 (v := .slice A6 n c6) (m := n) (xs := List.map (fun v => (lookM M v).getD 0) pre) rfl rfl infoI Tryz.underlying31 one_encI (fun _ => rfl) (by decide) (by decide) rfl cv rfl rfl ((unhide hB).get 4 rfl) (by have := unhide hn0; omega) ?_
    intro A7 c7 y78 hQ
    replace hB : Hid (Sp w (stT [(bg,24, #[.pointer og]),(b7,96, #[.map (some bm)]),(b8,3, #[.int .i64 many]),(b16,31, #[.slice A6 n c6])] [(96,0, .map (some bm),0,mapXs ekV evJ M),(3,1, .slice A6 n c6,n,(List.map (fun v => (lookM M v).getD 0) pre).flatMap encI)]) W2 [] [(bg,24, #[.pointer og]),(b7,96, #[.map (some bm)]),(b8,3, #[.int .i64 many]),(b16,31, #[.slice A6 n c6]),(bb,3, #[.int .i64 cv])] [(96,0, .map (some bm),0,mapXs ekV evJ M),(3,1, .slice A7 (n + 1) c7,n + 1,(List.map (fun v => (lookM M v).getD 0) pre ++ [cv]).flatMap encI)] y78) := hide hQ
    clear hQ
    go_frame
    refine (unhide hB).setO 3 #[.slice A7 (n + 1) c7] rfl rfl (fun hb => run_store_row (v := .slice A7 (n + 1) c7) rfl rfl rfl (by simp [go_sem]) hb rfl (by simp [Value.cells,Value.oneCell'])) ?_
    intro y79 hQ
    replace hB : Hid (Sp w (stT [(bg,24, #[.pointer og]),(b7,96, #[.map (some bm)]),(b8,3, #[.int .i64 many]),(b16,31, #[.slice A6 n c6])] [(96,0, .map (some bm),0,mapXs ekV evJ M),(3,1, .slice A6 n c6,n,(List.map (fun v => (lookM M v).getD 0) pre).flatMap encI)]) W2 [] [(bg,24, #[.pointer og]),(b7,96, #[.map (some bm)]),(b8,3, #[.int .i64 many]),(b16,31, #[.slice A7 (n + 1) c7]),(bb,3, #[.int .i64 cv])] [(96,0, .map (some bm),0,mapXs ekV evJ M),(3,1, .slice A7 (n + 1) c7,n + 1,(List.map (fun v => (lookM M v).getD 0) pre ++ [cv]).flatMap encI)] y79) := hide hQ
    clear hQ
    refine wpO_done ?_
    try go_frame
    gi_wp2_with fail
    exact ⟨_,_,⟨.slice A7 (n + 1) c7,rfl,by rw [List.map_append,List.length_append,List.length_singleton, ← unhide hn',unhide hcv']; rfl⟩,(unhide hB).sub (List.sublist_append_left _ ([(bb,_,_)] : List Cl)) (List.Sublist.refl _)⟩
   ·rintro D3 L' Rs' W2 ⟨v6,rfl,rfl⟩ hkW hP0
    generalize ({ target := .collected D3,args := #[] } :: ds2 : List Deferred) = ds3 at hP0 ⊢
    obtain ⟨A6,c6,rfl⟩ := own_slice (hP0.row 1 rfl)
    obtain ⟨out,hout⟩ : ∃ out,out = List.map (fun v => (lookM M v).getD 0) (toL (vS V)) := ⟨_,rfl⟩
    rw [← hout] at hP0
    obtain ⟨n,hn⟩ : ∃ n,n = (toL (vS V)).length := ⟨_,rfl⟩
    rw [← hn] at hP0
    have hn' := hide (show n = out.length by rw [hn,hout,List.length_map])
    have hout' := hide (show colOut V E lo = out by unfold colOut; rw [unhide hst',hout])
    clear hkW hP hBa hn hout
    have hP : Hid (Sp w [] w ds3 [(bg,24, #[.pointer og]),(b7,96, #[.map (some bm)]),(b8,3, #[.int .i64 many]),(b16,31, #[.slice A6 n c6])] [(96,0, .map (some bm),0,mapXs ekV evJ M),(3,1, .slice A6 n c6,n,out.flatMap encI)] W2) := hide hP0
    clear hP0
    go_wp2_with fail
    refine wp_regionK (P := Tryz.prog) [] [0,1,2,3,4] [] 0 #[true,true,true,true,true] (by kernel_rfl) (by kernel_rfl) rfl (by rfl) ?_
    refine ql_want (v := .int .i64 many) rfl (by rfl) (fun W hW => qUpon_ofX (load_V rfl rfl (by simp [go_sem]) ((unhide hP).cellK 2 0 rfl rfl (by simp) W hW))) ?_
    go_frame
    refine ql_want (v := .slice A6 n c6) rfl (by rfl) (fun W hW => qUpon_ofX (load_V rfl rfl (by simp [go_sem]) ((unhide hP).cellK 3 0 rfl rfl (by simp) W hW))) ?_
    go_frame
    iterate 3
     refine ql_want (v := ?_) rfl (by rfl) (fun W hW => ?_) ?_
     rotate_left
     ·go_simp
      first | done | rfl
     go_frame
    refine wpQL_nil (fun y102 hxq => ?_)
    replace hP : Hid (Sp w [] w ds3 [(bg,24, #[.pointer og]),(b7,96, #[.map (some bm)]),(b8,3, #[.int .i64 many]),(b16,31, #[.slice A6 n c6])] [(96,0, .map (some bm),0,mapXs ekV evJ M),(3,1, .slice A6 n c6,n,out.flatMap encI)] y102) := hide ((unhide hP).ext hxq)
    clear hxq
    refine wpX_done (by kernel_rfl) ?_
    try go_frame
    go_wp2_with fail
    refine (unhide hP).leaves ?_
    intro w' hx hst
    refine ⟨_,results_tmp3 (t := 2) (u := 3) (v := 4) rfl _ _ _, ?_⟩
    rw [unhide hpz',Option.getD_some,unhide hout',unhide hst']
    exact CoPost.some (unhide hn') (own_at (by have h := hst.row 1 rfl; rw [unhide hn'] at h; exact h) (fun _ => rfl)) hx
   ·intro D3 c L' Rs' W2 h
    exact h.elim
  ·intro D c L' Rs' W' h
   exact h.elim
end Go.Proofs.YtmfkkkhddigkfaaGreatDoor
