/- Parts of a proof, laid together. Each part says its own conditions. -/
import Derived.Test.YtmokciekndllpaaGreatDoorC25
import Derived.Test.YtmokciekndllpaaGreatDoorC17
import Derived.Shelf.RegionOpenPlain
import Derived.Deep.LoopGhost
import Derived.Sort.WalkB12
import Derived.Lib.SlicesMore
import Derived.Lib.SliceRun
import Derived.Test.YtmokciekndllpaaGreatDoorC20
import Derived.Test.YtmokciekndllpaaGreatDoorC16
import Derived.Test.YtmokciekndllpaaGreatDoorC7
import Derived.Test.YtmokciekndllpaaGreatDoorC27
import Derived.Test.YtmokciekndllpaaGreatDoorC31
namespace Go.Proofs.YtmokciekndllpaaGreatDoor
open Go Go.RowKit Go.Shelf Go.Sort
attribute [local go_sem] qUpon lUpon
def SlPost {α : Type} (enc : α → List Value) (k : Nat) (w : World) (xs : List α) (e : Ending) (w' : World) : Prop := ∃ A' c',e = .returned (.slice A' xs.length c') ∧ SlAt enc k w' A' xs ∧ Ext w w'
theorem SlPost.mk {α : Type} {enc : α → List Value} {k : Nat} {w w' : World} {xs : List α} {A' : Option Addr} {n c' : Nat} (hn : n = xs.length) (h1 : SlAt enc k w' A' xs) (h2 : Ext w w') : SlPost enc k w xs (.returned (.slice A' n c')) w' := ⟨A',c',by rw [hn],h1,h2⟩
theorem own_n {w : World} {base T k n m : Nat} {v : Value} {xs : List Value} (h : w.ownsRow base T k v n xs) (e : m = n) : w.ownsRow base T k v m xs := by
 subst e
 exact h
theorem flatI (L : List Int) : L.flatMap encI = L.map (Value.int .i64) := by
 induction L with
 | nil => rfl
 | cons a r ih => rw [List.flatMap_cons,ih]; rfl
set_option maxRecDepth 100000 in
set_option maxHeartbeats 4000000 in
theorem cloneO_any (A : Option Addr) (L : List Int) (cL : Nat) (w : World) (hL : SlAt encI 1 w A L) (hl : L.length ≤ 100) :
  Calls Tryz.prog 146 #[.slice A L.length cL] w fun e w' => ∃ A' c',e = .returned (.slice A' L.length c') ∧ w'.ownsRow w.heap.size 3 1 (.slice A' L.length c') L.length (L.flatMap encI) ∧ Ext w w' := by
 have q := fun (w : World) (a : Option Addr) (n c n' c' : Nat) => Lib.run_eql_slice_nil (P := Tryz.prog) w 67 3 a n c n' c' Tryz.underlying67
 cases A with
 | none =>
  have h0 : L = [] := by
   cases L with
   | nil => rfl
   | cons a r =>
    obtain ⟨b,off,e,_⟩ := hL.at_ (i := 0) (by simp)
    cases e
  subst h0
  have hself := Ext.refl w
  go_enter Tryz.func146,Tryz.ntmps146
  go_wp2_with fail
  go_ret
  exact ⟨none,0,rfl,World.ownsRow_nil _ _ _ _,hself⟩
 | some a =>
  have hL' := hide hL
  clear hL
  go_enter Tryz.func146,Tryz.ntmps146
  try dsimp only
  repeat ((fail_if_success (with_reducible refine wp_reg (id := 3) ?_)); (first | go_values | go_skip | go_step | go_guarded | go_upon | go_in | go_back | fail))
  with_reducible refine wp_reg (id := 3) ?_
  refine wpO_want rfl ?_
  go_simp
  have hown := hide (World.ownsRow_made (base := w.heap.size) (e := 3) (size := 1) w #[] 0 (Nat.le_refl _) (by decide) rfl)
  have hx1 := hide (ext_self1 w (.cells #[] 3))
  refine wpO_want rfl ?_
  go_simp
  refine wpO_apA (enc := encI) rfl infoI Tryz.underlying67 one_encI (fun _ => rfl) (by decide) (by decide) rfl (xs := []) L rfl rfl rfl ((unhide hL').ext (unhide hx1)) (unhide hown) (by omega) (Below.size (unhide hx1)) ?_
  intro A1 c1 w1 ho1 hg1 hat1
  have hx := hide ((unhide hx1).of_new (Keep.of_grown hg1) (fun z hz => Nat.le_of_eq (List.mem_singleton.1 hz).symm))
  have ho := hide ho1
  clear ho1 hg1 hat1
  try go_frame
  refine wpO_want rfl ?_
  go_simp
  refine wpO_done ?_
  try go_frame
  go_wp2_with fail
  go_ret
  have h := unhide ho
  rw [List.nil_append,Nat.zero_add] at h
  exact ⟨A1,c1,by first | rfl | (rw [Nat.zero_add]; rfl),h,unhide hx⟩
theorem holdsI {w : World} {base T n : Nat} {v : Value} {L : List Int} (h : w.ownsRow base T 1 v n (L.flatMap encI)) (hn : n = L.length) : (v = .slice none 0 0 ∧ L = []) ∨ ∃ b cap,v = .slice (some ⟨b,0,none⟩) n cap ∧ base ≤ b ∧ Holds Go.Proofs.encI w b 0 L.toArray ∧
  ∀ w' q,w' = putRow Go.Proofs.encI (Sort.ahead w q) b 0 L.reverse.toArray → w'.ownsRow base T 1 v n (L.reverse.flatMap encI) ∧ Keep [b] w w' := by
 subst hn
 rcases h.2 with ⟨rfl,h0⟩ | ⟨b,cap,cur,rfl,hb,hg,hn,hcap,hcur,htake⟩
 ·exact .inl ⟨rfl,List.eq_nil_of_length_eq_zero h0⟩
 ·refine .inr ⟨b,cap,rfl,hb, ?_, ?_⟩
  ·intro j hj
   have hj' : j < L.length := by simpa using hj
   refine ⟨?_,by simp [World.frozen?,hg]⟩
   have h2 : (cur.toList.take (L.length * 1))[j]? = (L.map (Value.int .i64))[j]? := by rw [htake,flatI]
   rw [List.getElem?_take_of_lt (by omega),Array.getElem?_toList] at h2
   simp only [World.cell?,hg,Nat.zero_add,Option.isSome_none,Bool.false_eq_true,if_false]
   rw [h2]
   simp [hj',Go.Proofs.encI]
  ·rintro w' q rfl
   have hbl : b < w.heap.size := (Array.getElem?_eq_some_iff.1 hg).1
   have hheap : (putRow Go.Proofs.encI (Sort.ahead w q) b 0 L.reverse.toArray).heap[b]? = some (.cells (putCells Go.Proofs.encI 0 L.reverse.toArray cur) T (0,0)) := by
    simp [putRow,mapBlock,Sort.ahead,Array.getElem?_modify,hg,onCells]
   refine ⟨⟨by rw [flatI]; simp, .inr ⟨b,cap,_,rfl,hb,hheap,hn,hcap,by simp [putCells,hcur], ?_⟩⟩,⟨rfl,rfl,rfl,by simp [putRow,mapBlock,Sort.ahead],fun i hi hne => ?_⟩⟩
   ·rw [flatI]
    apply List.ext_getElem?
    intro j
    by_cases hj : j < L.length
    ·rw [List.getElem?_take_of_lt (by omega),Array.getElem?_toList]
     simp [putCells,hj,show j < cur.size by omega,Go.Proofs.encI]
    ·rw [List.getElem?_take_eq_none (by omega),List.getElem?_eq_none (by simp; omega)]
   ·have hib : i ≠ b := by simpa using hne
    simp [putRow,mapBlock,Sort.ahead,Array.getElem?_modify,Ne.symm hib]
set_option maxRecDepth 1000000 in
set_option maxHeartbeats 4000000 in
theorem rev_arr (blk cap : Nat) (d : Array Int) (w : World) (hH : Holds Go.Proofs.encI w blk 0 d) (hsz : d.size ≤ 1000000) :
  Calls Tryz.prog 147 #[.slice (some ⟨blk,0,none⟩) d.size cap] w fun e w' => e = .returned (.tuple #[]) ∧ ∃ n,w' = putRow Go.Proofs.encI (Sort.ahead w n) blk 0 d.reverse := by
 have mixed : Tryz.prog.follows .mixedOrders = true := by kernel_rfl
 go_enter Tryz.func147,Tryz.ntmps147
 go_wp2
 go_loopg [2,3] d.size (fun k s2 s3 wr => ∃ (i jn : Nat) (jz : Int) (dk : Array Int) (n : Nat),s2 = .int .i64 i ∧ s3 = .int .i64 jz ∧ ((i : Int) < jz → jz = jn ∧ jn < d.size) ∧ (¬ (i : Int) < jz → ¬ i < jn) ∧ jn - i ≤ k ∧
  dk.size = d.size ∧ wr = putRow Go.Proofs.encI (Sort.ahead w n) blk 0 dk ∧ reverseLoop i jn dk = reverseLoop 0 (d.size - 1) d)
 case atStart => exact ⟨0,d.size - 1,(d.size : Int) - 1,d,0,rfl,rfl,fun h => ⟨by omega,by omega⟩,fun h => by omega,by omega,rfl,(putRow_self Go.Proofs.encI w blk 0 d hH).symm,rfl⟩
 case round =>
  obtain ⟨i,jn,jz,dk,n,rfl,rfl,h1,h2,hk,hds,hwr,heq⟩ := hrel
  by_cases hlt : (i : Int) < jz
  ·obtain ⟨rfl,hjn⟩ := h1 hlt
   have hij : i < jn := by omega
   have hHk : Holds Go.Proofs.encI wr blk 0 dk := by rw [hwr]; exact holds_putRow Go.Proofs.encI _ blk 0 d dk (holds_ahead Go.Proofs.encI w n blk 0 d hH) hds
   obtain ⟨ci,fi⟩ := hHk i (by omega)
   obtain ⟨cj,fj⟩ := hHk jn (by omega)
   have A : Aside (wr = putRow Go.Proofs.encI (Sort.ahead w n) blk 0 dk) := hwr
   rw [Nat.zero_add] at ci fi cj fj
   clear hwr hHk hH h1 h2
   go_wp2_with fail
   go_region_o
   go_wp2
   go_roundg (jn - 1 - (i + 1))
   case measure => omega
   case rel =>
    rw [reverseLoop,if_pos hij] at heq
    exact ⟨i + 1,jn - 1,(jn : Int) - 1,swp dk i jn,n + 1,by simp,rfl,fun h => ⟨by omega,by omega⟩,fun h => by omega,Nat.le_refl _,by rw [size_swp]; exact hds,
     by
      have h := fun x y h1 h2 => swap_world Go.Proofs.encI (x := x) (y := y) (i := i) (j := jn) (by omega) (by omega) A.out h1 h2
      simp only [Nat.zero_add] at h
      exact h _ _ (by first | rfl | simp [Go.Proofs.encI,getElem!_pos,show jn < dk.size by omega]) (by first | rfl | simp [Go.Proofs.encI,getElem!_pos,show i < dk.size by omega]),heq⟩
  ·have hnot := h2 hlt
   go_wp2
   go_end0
   refine ⟨rfl,n, ?_⟩
   rw [reverseLoop,if_neg hnot] at heq
   rw [← Lib.reverseLoop_reverse, ← heq]
set_option maxRecDepth 100000 in
set_option maxHeartbeats 4000000 in
theorem rev_none (cap : Nat) (w : World) : Calls Tryz.prog 147 #[.slice none 0 cap] w fun e w' => e = .returned (.tuple #[]) ∧ w' = w := by
 go_enter Tryz.func147,Tryz.ntmps147
 go_wp2
 go_loop [2,3] (fun i j => i = .int .i64 0 ∧ j = .int .i64 (-1)) (fun _ _ => 0)
 case atStart => exact ⟨rfl,rfl⟩
 case round =>
  obtain ⟨rfl,rfl⟩ := hrel
  go_wp2
  go_end0
  exact ⟨rfl,rfl⟩
set_option maxRecDepth 100000 in
set_option maxHeartbeats 4000000 in
theorem reversed_any (A : Option Addr) (L : List Int) (cL : Nat) (w : World) (hL : SlAt encI 1 w A L) (hl : L.length ≤ 100) :
  Calls Tryz.prog 87 #[.slice A L.length cL] w (SlPost encI 1 w L.reverse) := by
 go_enter Tryz.func87,Tryz.ntmps87
 go_wp2_with fail
 refine (cloneO_any A L cL w hL hl).mono ?_
 rintro e w1 ⟨A1,c1,rfl,ho1,hx1⟩
 have hx1' := hide hx1
 clear hx1
 rcases holdsI ho1 rfl with ⟨hv,h0⟩ | ⟨b,cap,hv,hb,hH,hback⟩
 ·injection hv with h1 h2 h3
  subst h1
  subst h0
  subst h3
  clear ho1 h2
  simp only [List.length_nil]
  go_wp2_with fail
  have hr := rev_none 0 w1
  refine hr.mono ?_
  rintro e w2 ⟨rfl,rfl⟩
  clear hr
  go_wp2_with fail
  go_ret
  exact SlPost.mk rfl SlAt.nil (unhide hx1')
 ·injection hv with h1 h2 h3
  subst h1 h3
  have hH' := hide hH
  have hback' := hide hback
  have hb' := hide hb
  clear ho1 hH hback hb
  go_wp2_with fail
  have hr := rev_arr b c1 L.toArray w1 (unhide hH') (by simp; omega)
  have e1 : L.toArray.size = L.length := by simp
  rw [e1] at hr
  refine hr.mono ?_
  rintro e w2 ⟨rfl,n,hw2⟩
  obtain ⟨ho2,hk2⟩ := unhide hback' w2 n (by rw [hw2]; simp)
  have ho2' := hide ho2
  have hx2 := hide ((unhide hx1').of_new hk2 (by simp; exact unhide hb'))
  clear hr hw2 ho2 hk2 e1
  go_wp2_with fail
  go_ret
  exact SlPost.mk (by simp) (own_at (enc := encI) (own_n (unhide ho2') (by simp)) (fun _ => rfl)) (unhide hx2)
end Go.Proofs.YtmokciekndllpaaGreatDoor
namespace Go.Proofs.YtmokciekndllpaaGreatDoor
open Go Go.RowKit Go.Shelf Go.Sort
attribute [local go_sem] qUpon lUpon
def edgeP (p : Int × Int) : (Int × Int) × Thing := (p,(0,0))
section
variable {V : List (Int × Thing)} {E : List ((Int × Int) × Thing)} {L : List Int}
end
def ltP (p q : Int × Int) : Bool := decide (p.1 < q.1 ∨ p.1 = q.1 ∧ p.2 < q.2)
def insK (a : List (Int × Int)) (p : Int × Int) : List (Int × Int) := a.takeWhile (ltP · p) ++ p :: a.dropWhile (ltP · p)
def fillS (C : List (Int × Int)) : List (Int × Int) := C.foldl insK []
theorem mem_tw {α : Type} {p : α → Bool} : ∀ {l : List α} {x : α},x ∈ l.takeWhile p → p x = true
 | a :: r,x,h => by
  rw [List.takeWhile_cons] at h
  split at h
  ·rename_i ha
   rcases List.mem_cons.1 h with rfl | h
   ·exact ha
   ·exact mem_tw h
  ·simp at h
theorem insK_perm (a : List (Int × Int)) (p : Int × Int) : (insK a p).Perm (p :: a) := by
 unfold insK
 have h := @List.takeWhile_append_dropWhile _ (ltP · p) a
 have h2 := @List.perm_middle _ p (a.takeWhile (ltP · p)) (a.dropWhile (ltP · p))
 rw [h] at h2
 exact h2
theorem fold_perm : ∀ (C a : List (Int × Int)),(C.foldl insK a).Perm (a ++ C)
 | [],a => by simp
 | p :: r,a => by
  rw [List.foldl_cons]
  refine (fold_perm r (insK a p)).trans ?_
  refine ((insK_perm a p).append_right r).trans ?_
  exact (List.perm_middle (a := p) (l₁ := a) (l₂ := r)).symm
theorem fillS_perm (C : List (Int × Int)) : (fillS C).Perm C := by unfold fillS; simpa using fold_perm C []
theorem insK_sorted {a : List (Int × Int)} {p : Int × Int} (h : a.Pairwise fun x y => ltP x y = true) (hp : p ∉ a) : (insK a p).Pairwise fun x y => ltP x y = true := by
 have hd : ∀ y ∈ a.dropWhile (ltP · p),ltP p y = true := by
  intro y hy
  have hs : (a.dropWhile (ltP · p)).Pairwise fun x y => ltP x y = true := h.sublist (List.dropWhile_sublist _)
  have hne : y ≠ p := fun e => hp (e ▸ (List.dropWhile_sublist _).subset hy)
  cases hw : a.dropWhile (ltP · p) with
  | nil => rw [hw] at hy; simp at hy
  | cons z r =>
   have hz : ltP z p = false := by
    have := List.head_dropWhile_not (p := (ltP · p)) (l := a) (by rw [hw]; simp)
    simpa [hw] using this
   have hzp : z ≠ p := fun e => hp (e ▸ (List.dropWhile_sublist _).subset (by rw [hw]; simp))
   have h1 : ltP p z = true := by
    obtain ⟨z1,z2⟩ := z
    obtain ⟨p1,p2⟩ := p
    simp only [ltP,decide_eq_false_iff_not,decide_eq_true_eq,ne_eq,Prod.mk.injEq] at hz hzp ⊢
    omega
   rw [hw] at hy hs
   rcases List.mem_cons.1 hy with rfl | hy
   ·exact h1
   ·have h2 := List.rel_of_pairwise_cons hs hy
    simp only [ltP,decide_eq_true_eq] at h1 h2 ⊢
    omega
 unfold insK
 rw [List.pairwise_append]
 refine ⟨h.sublist (List.takeWhile_sublist _),List.pairwise_cons.2 ⟨fun y hy => hd y hy,h.sublist (List.dropWhile_sublist _)⟩,fun x hx y hy => ?_⟩
 have hxp : ltP x p = true := mem_tw (p := (ltP · p)) hx
 rcases List.mem_cons.1 hy with rfl | hy
 ·exact hxp
 ·have h2 := hd y hy
  simp only [ltP,decide_eq_true_eq] at hxp h2 ⊢
  omega
theorem fold_sorted : ∀ (C a : List (Int × Int)),(a ++ C).Nodup → (a.Pairwise fun x y => ltP x y = true) → (C.foldl insK a).Pairwise fun x y => ltP x y = true
 | [],a,_,h => h
 | p :: r,a,hn,h => by
  rw [List.foldl_cons]
  have hm : (p :: (a ++ r)).Nodup := (List.perm_middle (a := p) (l₁ := a) (l₂ := r)).nodup_iff.1 hn
  obtain ⟨h1,h2⟩ := List.nodup_cons.1 hm
  refine fold_sorted r _ ?_ (insK_sorted h fun hp => h1 (by simp [hp]))
  refine (((insK_perm a p).append_right r).nodup_iff).2 hm
theorem fillS_sorted {C : List (Int × Int)} (h : C.Nodup) : (fillS C).Pairwise fun x y => ltP x y = true := fold_sorted C [] (by simpa using h) .nil
theorem fillS_ltE {C : List (Int × Int)} (h : C.Nodup) : ((fillS C).map edgeP).Pairwise ltE := by
 rw [List.pairwise_map]
 refine (fillS_sorted h).imp fun {x y} hxy => ?_
 simpa [ltP,ltE,edgeP] using hxy
end Go.Proofs.YtmokciekndllpaaGreatDoor
namespace Go.Proofs.YtmokciekndllpaaGreatDoor
open Go
section
variable {V : List (Int × Thing)} {E : List ((Int × Int) × Thing)}
def fillP (E : List ((Int × Int) × Thing)) (p : Int × Nat) : List (Int × Int) := (toL (minusS p.2 (nearS p.1 E))).map fun n => (min p.1 n,max p.1 n)
def fillL (E : List ((Int × Int) × Thing)) (l : List (Int × Nat)) : List (Int × Int) := l.flatMap (fillP E)
theorem rea_sub {N : Nat} {c : Int → Nat} {z : Int} : ∀ y ∈ toL (reaS E N c z),y ∈ toL N := fun y hy => by
 unfold reaS at hy
 exact (List.mem_filter.1 (mem_fromS.1 hy).1).1
theorem run_sub (f : Nat) : ∀ (N : Nat) (c : Int → Nat) (l : List (Int × Nat)),(toL N).length < f → l = runS E f N c → ∀ l0 z r l1,l = l0 ++ (z,r) :: l1 → ∀ y ∈ toL r,y ∈ l1.map (·.1) := by
 induction f with
 | zero => intro N c l h; exact absurd h (Nat.not_lt_zero _)
 | succ f ih =>
  intro N c l h hl l0 z r l1 he y hy
  rw [runS] at hl
  by_cases hany : anyB N = true
  ·rw [if_pos hany] at hl
   have hlt := out_len (hv_mem c hany) h
   generalize hvS c (toL N) (minV N) = zz at *
   have hrs : ∀ y ∈ toL (reaS E (withoutS N zz) c zz),y ∈ toL (withoutS N zz) := fun y hy => rea_sub y hy
   generalize reaS E (withoutS N zz) c zz = rr at *
   generalize withoutS N zz = NN at *
   obtain ⟨l2,hl2⟩ : ∃ l2,l2 = runS E f NN (fun y => if decide (y ∈ toL rr) = true then c y + 1 else c y) := ⟨_,rfl⟩
   have hp := run_ids (E := E) f NN (fun y => if decide (y ∈ toL rr) = true then c y + 1 else c y) hlt
   have ih2 := ih NN _ l2 hlt hl2
   rw [← hl2] at hp hl
   have hmem := fun x => hp.mem_iff (a := x)
   clear hp hl2 ih hany h hlt
   generalize toL NN = LN at *
   rw [he] at hl
   cases l0 with
   | nil =>
    simp only [List.nil_append,List.cons.injEq,Prod.mk.injEq] at hl
    obtain ⟨⟨_,h8⟩,h9⟩ := hl
    rw [h9]
    rw [h8] at hy
    exact (hmem y).2 (hrs y hy)
   | cons a l0 =>
    simp only [List.cons_append,List.cons.injEq] at hl
    exact ih2 l0 z r l1 hl.2.symm y hy
  ·rw [if_neg hany] at hl
   rw [he] at hl
   cases l0 <;> cases hl
theorem ms_sub (l : List (Int × Nat)) (hl : l = msRun V E) : ∀ l0 z r l1,l = l0 ++ (z,r) :: l1 → ∀ y ∈ toL r,y ∈ l1.map (·.1) := by
 have hlt : (toL (vS V)).length < 1100 := by have := toL_len (vS V); omega
 unfold msRun at hl
 exact run_sub 1100 (vS V) (fun _ => 0) l hlt hl
theorem ms_ids (l : List (Int × Nat)) (hl : l = msRun V E) (hi : GInv V E) : (l.map (·.1)).Nodup ∧ msOrd V E = (l.map (·.1)).reverse ∧ (∀ x,x ∈ l.map (·.1) ↔ x ∈ V.map (·.1)) := by
 have ho := ms_ord hi
 have e : msOrd V E = (l.map (·.1)).reverse := by rw [hl]; rfl
 refine ⟨?_,e,fun x => ?_⟩
 ·have := ho.nodup
  rw [e] at this
  exact (List.reverse_perm _).nodup_iff.1 this
 ·rw [← ho.mem,e,List.mem_reverse]
theorem mem_fillP (hi : GInv V E) {z : Int} {r : Nat} {p : Int × Int} : p ∈ fillP E (z,r) ↔ ∃ n ∈ toL r, ¬ AdE E z n ∧ p = (min z n,max z n) := by
 unfold fillP
 rw [List.mem_map]
 constructor
 ·rintro ⟨n,hn,rfl⟩
  obtain ⟨h1,h2⟩ := mem_minus.1 hn
  exact ⟨n,h1,fun h => h2 ((mem_near hi).2 h),rfl⟩
 ·rintro ⟨n,h1,h2,rfl⟩
  exact ⟨n,mem_minus.2 ⟨h1,fun h => h2 ((mem_near hi).1 h)⟩,rfl⟩
theorem mem_fillL (hi : GInv V E) (l : List (Int × Nat)) (hl : l = msRun V E) {p : Int × Int} : p ∈ fillL E l ↔ p.1 < p.2 ∧ Adj E (msOrd V E) (msOrd V E).length p.1 p.2 ∧ ¬ Adj0 E p.1 p.2 := by
 have hr := ms_run hi l hl
 have hsub := ms_sub l hl
 obtain ⟨hnd,hL,hmem⟩ := ms_ids l hl hi
 have hord := ms_ord hi
 have hL' : msOrd V E = ((runQ l).map (·.1)).reverse := by rw [runQ_ids]; exact hL
 generalize msOrd V E = L at *
 have key : ∀ l0 z r l1 n,l = l0 ++ (z,r) :: l1 → n ∈ l1.map (·.1) → (n ∈ toL r ↔ Adj E L L.length z n) := by
  rintro l0 z r l1 n rfl hn
  obtain ⟨pn,hpn,rfl⟩ := List.mem_map.1 hn
  obtain ⟨b1,b2,rfl⟩ := List.append_of_mem hpn
  obtain ⟨n,rn⟩ := pn
  have hr2 : MRun (AdE E) (fun _ => 0) (runQ l0 ++ (z,fun y => decide (y ∈ toL r)) :: (runQ b1 ++ (n,fun y => decide (y ∈ toL rn)) :: runQ b2)) := by
   have h := hr
   unfold runQ at h ⊢
   simpa only [List.map_append,List.map_cons] using h
  have hL2 : L = ((runQ l0 ++ (z,fun y => decide (y ∈ toL r)) :: (runQ b1 ++ (n,fun y => decide (y ∈ toL rn)) :: runQ b2)).map (·.1)).reverse := by
   rw [hL']
   unfold runQ
   simp only [List.map_append,List.map_cons]
  have h := run_adj hi hr2 hL2 hord.nodup
  simpa only [decide_eq_true_eq] using h
 unfold fillL
 rw [List.mem_flatMap]
 constructor
 ·rintro ⟨⟨z,r⟩,hzr,hp⟩
  obtain ⟨l0,l1,he⟩ := List.append_of_mem hzr
  obtain ⟨n,h1,h2,rfl⟩ := (mem_fillP hi).1 hp
  have hn := hsub l0 z r l1 he n h1
  have ha := (key l0 z r l1 n he hn).1 h1
  have hne := Adj.ne hi ha
  have h2' : ¬ Adj0 E z n := fun h => h2 ((adE_adj0 hi).2 h)
  rcases Int.le_total z n with h5 | h5
  ·rw [show min z n = z by omega,show max z n = n by omega]
   exact ⟨by simp only; omega,ha,h2'⟩
  ·rw [show min z n = n by omega,show max z n = z by omega]
   exact ⟨by simp only; omega,ha.symm,fun h => h2' (Adj.symm (L := L) (k := 0) h)⟩
 ·rintro ⟨h1,h2,h3⟩
  obtain ⟨u,v⟩ := p
  simp only at h1 h2 h3
  obtain ⟨hu,hv⟩ := Adj.mem hi hord h2
  have hul := (hmem u).2 ((hord.mem u).1 hu)
  have hvl := (hmem v).2 ((hord.mem v).1 hv)
  have main : ∀ u v,u ≠ v → (∃ l0 r l1,l = l0 ++ (u,r) :: l1 ∧ v ∈ l1.map (·.1)) → Adj E L L.length u v → ¬ Adj0 E u v → ∃ p ∈ l,(min u v,max u v) ∈ fillP E p := by
   rintro u v _ ⟨l0,r,l1,he,hm⟩ ha hb
   exact ⟨(u,r),by rw [he]; simp,(mem_fillP hi).2 ⟨v,(key l0 u r l1 v he hm).2 ha,fun h => hb ((adE_adj0 hi).1 h),rfl⟩⟩
  obtain ⟨pu,hpu,hpe⟩ := List.mem_map.1 hul
  obtain ⟨a,b,he⟩ := List.append_of_mem hpu
  obtain ⟨u',ru⟩ := pu
  obtain rfl : u' = u := hpe
  have hvl2 := hvl
  rw [he,List.map_append,List.map_cons,List.mem_append,List.mem_cons] at hvl2
  rcases hvl2 with h5 | h5 | h5
  ·obtain ⟨pv,hpv,hve⟩ := List.mem_map.1 h5
   obtain ⟨a1,a2,rfl⟩ := List.append_of_mem hpv
   obtain ⟨v',rv⟩ := pv
   obtain rfl : v' = v := hve
   obtain ⟨q,hq1,hq2⟩ := main v' u' (by omega) ⟨a1,rv,a2 ++ (u',ru) :: b,by rw [he]; simp,by simp⟩ h2.symm (fun h => h3 (Adj.symm (L := L) (k := 0) h))
   rw [show min v' u' = u' by omega,show max v' u' = v' by omega] at hq2
   exact ⟨q,hq1,hq2⟩
  ·simp only at h5; omega
  ·obtain ⟨q,hq1,hq2⟩ := main u' v (by omega) ⟨a,ru,b,he,h5⟩ h2 h3
   rw [show min u' v = u' by omega,show max u' v = v by omega] at hq2
   exact ⟨q,hq1,hq2⟩
theorem fillL_nodup (hi : GInv V E) (l : List (Int × Nat)) (hl : l = msRun V E) : (fillL E l).Nodup := by
 have hsub := ms_sub l hl
 have hnd := (ms_ids l hl hi).1
 clear hl
 unfold fillL
 induction l with
 | nil => simp
 | cons p l ih =>
  obtain ⟨z,r⟩ := p
  rw [List.map_cons,List.nodup_cons] at hnd
  have h0 := hsub [] z r l rfl
  rw [List.flatMap_cons,List.nodup_append]
  refine ⟨?_,ih (fun l0 z' r' l1 he => hsub ((z,r) :: l0) z' r' l1 (by rw [he]; rfl)) hnd.2,fun a ha b hb e => ?_⟩
  ·unfold fillP
   exact List.pairwise_map.2 ((toL_nodup _).imp fun {x y} h e => h (by simp only [Prod.mk.injEq] at e; omega))
  ·subst e
   obtain ⟨n,h1,_,rfl⟩ := (mem_fillP hi).1 ha
   obtain ⟨⟨z',r'⟩,hz',hb2⟩ := List.mem_flatMap.1 hb
   obtain ⟨n',h3,_,h4⟩ := (mem_fillP hi).1 hb2
   obtain ⟨l0,l1,he⟩ := List.append_of_mem hz'
   have h5 := hsub ((z,r) :: l0) z' r' l1 (by rw [he]; rfl) n' h3
   have hzl : z ∉ l.map (·.1) := hnd.1
   have e1 : z ≠ z' := fun e => hzl (by rw [e]; exact List.mem_map.2 ⟨_,hz',rfl⟩)
   have e2 : z ≠ n' := fun e => hzl (by rw [he,e,List.map_append,List.map_cons]; simp [h5])
   simp only [Prod.mk.injEq] at h4
   omega
def msFill (V : List (Int × Thing)) (E : List ((Int × Int) × Thing)) : List (Int × Int) := fillS (fillL E (msRun V E))
end
end Go.Proofs.YtmokciekndllpaaGreatDoor
namespace Go.Proofs.YtmokciekndllpaaGreatDoor
open Go Go.RowKit Go.Shelf
attribute [local go_sem] qUpon lUpon
attribute [local irreducible] wpO wpX wpQL
def moL (bo : Nat) (A : Option Addr) (n c : Nat) : List Cl := [(bo,67, #[.slice A n c])]
def moR (A : Option Addr) (n c : Nat) (xs : List Int) : List Rw := [(3,1, .slice A n c,n,xs.flatMap encI)]
def MoJ (bo : Nat) (told : List (Int × Nat)) (L : List Cl) (R : List Rw) : Prop := ∃ (A : Option Addr) (n c : Nat),n = told.length ∧ L = moL bo A n c ∧ R = moR A n c (told.map (·.1))
def MoPost (wf : World) (bo : Nat) (told : List (Int × Nat)) (T : List Nat) (w : World) (e : Ending) (w' : World) : Prop := e = .returned (.tuple #[]) ∧ ∃ L' R',MoJ bo told L' R' ∧ St wf.heap.size L' R' w' ∧ Keep T w w' ∧ tIn T w.heap.size (stT L' R')
set_option maxRecDepth 100000 in
set_option maxHeartbeats 16000000 in
theorem mcsm1_any (wf : World) (bo : Nat) (told : List (Int × Nat)) (p : Int × Nat) (A : Option Addr) (n c : Nat) (w : World) (hn : n = told.length) (hl : told.length ≤ 1024) (hx : Ext wf w) (hst : St wf.heap.size (moL bo A n c) (moR A n c (told.map (·.1))) w) :
  Calls Tryz.prog 86 #[.int .i64 p.1, .agg (setC p.2), .pointer (some ⟨bo,0,none⟩)] w (MoPost wf bo (told ++ [p]) (stT (moL bo A n c) (moR A n c (told.map (·.1)))) w) := by
 obtain ⟨z,r⟩ := p
 dsimp only
 have hP := hide (Sp.ofS hst hx)
 obtain ⟨T,hT0⟩ : ∃ T,T = stT (moL bo A n c) (moR A n c (told.map (·.1))) := ⟨_,rfl⟩
 rw [← hT0] at hP ⊢
 unfold moL moR at hP
 have hn' := hide hn
 have hnb := hide (show n ≤ 1024 by omega)
 obtain ⟨xs,hxs⟩ : ∃ xs,xs = told.map (·.1) := ⟨_,rfl⟩
 rw [← hxs] at hP
 have hxs' := hide hxs
 clear hst hx hn hl hT0 hxs
 refine callsIn_wide.1 (callsIn_of_wp_marks (n := 0) Tryz.func86 rfl trivial (wpIn_wide.2 ?_))
 simp only [Tryz.ntmps86,List.size_toArray,List.length_cons,List.length_nil,Nat.reduceAdd,Nat.reduceSub,Array.replicate_succ,Array.replicate_zero,List.push_toArray,List.append_toArray,List.nil_append,List.cons_append]
 try dsimp only
 repeat ((fail_if_success (with_reducible refine wp_reg (id := 0) ?_)); (first | go_values | go_skip | go_step | go_guarded | go_upon | go_in | go_back | fail))
 with_reducible refine wp_reg (id := 0) ?_
 refine (unhide hP).allocO 25 (setC r) rfl (run_box (v := .agg (setC r)) rfl rfl) ?_
 intro r4 y1 hQ
 replace hP : Hid (Sp wf T w [] [(bo,67, #[.slice A n c]),(r4,25,setC r)] [(3,1, .slice A n c,n,xs.flatMap encI)] y1) := hide hQ
 clear hQ
 refine wpO_done ?_
 try go_frame
 replace hP : Hid (Sp wf T w [] [(bo,67, #[.slice A n c])] [(3,1, .slice A n c,n,xs.flatMap encI)] y1) := hide ((unhide hP).sub (List.sublist_append_left _ ([(r4,25,setC r)] : List Cl)) (List.Sublist.refl _))
 try dsimp only
 repeat ((fail_if_success (with_reducible refine wp_reg (id := 1) ?_)); (first | go_values | go_skip | go_step | go_guarded | go_upon | go_in | go_back | fail))
 with_reducible refine wp_reg (id := 1) ?_
 refine wpO_val rfl (load_V (v := .slice A n c) rfl rfl (by simp [go_sem]) (((unhide hP).get 0 rfl).cell 0)) ?_
 go_frame
 refine wpO_want rfl ?_
 go_simp
 refine (unhide hP).build1O 3 #[.int .i64 z] rfl (by go_simp) ?_
 intro bn y2 hQ
 replace hP : Hid (Sp wf T w [] [(bo,67, #[.slice A n c]),(bn,3, #[.int .i64 z])] [(3,1, .slice A n c,n,xs.flatMap encI)] y2) := hide hQ
 clear hQ
 try go_frame
 refine (unhide hP).ap1O (enc := encI) (T := 3) (ST := 67) 0 (v := .slice A n c) (m := n) (xs := xs) rfl rfl infoI Tryz.underlying67 one_encI (fun _ => rfl) (by decide) (by decide) rfl z rfl rfl ((unhide hP).get 1 rfl) (by have := unhide hnb; omega) ?_
 intro A4 cA4 y3 hQ
 replace hP : Hid (Sp wf T w [] [(bo,67, #[.slice A n c]),(bn,3, #[.int .i64 z])] [(3,1, .slice A4 (n + 1) cA4,n + 1,(xs ++ [z]).flatMap encI)] y3) := hide hQ
 clear hQ
 try go_frame
 replace hP : Hid (Sp wf T w [] [(bo,67, #[.slice A n c])] [(3,1, .slice A4 (n + 1) cA4,n + 1,(xs ++ [z]).flatMap encI)] y3) := hide ((unhide hP).sub (List.sublist_append_left _ ([(bn,3, #[.int .i64 z])] : List Cl)) (List.Sublist.refl _))
 refine (unhide hP).setO 0 #[.slice A4 (n + 1) cA4] rfl rfl (fun hb => run_store_row (v := .slice A4 (n + 1) cA4) rfl rfl rfl (by simp [go_sem]) hb rfl (by simp [Value.cells,Value.oneCell'])) ?_
 intro y4 hQ
 replace hP : Hid (Sp wf T w [] [(bo,67, #[.slice A4 (n + 1) cA4])] [(3,1, .slice A4 (n + 1) cA4,n + 1,(xs ++ [z]).flatMap encI)] y4) := hide hQ
 clear hQ
 refine wpO_done ?_
 try go_frame
 go_wp2_with fail
 refine Sp.leaves0 ?_
 refine ⟨_,results_none rfl _ _ _,rfl,_,_,⟨A4,n + 1,cA4,by rw [List.length_append, ← unhide hn']; rfl,rfl, ?_⟩,(unhide hP).st,(unhide hP).keep,(unhide hP).tin⟩
 unfold moR
 rw [List.map_append, ← unhide hxs']
 rfl
theorem mcsm1_tell (wf : World) (bo : Nat) : TellS wf 86 #[.pointer (some ⟨bo,0,none⟩)] (MoJ bo) (fun _ => True) where
 enters := Go.Proofs.enters_of Tryz.func86 (by kernel_rfl) rfl
 step := by
  rintro told p L R W ⟨A,n,c,hn,rfl,rfl⟩ _ hl hx hst
  exact mcsm1_any wf bo told p A n c W hn hl hx hst
set_option maxRecDepth 100000 in
set_option maxHeartbeats 16000000 in
theorem mcsm_any (og : Option Addr) (V : List (Int × Thing)) (E : List ((Int × Int) × Thing)) (w : World) (hi : GInv V E) (hg : GL w og V E) (hT : Tab w) (hl : V.length ≤ 100) :
  Calls Tryz.prog 33 #[.pointer og] w (SlPost encI 1 w (msOrd V E)) := by
 have hi' := hide hi
 have hg' := hide hg
 have hT' := hide hT
 obtain ⟨MR,hMR0⟩ : ∃ l,l = msRun V E := ⟨_,rfl⟩
 have hMR := hide hMR0
 obtain ⟨xs,hxs0⟩ : ∃ l,l = MR.map (·.1) := ⟨_,rfl⟩
 have hxs := hide hxs0
 have hml := hide (show MR.length = xs.length by rw [hxs0,List.length_map])
 have hor := hide (show msOrd V E = xs.reverse by rw [hxs0]; exact (ms_ids MR hMR0 hi).2.1)
 have hxl := hide (show xs.length ≤ 100 by
  have h1 := (ms_perm hi).length_eq
  rw [unhide hor,List.length_reverse,List.length_map] at h1
  omega)
 rw [unhide hor]
 clear hi hg hT hl hMR0 hxs0
 have hP := hide (Sp.new w)
 refine callsIn_wide.1 (callsIn_of_wp_marks (n := 0) Tryz.func33 rfl trivial (wpIn_wide.2 ?_))
 simp only [Tryz.ntmps33,List.size_toArray,List.length_cons,List.length_nil,Nat.reduceAdd,Nat.reduceSub,Array.replicate_succ,Array.replicate_zero,List.push_toArray,List.append_toArray,List.nil_append,List.cons_append]
 try dsimp only
 repeat ((fail_if_success (with_reducible refine wp_reg (id := 0) ?_)); (first | go_values | go_skip | go_step | go_guarded | go_upon | go_in | go_back | fail))
 with_reducible refine wp_reg (id := 0) ?_
 refine wpO_want rfl ?_
 go_simp
 refine wpO_done ?_
 try go_frame
 try dsimp only
 repeat ((fail_if_success (with_reducible refine wp_reg (id := 1) ?_)); (first | go_values | go_skip | go_step | go_guarded | go_upon | go_in | go_back | fail))
 with_reducible refine wp_reg (id := 1) ?_
 refine (unhide hP).allocO 67 #[.slice none 0 0] rfl (by go_simp) ?_
 intro bo y1 hQ
 replace hP : Hid (Sp w [] w [] [(bo,67, #[.slice none 0 0])] [] y1) := hide hQ
 clear hQ
 refine wpO_done ?_
 try go_frame
 replace hP : Hid (Sp w [] w [] [(bo,67, #[.slice none 0 0])] [(3,1, .slice none 0 0,0,[])] y1) := hide ((unhide hP).nil 3 1)
 try dsimp only
 repeat ((fail_if_success (with_reducible refine wp_reg (id := 2) ?_)); (first | go_values | go_skip | go_step | go_guarded | go_upon | go_in | go_back | fail))
 with_reducible refine wp_reg (id := 2) ?_
 iterate 2
  refine wpO_want rfl ?_
  go_simp
 refine wpO_want rfl ?_
 go_simp
 have hca := search_any w 86 #[.pointer (some ⟨bo,0,none⟩)] (MoJ bo) (fun _ => True) og V E (moL bo none 0 0) (moR none 0 0 []) y1 (mcsm1_tell w bo) (fun _ _ => trivial) (unhide hi') (unhide hP).extf (unhide hg') (unhide hT') ⟨none,0,0,rfl,rfl,rfl⟩ (unhide hP).st
 unfold SrPost at hca
 rw [← unhide hMR] at hca
 refine hca.mono ?_
 clear hca
 rintro _ y2 ⟨rfl,_,_,⟨A,n,c,hn,rfl,rfl⟩,hs9,hk9,ht9⟩
 rw [← unhide hxs] at hs9 ht9
 replace hP : Hid (Sp w [] w [] [(bo,67, #[.slice A n c])] [(3,1, .slice A n c,n,xs.flatMap encI)] y2) := hide (Sp.frame (L := moL bo none 0 0) (Rs := moR none 0 0 []) (L2 := []) (R2 := []) (unhide hP) hs9 hk9 ht9)
 have hn' := hide (hn.trans (unhide hml))
 clear hs9 hk9 ht9 hn
 refine ⟨_,rfl, ?_⟩
 try go_frame
 refine wpO_done ?_
 try go_frame
 try dsimp only
 repeat ((fail_if_success (with_reducible refine wp_reg (id := 3) ?_)); (first | go_values | go_skip | go_step | go_guarded | go_upon | go_in | go_back | fail))
 with_reducible refine wp_reg (id := 3) ?_
 refine wpO_val rfl (load_V (v := .slice A n c) rfl rfl (by simp [go_sem]) (((unhide hP).get 0 rfl).cell 0)) ?_
 go_frame
 refine wpO_want rfl ?_
 go_simp
 have hca := reversed_any A xs c y2 (own_at (enc := encI) (by have h := (unhide hP).row 0 rfl; rw [unhide hn'] at h; exact h) (fun _ => rfl)) (unhide hxl)
 rw [← unhide hn'] at hca
 refine hca.mono ?_
 clear hca
 rintro _ y3 ⟨A2,c2,rfl,hs2,hxc⟩
 replace hP : Hid (Sp w [] w [] [(bo,67, #[.slice A n c])] [(3,1, .slice A n c,n,xs.flatMap encI)] y3) := hide ((unhide hP).ext hxc)
 have hs2' := hide hs2
 clear hxc hs2
 refine ⟨_,rfl, ?_⟩
 try go_frame
 refine wpO_want rfl ?_
 go_simp
 refine wpO_done ?_
 try go_frame
 go_wp2_with fail
 refine Sp.leaves0 ?_
 exact ⟨_,results_tmp (t := 2) rfl _ _ _,SlPost.mk (n := xs.length) (by rw [List.length_reverse]) (unhide hs2') (unhide hP).extf⟩
end Go.Proofs.YtmokciekndllpaaGreatDoor
