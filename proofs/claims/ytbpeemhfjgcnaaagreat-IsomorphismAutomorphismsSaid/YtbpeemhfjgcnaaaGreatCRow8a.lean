/- Every input makes the law IsomorphismAutomorphisms answer true, and each argument reads behind the call as it read before: the given statement. No condition. -/
import Derived.Test.YtbpeemhfjgcnaaaGreatC21
import Derived.Test.YtbpeemhfjgcnaaaGreatC23
import Derived.Test.YtbpeemhfjgcnaaaGreatC24
import Derived.Test.YtbpeemhfjgcnaaaGreatC31
import Derived.Test.YtbpeemhfjgcnaaaGreatC25
import Derived.Test.YtbpeemhfjgcnaaaGreatC46
import Derived.Test.YtbpeemhfjgcnaaaGreatC39
import Derived.Test.YtbpeemhfjgcnaaaGreatC47
import Derived.Test.YtbpeemhfjgcnaaaGreatC45
import Derived.Shelf.SlGeneric
import Derived.Shelf.SortM.Plain
import Derived.Shelf.SortM.SortNone
import Derived.Ground.SlgmProg
import Derived.Test.YtbpeemhfjgcnaaaGreatProg
import Derived.Lib.SlKeysI
import Derived.Test.YtbpeemhfjgcnaaaGreatC19
import Derived.Test.YtbpeemhfjgcnaaaGreatC17
import Derived.Test.YtbpeemhfjgcnaaaGreatC38
import Derived.Test.YtbpeemhfjgcnaaaGreatC34
import Derived.WalkKit
import Derived.ProofKit
import Derived.OpenShut
import Derived.ShutString
import Derived.ChangeOld
import Derived.Below
namespace Go.Proofs.YtbpeemhfjgcnaaaGreat
section
variable {V V' : List (Int × Thing)} {E E' : List ((Int × Int) × Thing)} {x y p q : List Int}
theorem auto_comp {ids a b : List Int} (hn : ids.Nodup) (ha : a ∈ mapsP V E ids V E ids) (hb : b ∈ mapsP V E ids V E ids) : a.map (tr ids b) ∈ mapsP V E ids V E ids := by
 obtain ⟨_,ha1,ha2⟩ := mem_mapsP.1 ha
 obtain ⟨_,hb1,hb2⟩ := mem_mapsP.1 hb
 have hl : ids.length = b.length := hb1.length_eq.symm
 refine mem_mapsP.2 ⟨rfl,(tr_perm hn hl ha1).trans hb1, ?_⟩
 rw [← carry_perm hn hl hb2.symm ha1]
 exact ha2
theorem auto_id {ids : List Int} : ids ∈ mapsP V E ids V E ids := mem_mapsP.2 ⟨rfl,List.Perm.refl _,rfl⟩
theorem maps_back {ids ids' : List Int} (hn' : ids'.Nodup) (hm : q ∈ mapsP V E ids V' E' ids') : ids'.map (tr q ids) ∈ mapsP V' E' ids' V E ids := by
 obtain ⟨hl,hq1,hq2⟩ := mem_mapsP.1 hm
 have hqn := hq1.nodup_iff.2 hn'
 have hlq : q.length = ids.length := by rw [hq1.length_eq,hl]
 exact mem_mapsP.2 ⟨hl.symm,tr_perm hqn hlq hq1.symm,(carry_perm hqn hlq hq2 hq1.symm).symm⟩
end
end Go.Proofs.YtbpeemhfjgcnaaaGreat
namespace Go.Proofs.YtbpeemhfjgcnaaaGreat
section
variable {V V' : List (Int × Thing)} {E E' : List ((Int × Int) × Thing)}
def orbR (turns : List (List Int)) (ids : List Int) (i : Nat) : List Int := ids.filter fun x => turns.any fun t => t.getD i 0 == x
def blkF (i : Nat) (s : List Int × List Int) (t : List Int) : List Int × List Int := if t.getD i 0 ∈ s.1 then s else (s.1 ++ [t.getD i 0],s.2 ++ [t.getD i 0])
theorem blk_spec (i : Nat) (S : List Int) : ∀ (T : List (List Int)) (s b : List Int),(∀ x,x ∈ s ↔ x ∈ S ∨ x ∈ b) → (∀ x ∈ b,x ∉ S) → b.Nodup → (∀ t ∈ T,t.getD i 0 ∉ S) → ∃ s' b',T.foldl (blkF i) (s,b) = (s',b') ∧ (∀ x,x ∈ s' ↔ x ∈ S ∨ x ∈ b') ∧ b'.Nodup ∧ ∀ x,x ∈ b' ↔ x ∈ b ∨ ∃ t ∈ T,t.getD i 0 = x
 | [],s,b,h1,_,h3,_ => ⟨s,b,rfl,h1,h3,by simp⟩
 | t :: T,s,b,h1,h2,h3,h4 => by
  rw [List.foldl_cons]
  by_cases hm : t.getD i 0 ∈ s
  ·have e0 : blkF i (s,b) t = (s,b) := by unfold blkF; rw [if_pos hm]
   have hb : t.getD i 0 ∈ b := ((h1 _).1 hm).resolve_left (h4 t (by simp))
   rw [e0]
   obtain ⟨s',b',k1,k2,k3,k4⟩ := blk_spec i S T s b h1 h2 h3 (fun t ht => h4 t (by simp [ht]))
   refine ⟨s',b',k1,k2,k3,fun x => ?_⟩
   rw [k4]
   constructor
   ·rintro (h | ⟨t',h,e⟩)
    ·exact .inl h
    ·exact .inr ⟨t',by simp [h],e⟩
   ·rintro (h | ⟨t',h,e⟩)
    ·exact .inl h
    ·rcases List.mem_cons.1 h with rfl | h
     ·exact .inl (by rw [← e]; exact hb)
     ·exact .inr ⟨t',h,e⟩
  ·have e0 : blkF i (s,b) t = (s ++ [t.getD i 0],b ++ [t.getD i 0]) := by unfold blkF; rw [if_neg hm]
   have hb : t.getD i 0 ∉ b := fun h => hm ((h1 _).2 (.inr h))
   rw [e0]
   obtain ⟨s',b',k1,k2,k3,k4⟩ := blk_spec i S T (s ++ [t.getD i 0]) (b ++ [t.getD i 0]) (fun x => by rw [List.mem_append,List.mem_append,h1 x,or_assoc]) (fun x hx => by
    rcases List.mem_append.1 hx with hx | hx
    ·exact h2 x hx
    ·rw [List.mem_singleton] at hx; rw [hx]; exact h4 t (by simp)) (by
    rw [List.nodup_append]
    exact ⟨h3,by simp,fun a ha c hc e => hb (by rw [List.mem_singleton] at hc; rw [← hc, ← e]; exact ha)⟩) (fun t ht => h4 t (by simp [ht]))
   refine ⟨s',b',k1,k2,k3,fun x => ?_⟩
   rw [k4,List.mem_append,List.mem_singleton]
   constructor
   ·rintro ((h | h) | ⟨t',h,e⟩)
    ·exact .inl h
    ·exact .inr ⟨t,by simp,h.symm⟩
    ·exact .inr ⟨t',by simp [h],e⟩
   ·rintro (h | ⟨t',h,e⟩)
    ·exact .inl (.inl h)
    ·rcases List.mem_cons.1 h with rfl | h
     ·exact .inl (.inr e.symm)
     ·exact .inr ⟨t',h,e⟩
def Orb (V : List (Int × Thing)) (E : List ((Int × Int) × Thing)) (ids : List Int) (u v : Int) : Prop := ∃ t ∈ mapsP V E ids V E ids,tr ids t u = v
theorem Orb.refl {ids : List Int} (hn : ids.Nodup) {u : Int} (hu : u ∈ ids) : Orb V E ids u u := ⟨ids,auto_id,by
 obtain ⟨i,hi,e⟩ := mem_at hu
 rw [← e,tr_at hn hi]⟩
theorem tr_tr {ids a b : List Int} (hn : ids.Nodup) (hla : ids.length = a.length) {u : Int} (hu : u ∈ ids) : tr ids (a.map (tr ids b)) u = tr ids b (tr ids a u) := by
 obtain ⟨i,hi,e⟩ := mem_at hu
 rw [← e,tr_at hn hi,tr_at hn hi,getD_at (by rw [List.length_map]; omega),List.getElem_map,getD_at (by omega)]
theorem Orb.trans {ids : List Int} (hn : ids.Nodup) {u v w : Int} (hu : u ∈ ids) (h : Orb V E ids u v) (k : Orb V E ids v w) : Orb V E ids u w := by
 obtain ⟨a,ha,e⟩ := h
 obtain ⟨b,hb,f⟩ := k
 exact ⟨_,auto_comp hn ha hb,by rw [tr_tr hn (mem_mapsP.1 ha).2.1.length_eq.symm hu,e,f]⟩
theorem Orb.symm {ids : List Int} (hn : ids.Nodup) {u v : Int} (hu : u ∈ ids) (h : Orb V E ids u v) : Orb V E ids v u := by
 obtain ⟨a,ha,e⟩ := h
 obtain ⟨_,ha1,_⟩ := mem_mapsP.1 ha
 have han := ha1.nodup_iff.2 hn
 have hl : ids.length = a.length := ha1.length_eq.symm
 refine ⟨_,maps_back hn ha, ?_⟩
 obtain ⟨i,hi,ei⟩ := mem_at hu
 have hia : i < a.length := by omega
 have hv : v = a.getD i 0 := by rw [← e, ← ei,tr_at hn hi]
 have hvm : v ∈ ids := by rw [hv,getD_at hia]; exact ha1.mem_iff.1 (List.getElem_mem _)
 obtain ⟨j,hj,ej⟩ := mem_at hvm
 rw [← ej,tr_at hn hj,getD_at (by rw [List.length_map]; exact hj),List.getElem_map, ← getD_at hj,ej,hv,tr_at han hia,ei]
theorem mem_orbR {ids : List Int} (hn : ids.Nodup) {i : Nat} (hi : i < ids.length) {x : Int} : x ∈ orbR (mapsP V E ids V E ids) ids i ↔ Orb V E ids (ids.getD i 0) x := by
 unfold orbR Orb
 rw [List.mem_filter,List.any_eq_true]
 constructor
 ·rintro ⟨_,t,ht,e⟩
  exact ⟨t,ht,by rw [tr_at hn hi]; simpa using e⟩
 ·rintro ⟨t,ht,e⟩
  rw [tr_at hn hi] at e
  obtain ⟨_,h1,_⟩ := mem_mapsP.1 ht
  have hit : i < t.length := by rw [h1.length_eq]; exact hi
  refine ⟨?_,t,ht,by simpa using e⟩
  rw [← e,getD_at hit]
  exact h1.mem_iff.1 (List.getElem_mem _)
def SeenI (V : List (Int × Thing)) (E : List ((Int × Int) × Thing)) (ids : List Int) (i : Nat) (S : List Int) : Prop := ∀ x,x ∈ S ↔ ∃ j,j < i ∧ Orb V E ids (ids.getD j 0) x
theorem orb_seen {ids S : List Int} (hs : ids.Pairwise (· < ·)) {i : Nat} (hi : i < ids.length) (h : SeenI V E ids i S) (hm : ids.getD i 0 ∈ S) : (∃ x r,orbR (mapsP V E ids V E ids) ids i = x :: r ∧ x ≠ ids.getD i 0) ∧ SeenI V E ids (i + 1) S := by
 have hn : ids.Nodup := hs.imp fun {a b} h e => by omega
 obtain ⟨j,hj,ho⟩ := (h _).1 hm
 have hjl : j < ids.length := by omega
 have hjm : ids.getD j 0 ∈ ids := by rw [getD_at hjl]; exact List.getElem_mem _
 have him : ids.getD i 0 ∈ ids := by rw [getD_at hi]; exact List.getElem_mem _
 have ho2 := Orb.symm hn hjm ho
 refine ⟨?_,fun x => ?_⟩
 ·have h1 := (mem_orbR hn hi).2 ho2
  have hsr : (orbR (mapsP V E ids V E ids) ids i).Pairwise (· < ·) := hs.filter _
  cases hr : orbR (mapsP V E ids V E ids) ids i with
  | nil => rw [hr] at h1; cases h1
  | cons x r =>
   refine ⟨x,r,rfl,fun e => ?_⟩
   rw [hr] at h1 hsr
   have hlt : ids.getD j 0 < ids.getD i 0 := by
    rw [getD_at hjl,getD_at hi]
    exact List.pairwise_iff_getElem.1 hs j i hjl hi hj
   rcases List.mem_cons.1 h1 with h2 | h2
   ·omega
   ·have := (List.pairwise_cons.1 hsr).1 _ h2
    omega
 ·rw [h]
  constructor
  ·rintro ⟨k,hk,h2⟩; exact ⟨k,by omega,h2⟩
  ·rintro ⟨k,hk,h2⟩
   by_cases e : k = i
   ·subst e
    exact ⟨j,hj,Orb.trans hn hjm ho h2⟩
   ·exact ⟨k,by omega,h2⟩
theorem orb_new {ids S : List Int} (hs : ids.Pairwise (· < ·)) {i : Nat} (hi : i < ids.length) (h : SeenI V E ids i S) (hm : ids.getD i 0 ∉ S) : (∃ r,orbR (mapsP V E ids V E ids) ids i = ids.getD i 0 :: r) ∧ ∃ S' b,(mapsP V E ids V E ids).foldl (blkF i) (S,[]) = (S',b) ∧ b.Perm (orbR (mapsP V E ids V E ids) ids i) ∧ SeenI V E ids (i + 1) S' := by
 have hn : ids.Nodup := hs.imp fun {a b} h e => by omega
 have him : ids.getD i 0 ∈ ids := by rw [getD_at hi]; exact List.getElem_mem _
 have hno : ∀ x,Orb V E ids (ids.getD i 0) x → x ∉ S := fun x hx hxS => by
  obtain ⟨j,hj,ho⟩ := (h x).1 hxS
  have hjl : j < ids.length := by omega
  have hjm : ids.getD j 0 ∈ ids := by rw [getD_at hjl]; exact List.getElem_mem _
  exact hm ((h _).2 ⟨j,hj,Orb.trans hn hjm ho (Orb.symm hn him hx)⟩)
 have hsr : (orbR (mapsP V E ids V E ids) ids i).Pairwise (· < ·) := hs.filter _
 constructor
 ·have h1 := (mem_orbR (V := V) (E := E) hn hi).2 (Orb.refl hn him)
  cases hr : orbR (mapsP V E ids V E ids) ids i with
  | nil => rw [hr] at h1; cases h1
  | cons x r =>
   refine ⟨r, ?_⟩
   rw [hr] at h1 hsr
   rcases List.mem_cons.1 h1 with h2 | h2
   ·rw [h2]
   ·exfalso
    have hlt := (List.pairwise_cons.1 hsr).1 _ h2
    have hx : x ∈ orbR (mapsP V E ids V E ids) ids i := by rw [hr]; simp
    have hox := (mem_orbR hn hi).1 hx
    obtain ⟨j,hj,ej⟩ := mem_at (List.mem_filter.1 hx).1
    have hji : j < i := by
     by_cases hji : j < i
     ·exact hji
     ·exfalso
      rcases Nat.lt_or_ge i j with h3 | h3
      ·have := List.pairwise_iff_getElem.1 hs i j hi hj h3
       rw [← getD_at hi, ← getD_at hj,ej] at this
       omega
      ·have : i = j := by omega
       subst this
       omega
    have hjm : ids.getD j 0 ∈ ids := by rw [getD_at hj]; exact List.getElem_mem _
    refine hno _ hox ((h x).2 ⟨j,hji, ?_⟩)
    rw [ej]
    exact Orb.refl hn (by rw [← ej]; exact hjm)
 ·obtain ⟨s',b',k1,k2,k3,k4⟩ := blk_spec i S (mapsP V E ids V E ids) S [] (by simp) (by simp) (by simp) (fun t ht => hno _ ⟨t,ht,tr_at hn hi⟩)
  have hb : ∀ x,x ∈ b' ↔ Orb V E ids (ids.getD i 0) x := fun x => by
   rw [k4]
   unfold Orb
   simp only [tr_at hn hi,List.not_mem_nil,false_or]
  refine ⟨s',b',k1,(List.perm_ext_iff_of_nodup k3 (hsr.imp fun {a b} h e => by omega)).2 fun x => by rw [hb,mem_orbR hn hi],fun x => ?_⟩
  rw [k2,hb,h]
  constructor
  ·rintro (⟨j,hj,h2⟩ | h2)
   ·exact ⟨j,by omega,h2⟩
   ·exact ⟨i,by omega,h2⟩
  ·rintro ⟨j,hj,h2⟩
   by_cases e : j = i
   ·subst e; exact .inr h2
   ·exact .inl ⟨j,by omega,h2⟩
end
end Go.Proofs.YtbpeemhfjgcnaaaGreat
namespace Go.Proofs.YtbpeemhfjgcnaaaGreat
open Go Go.RowKit Go.Shelf
attribute [local go_sem] qUpon lUpon
attribute [local irreducible] wpO wpX wpQL
theorem ss_atk {w : World} {A : Option Addr} {KK : List (List Int)} (h : SSAt w A KK) {k : Nat} (hk : k < KK.length) : ∃ b off a c,A = some ⟨b,off,none⟩ ∧ (∀ W,Ext w W → W.cell? ⟨b,off + k,none⟩ = some (.slice a KK[k].length c)) ∧ SlAt encI 1 w a KK[k] := by
 obtain ⟨ps,h1,h2,h3⟩ := h
 have hk' : k < ps.length := by rw [h1]; exact hk
 obtain ⟨b,off,hA,hc⟩ := h2.at_ hk'
 have h4 := hc 0 _ rfl
 have h5 := h3 k hk' hk
 refine ⟨b,off,ps[k].1,ps[k].2.2,hA,fun W hW => ?_,h5.2⟩
 have h6 := h4 W hW
 rw [h5.1] at h6
 simpa using h6
set_option maxRecDepth 100000 in
set_option maxHeartbeats 16000000 in
theorem lists_any (A B : Option Addr) (KK : List (List Int)) (n cA cB : Nat) (w : World) (hA : SSAt w A KK) (hB : SSAt w B KK) (hn : n = KK.length) (hnb : n ≤ 40320) (hb : ∀ K ∈ KK,K.length ≤ 300) :
  Calls Tryz.prog 32 #[.slice A n cA, .slice B n cB] w fun e w' => e = .returned (.bool true) ∧ Ext w w' := by
 have hA' := hide hA
 have hB' := hide hB
 have hn' := hide hn
 have hnb' := hide hnb
 have hb' := hide hb
 clear hA hB hn hnb hb
 have hne : ((n : Int) != (n : Int)) = false := by simp
 have hP := hide (Sp.new w)
 refine callsIn_wide.1 (callsIn_of_wp_marks (n := 0) Tryz.func32 rfl trivial (wpIn_wide.2 ?_))
 simp only [Tryz.ntmps32,List.size_toArray,List.length_cons,List.length_nil,Nat.reduceAdd,Nat.reduceSub,Array.replicate_succ,Array.replicate_zero,List.push_toArray,List.append_toArray,List.nil_append,List.cons_append]
 try dsimp only
 repeat ((fail_if_success (with_reducible refine wp_reg (id := 0) ?_)); (first | go_values | go_skip | go_step | go_guarded | go_upon | go_in | go_back | fail))
 with_reducible refine wp_reg (id := 0) ?_
 refine wpO_want rfl ?_
 go_simp
 refine wpO_done ?_
 try go_frame
 try dsimp only
 repeat ((fail_if_success (with_reducible refine wp_reg (id := 1) ?_)); (first | go_values | go_skip | go_step | go_guarded | go_upon | go_in | go_back | fail))
 with_reducible refine wp_reg (id := 1) ?_
 iterate 5
  refine wpO_want rfl ?_
  go_simp
 refine wpO_done ?_
 try go_frame
 clear hne
 go_wp2_with fail
 obtain ⟨I0_2,hI0_20⟩ : ∃ I : Nat → Act → World → Prop,I = fun fi a' wr => ∃ (i : Nat),a'.tmps.size = 27 ∧ a'.tmps.getD 0 undef = .slice A n cA ∧ a'.tmps.getD 1 undef = .slice B n cB ∧ a'.tmps.getD 5 undef = .int .i64 (i : Nat) ∧ a'.defers = [] ∧ i ≤ n ∧ Sp w [] w [] [] [] wr ∧ fi = n - i := ⟨_,rfl⟩
 have hI0_2 := hide hI0_20
 clear hI0_20
 refine wp_loop_ix I0_2 (n - 0) ?_ ?_
 ·rw [unhide hI0_2]; exact ⟨0,rfl,rfl,rfl,rfl,rfl,Nat.zero_le _,unhide hP,rfl⟩
 ·rintro fi ⟨tm,dfs⟩ wr hrel
  rw [unhide hI0_2] at hrel
  obtain ⟨i,hsz,e0,e1,e5,hdf,hin,hPr,hfm⟩ := hrel
  obtain ⟨us,rfl⟩ : ∃ us : Nat → Value,tm = #[us 0,us 1,us 2,us 3,us 4,us 5,us 6,us 7,us 8,us 9,us 10,us 11,us 12,us 13,us 14,us 15,us 16,us 17,us 18,us 19,us 20,us 21,us 22,us 23,us 24,us 25,us 26] := ⟨fun i => tm.getD i undef,arr_fn hsz⟩
  have h0 : us 0 = .slice A n cA := e0
  have h1 : us 1 = .slice B n cB := e1
  have h5 : us 5 = .int .i64 (i : Nat) := e5
  have hdf2 : dfs = [] := hdf
  subst hdf2
  clear hdf hsz e0 e1 e5
  simp only [h0,h1,h5]
  clear h0 h1 h5
  clear hP
  have hP := hide hPr
  have hfm' := hide hfm
  clear hPr hfm
  by_cases hlt : i < n
  ·skip
   have hil : (i : Int) < (n : Int) := by omega
   have hlt' := hide hlt
   have hib : (i : Int) ≤ 40320 := by have := unhide hnb'; omega
   have hiK : i < KK.length := by rw [← unhide hn']; exact hlt
   have hkb := hide (unhide hb' KK[i] (List.getElem_mem _))
   have hxr := (unhide hP).extf
   obtain ⟨b1,o1,a1,c1,rfl,k1,hs1⟩ := ss_atk (unhide hA') hiK
   obtain ⟨b2,o2,a2,c2,rfl,k2,hs2⟩ := ss_atk (unhide hB') hiK
   generalize KK[i] = K at *
   obtain ⟨m,hm0⟩ : ∃ m,m = K.length := ⟨_,rfl⟩
   rw [← hm0] at k1 k2
   have hm := hide hm0
   have hsx := hide (hs1.ext hxr)
   have hsy := hide (hs2.ext hxr)
   have k1 : ∀ W,Keep [] wr W → W.cell? ⟨b1,o1 + i,none⟩ = some (.slice a1 m c1) := fun W hW => k1 W (hxr.trans (Ext.of_keep0 hW))
   have k2 : ∀ W,Keep [] wr W → W.cell? ⟨b2,o2 + i,none⟩ = some (.slice a2 m c2) := fun W hW => k2 W (hxr.trans (Ext.of_keep0 hW))
   have hself := Keep.refl [] wr
   clear hs1 hs2 hm0 hiK hxr hlt
   try dsimp only
   repeat ((fail_if_success (with_reducible refine wp_reg (id := 4) ?_)); (first | go_values | go_skip | go_step | go_guarded | go_upon | go_in | go_back | fail))
   with_reducible refine wp_reg (id := 4) ?_
   iterate 4
    refine wpO_want rfl ?_
    go_simp
   refine wpO_done ?_
   try go_frame
   go_wp2_with fail
   refine wp_regionK (P := Tryz.prog) [] [0,1,2,3,4,5,6,7] [] 2 #[true,true,true,true,true,true,true,true,false,false] (by kernel_rfl) (by kernel_rfl) rfl (by rfl) ?_
   iterate 8
    first
    | (refine ql_skip rfl (by rfl) ?_)
    | (refine ql_want (v := ?_) rfl (by rfl) (fun W hW => ?_) ?_; rotate_left; (go_simp; (first | done | rfl)))
    try go_frame
   refine wpQL_nil (fun y1 hxq => ?_)
   have hK := hide (hxq.keep [])
   replace hP : Hid (Sp w [] w [] [] [] y1) := hide ((unhide hP).ext hxq)
   replace hsx := hide ((unhide hsx).ext hxq)
   replace hsy := hide ((unhide hsy).ext hxq)
   clear hxq
   clear k1 k2 hself hil
   refine lx_one (i := 8) (by kernel_rfl) rfl (by rfl) #[true,true,true,true,true,true,true,true,true,false] (by rfl) ?_
   go_simp
   have hca := cmp08_any a1 a2 K K m m c1 c2 y1 (unhide hsx) (unhide hsy) (unhide hm) (unhide hm) (by have := unhide hkb; have := unhide hm; omega) (by have := unhide hkb; have := unhide hm; omega)
   rw [lcmp_self] at hca
   refine hca.mono ?_
   clear hca
   rintro _ zy2 ⟨rfl,hxc⟩
   refine ⟨_,rfl,(unhide hK).trans (hxc.keep _),fun y2 hxd => ?_⟩
   replace hP : Hid (Sp w [] w [] [] [] y2) := hide ((unhide hP).ext (hxc.trans hxd))
   replace hK := hide ((unhide hK).trans ((hxc.trans hxd).keep _))
   replace hsx := hide ((unhide hsx).ext (hxc.trans hxd))
   replace hsy := hide ((unhide hsy).ext (hxc.trans hxd))
   clear hxc hxd
   try go_frame
   clear hsx hsy
   refine lx_rekeep (unhide hK) [9] [] 0 1 #[true,true,true,true,true,true,true,true,true,false] #[true,true,true,true,true,true,true,true,true,true] (by kernel_rfl) rfl (by rfl) ?_
   clear hK
   iterate 1
    first
    | (refine ql_skip rfl (by rfl) ?_)
    | (refine ql_want (v := ?_) rfl (by rfl) (fun W hW => ?_) ?_; rotate_left; (go_simp; (first | done | rfl)))
    try go_frame
   refine wpQL_nil (fun y3 hxq => ?_)
   have hK := hide (hxq.keep [])
   replace hP : Hid (Sp w [] w [] [] [] y3) := hide ((unhide hP).ext hxq)
   clear hxq
   refine wpX_done (by kernel_rfl) ?_
   try go_frame
   clear hK
   go_wp2_with fail
   refine ⟨n - (i + 1), ?_,by have := unhide hfm'; have := unhide hlt'; omega⟩
   rw [unhide hI0_2]
   exact ⟨i + 1,(by first | rfl | trivial),(by first | rfl | trivial),(by first | rfl | trivial),(by first | rfl | (show _ = Value.int _ _; go_num) | go_num),(by first | rfl | trivial),by have := unhide hlt'; omega,unhide hP,rfl⟩
  ·skip
   have hil : ¬ (i : Int) < (n : Int) := by omega
   clear hlt hin
   try dsimp only
   repeat ((fail_if_success (with_reducible refine wp_reg (id := 4) ?_)); (first | go_values | go_skip | go_step | go_guarded | go_upon | go_in | go_back | fail))
   with_reducible refine wp_reg (id := 4) ?_
   iterate 4
    refine wpO_want rfl ?_
    go_simp
   refine wpO_done ?_
   try go_frame
   clear hil
   go_wp2_with fail
   refine Sp.leaves0 ?_
   exact ⟨_,results_tmp (t := 4) rfl _ _ _,rfl,(unhide hP).extf⟩
end Go.Proofs.YtbpeemhfjgcnaaaGreat
namespace Go.Proofs.YtbpeemhfjgcnaaaGreat
open Go Go.RowKit Go.Shelf
attribute [local go_sem] qUpon lUpon
attribute [local irreducible] wpO wpX wpQL
def orbT (MP : List (List Int)) (ids : List Int) (k : Nat) : List (List Int) := ((List.range k).filter fun i => decide ((orbR MP ids i).head? = some (ids.getD i 0))).map (orbR MP ids)
theorem orbT_next (MP : List (List Int)) (ids : List Int) (k : Nat) : orbT MP ids (k + 1) = orbT MP ids k ++ if (orbR MP ids k).head? = some (ids.getD k 0) then [orbR MP ids k] else [] := by
  unfold orbT
  rw [List.range_succ, List.filter_append, List.map_append]
  congr 1
  by_cases h : (orbR MP ids k).head? = some (ids.getD k 0)
  · rw [if_pos h, List.filter_cons_of_pos (by exact decide_eq_true h)]
    rfl
  · rw [if_neg h, List.filter_cons_of_neg (by rw [decide_eq_true_eq]; exact h)]
    rfl
theorem orbT_len (MP : List (List Int)) (ids : List Int) (k : Nat) : (orbT MP ids k).length ≤ k := by
  unfold orbT
  rw [List.length_map]
  exact Nat.le_trans (List.length_filter_le _ _) (by simp)
theorem orbT_mem {MP : List (List Int)} {ids : List Int} {k : Nat} {B : List Int} (h : B ∈ orbT MP ids k) : B.length ≤ ids.length := by
  obtain ⟨i, _, rfl⟩ := List.mem_map.1 h
  exact List.length_filter_le _ _
theorem any_next {α : Type} (f : α → Bool) {l : List α} {j : Nat} (h : j < l.length) : (l.take (j + 1)).any f = ((l.take j).any f || f l[j]) := by
  rw [List.take_succ_eq_append_getElem h, List.any_append]
  simp
theorem maps_le {V V' : List (Int × Thing)} {E E' : List ((Int × Int) × Thing)} {ids ids' : List Int} (h : ids'.length ≤ 8) : (mapsP V E ids V' E' ids').length ≤ 40320 := by
  unfold mapsP
  split
  · rename_i he
    refine Nat.le_trans (List.length_filter_le _ _) ?_
    rw [allN_len _ ids' (by first | rfl | exact he.symm | exact he)]
    have h8 : ids.length ≤ 8 := by omega
    generalize ids.length = n at *
    first
    | (rcases n with _ | _ | _ | _ | _ | _ | _ | _ | _ | n
       all_goals first | decide | omega)
    | (generalize ids'.length = n at *
       rcases n with _ | _ | _ | _ | _ | _ | _ | _ | _ | n
       all_goals first | decide | omega)
  · simp
set_option maxRecDepth 100000 in
set_option maxHeartbeats 16000000 in
theorem orbits08_any (A1 B1 : Option Addr) (V : List (Int × Thing)) (E : List ((Int × Int) × Thing)) (nV nE cA cB : Nat) (w : World) (hsV : SlAt encV 3 w A1 V) (hsE : SlAt encE 4 w B1 E) (hi : GInv V E) (hlb : LabB V E) (hnV : nV = V.length) (hnE : nE = E.length) (hl : nV ≤ 8) :
    Calls Tryz.prog 33 #[.agg #[.slice A1 nV cA, .slice B1 nE cB]] w (SsR w (orbT (mapsP V E (idsV V) V E (idsV V)) (idsV V) V.length)) := by
  have hmp := hide (fun (W : World) (hW : Ext w W) => maps08_any A1 B1 A1 B1 V V E E nV nE cA cB nV nE cA cB W (hsV.ext hW) (hsE.ext hW) (hsV.ext hW) (hsE.ext hW) hi hi hlb hlb hnV hnE hnV hnE hl hl)
  have hidc := hide (fun (W : World) (hW : Ext w W) => ids08_any A1 B1 V nV nE cA cB W (hsV.ext hW) hnV (by omega))
  obtain ⟨ids, hids0⟩ : ∃ l, l = idsV V := ⟨_, rfl⟩
  have hil := hide (show nV = ids.length by rw [hids0, idsV_len, hnV])
  obtain ⟨MP, hMP0⟩ : ∃ l, l = mapsP V E (idsV V) V E (idsV V) := ⟨_, rfl⟩
  have hMl := hide (show ∀ K ∈ MP, K.length = nV from fun K hK => by
    rw [hMP0] at hK
    rw [(mem_mapsP.1 hK).2.1.length_eq, idsV_len, hnV])
  have hMn := hide (show MP.length ≤ 40320 by rw [hMP0]; exact maps_le (by rw [idsV_len]; omega))
  have hMi := hide (show ids ∈ MP by rw [hMP0, hids0]; exact auto_id)
  rw [← hMP0] at hmp
  rw [← hids0] at hidc
  rw [← hMP0, ← hids0]
  rw [← hnV]
  have hl' := hide hl
  clear hsV hsE hi hlb hnV hnE hl hids0 hMP0
  have hP := hide (Sp.new w)
  refine callsIn_wide.1 (callsIn_of_wp_marks (n := 0) Tryz.func33 rfl trivial (wpIn_wide.2 ?_))
  simp only [Tryz.ntmps33, List.size_toArray, List.length_cons, List.length_nil, Nat.reduceAdd, Nat.reduceSub, Array.replicate_succ, Array.replicate_zero, List.push_toArray, List.append_toArray, List.nil_append, List.cons_append]
  try dsimp only
  repeat ((fail_if_success (with_reducible refine wp_reg (id := 0) ?_)); (first | go_values | go_skip | go_step | go_guarded | go_upon | go_in | go_back | fail))
  with_reducible refine wp_reg (id := 0) ?_
  refine (unhide hP).allocO 28 #[.slice A1 nV cA, .slice B1 nE cB] rfl (run_box (v := .agg #[.slice A1 nV cA, .slice B1 nE cB]) rfl rfl) ?_
  intro r1 y1 hQ
  replace hP : Hid (Sp w [] w [] [(r1, 28, #[.slice A1 nV cA, .slice B1 nE cB])] [] y1) := hide hQ
  clear hQ
  refine wpO_want rfl ?_
  go_simp
  refine wpO_done ?_
  try go_frame
  have q0 := (unhide hP).cell 0 0 (v := .slice A1 nV cA) rfl rfl
  have q1 := (unhide hP).cell 0 1 (v := .slice B1 nE cB) rfl rfl
  have hself := Ext.refl y1
  try dsimp only
  repeat ((fail_if_success (with_reducible refine wp_reg (id := 1) ?_)); (first | go_values | go_skip | go_step | go_guarded | go_upon | go_in | go_back | fail))
  with_reducible refine wp_reg (id := 1) ?_
  iterate 2
    refine wpO_want rfl ?_
    go_simp
  clear q0 q1 hself
  refine wpO_want rfl ?_
  go_simp
  refine (unhide hmp _ (unhide hP).extf).mono ?_
  rintro _ y2 ⟨At, nt, ct, rfl, hnt0, hss0, hxc⟩
  have hnt := hide hnt0
  have hss := hide hss0
  refine ⟨_, rfl, ?_⟩
  replace hP : Hid (Sp w [] w [] [(r1, 28, #[.slice A1 nV cA, .slice B1 nE cB])] [] y2) := hide ((unhide hP).ext hxc)
  clear hxc hnt0 hss0
  refine wpO_want rfl ?_
  go_simp
  refine wpO_done ?_
  try go_frame
  try dsimp only
  repeat ((fail_if_success (with_reducible refine wp_reg (id := 2) ?_)); (first | go_values | go_skip | go_step | go_guarded | go_upon | go_in | go_back | fail))
  with_reducible refine wp_reg (id := 2) ?_
  refine wpO_want rfl ?_
  go_simp
  refine wpO_done ?_
  try go_frame
  have q0 := (unhide hP).cell 0 0 (v := .slice A1 nV cA) rfl rfl
  have q1 := (unhide hP).cell 0 1 (v := .slice B1 nE cB) rfl rfl
  have hself := Ext.refl y2
  try dsimp only
  repeat ((fail_if_success (with_reducible refine wp_reg (id := 3) ?_)); (first | go_values | go_skip | go_step | go_guarded | go_upon | go_in | go_back | fail))
  with_reducible refine wp_reg (id := 3) ?_
  refine wpO_want rfl ?_
  go_simp
  clear q0 q1 hself
  refine wpO_want rfl ?_
  go_simp
  refine (unhide hidc _ (unhide hP).extf).mono ?_
  rintro _ y3 ⟨Ai, ni, ci, rfl, hni0, ho1, hxc⟩
  obtain rfl : nV = ni := by rw [hni0]; exact unhide hil
  have hsi := hide (own_at (enc := encI) (by rw [hni0] at ho1; exact ho1) (fun _ => rfl))
  refine ⟨_, rfl, ?_⟩
  replace hP : Hid (Sp w [] w [] [(r1, 28, #[.slice A1 nV cA, .slice B1 nE cB])] [] y3) := hide ((unhide hP).ext hxc)
  replace hss := hide ((unhide hss).ext (hxc))
  clear hxc ho1 hni0 hmp hidc
  refine wpO_want rfl ?_
  go_simp
  refine wpO_done ?_
  try go_frame
  have hbase := hide (unhide hP).extf
  clear hP
  generalize y3 = wb at *
  have hP := hide (Sp.new wb)
  replace hP : Hid (Sp wb [] wb [] [] [(31, 1, .slice none 0 0, 0, ([] : List Sl).flatMap encSl)] wb) := hide ((unhide hP).nil 31 1)
  go_wp2_with fail
  obtain ⟨I3_2, hI3_20⟩ : ∃ I : Nat → Act → World → Prop, I = fun fi a' wr => ∃ (i : Nat), ∃ (Ax : Option Addr), ∃ (m : Nat), ∃ (cx : Nat), ∃ (Jn : List (Sl × List Int)), a'.tmps.size = 70 ∧ a'.tmps.getD 3 undef = .slice At nt ct ∧ a'.tmps.getD 4 undef = .slice Ax m cx ∧ a'.tmps.getD 5 undef = .slice Ai nV ci ∧ a'.tmps.getD 6 undef = .int .i64 (i : Nat) ∧ a'.defers = [] ∧ i ≤ nV ∧ m = Jn.length ∧ Jn.map (·.2) = orbT MP ids i ∧ (∀ p ∈ Jn, p.1.2.1 = p.2.length) ∧ Sp wb [] wb [] [] ((31, 1, .slice Ax m cx, m, (Jn.map (·.1)).flatMap encSl) :: (Jn.map rowJ)) wr ∧ fi = nV - i := ⟨_, rfl⟩
  have hI3_2 := hide hI3_20
  clear hI3_20
  refine wp_loop_ix I3_2 (nV - 0) ?_ ?_
  · rw [unhide hI3_2]; exact ⟨0, none, 0, 0, [], rfl, rfl, rfl, rfl, rfl, rfl, Nat.zero_le _, rfl, rfl, (fun p hp => by cases hp), unhide hP, rfl⟩
  · rintro fi ⟨tm, dfs⟩ wr hrel
    rw [unhide hI3_2] at hrel
    obtain ⟨i, Ax, m, cx, Jn, hsz, e3, e4, e5, e6, hdf, hin, hm0, hJ0, hJl0, hPr, hfm⟩ := hrel
    obtain ⟨us, rfl⟩ : ∃ us : Nat → Value, tm = #[us 0, us 1, us 2, us 3, us 4, us 5, us 6, us 7, us 8, us 9, us 10, us 11, us 12, us 13, us 14, us 15, us 16, us 17, us 18, us 19, us 20, us 21, us 22, us 23, us 24, us 25, us 26, us 27, us 28, us 29, us 30, us 31, us 32, us 33, us 34, us 35, us 36, us 37, us 38, us 39, us 40, us 41, us 42, us 43, us 44, us 45, us 46, us 47, us 48, us 49, us 50, us 51, us 52, us 53, us 54, us 55, us 56, us 57, us 58, us 59, us 60, us 61, us 62, us 63, us 64, us 65, us 66, us 67, us 68, us 69] := ⟨fun i => tm.getD i undef, arr_fn hsz⟩
    have h3 : us 3 = .slice At nt ct := e3
    have h4 : us 4 = .slice Ax m cx := e4
    have h5 : us 5 = .slice Ai nV ci := e5
    have h6 : us 6 = .int .i64 (i : Nat) := e6
    have hdf2 : dfs = [] := hdf
    subst hdf2
    clear hdf hsz e3 e4 e5 e6
    simp only [h3, h4, h5, h6]
    clear h3 h4 h5 h6
    clear hP
    have hP := hide hPr
    have hfm' := hide hfm
    have hm := hide hm0
    have hJ := hide hJ0
    have hJl := hide hJl0
    clear hPr hfm hm0 hJ0 hJl0
    by_cases hlt : i < nV
    · skip
      have hil9 : (i : Int) < (nV : Int) := by omega
      have hlt' := hide hlt
      have hib : (i : Int) ≤ 8 := by have := unhide hl'; omega
      have hmb := hide (show m ≤ 8 by
        rw [unhide hm, ← List.length_map (f := fun p : Sl × List Int => p.2), unhide hJ]
        exact Nat.le_trans (orbT_len MP ids i) (by omega))
      clear hlt hin
      try dsimp only
      repeat ((fail_if_success (with_reducible refine wp_reg (id := 5) ?_)); (first | go_values | go_skip | go_step | go_guarded | go_upon | go_in | go_back | fail))
      with_reducible refine wp_reg (id := 5) ?_
      iterate 4
        refine wpO_want rfl ?_
        go_simp
      refine wpO_done ?_
      try go_frame
      clear hil9
      go_wp2_with fail
      replace hP : Hid (Sp wb [] wb [] [] ((31, 1, .slice Ax m cx, m, (Jn.map (·.1)).flatMap encSl) :: (Jn.map rowJ ++ [(3, 1, .slice none 0 0, 0, ([] : List Int).flatMap encI)])) wr) := hide ((unhide hP).nil 3 1)
      obtain ⟨wo, hwo⟩ : ∃ wo, wo = wr := ⟨_, rfl⟩
      subst hwo
      obtain ⟨I3_6, hI3_60⟩ : ∃ I : Nat → Act → World → Prop, I = fun fk a' wr => ∃ (k : Nat), ∃ (Al : Option Addr), ∃ (ml : Nat), ∃ (cl : Nat), ∃ (xs : List Int), a'.tmps.size = 70 ∧ a'.tmps.getD 3 undef = .slice At nt ct ∧ a'.tmps.getD 4 undef = .slice Ax m cx ∧ a'.tmps.getD 5 undef = .slice Ai nV ci ∧ a'.tmps.getD 6 undef = .int .i64 (i : Nat) ∧ a'.tmps.getD 7 undef = .slice Al ml cl ∧ a'.tmps.getD 8 undef = .int .i64 (k : Nat) ∧ a'.defers = [] ∧ k ≤ nV ∧ ml = xs.length ∧ ((xs = (ids.take k).filter (fun x => MP.any fun t => t.getD i 0 == x))) ∧ Sp wb [] wb [] [] ((31, 1, .slice Ax m cx, m, (Jn.map (·.1)).flatMap encSl) :: (Jn.map rowJ ++ [(3, 1, .slice Al ml cl, ml, xs.flatMap encI)])) wr ∧ fk = nV - k := ⟨_, rfl⟩
      have hI3_6 := hide hI3_60
      clear hI3_60
      refine wp_loop_ix I3_6 (nV - 0) ?_ ?_
      · rw [unhide hI3_6]; exact ⟨0, none, 0, 0, [], rfl, rfl, rfl, rfl, rfl, rfl, rfl, rfl, Nat.zero_le _, rfl, rfl, unhide hP, rfl⟩
      · rintro fk ⟨tm, dfs⟩ wr hrel
        rw [unhide hI3_6] at hrel
        obtain ⟨k, Al, ml, cl, xs, hsz, e3, e4, e5, e6, e7, e8, hdf, hkn, hml0, hxs0, hPs, hgm⟩ := hrel
        obtain ⟨us, rfl⟩ : ∃ us : Nat → Value, tm = #[us 0, us 1, us 2, us 3, us 4, us 5, us 6, us 7, us 8, us 9, us 10, us 11, us 12, us 13, us 14, us 15, us 16, us 17, us 18, us 19, us 20, us 21, us 22, us 23, us 24, us 25, us 26, us 27, us 28, us 29, us 30, us 31, us 32, us 33, us 34, us 35, us 36, us 37, us 38, us 39, us 40, us 41, us 42, us 43, us 44, us 45, us 46, us 47, us 48, us 49, us 50, us 51, us 52, us 53, us 54, us 55, us 56, us 57, us 58, us 59, us 60, us 61, us 62, us 63, us 64, us 65, us 66, us 67, us 68, us 69] := ⟨fun i => tm.getD i undef, arr_fn hsz⟩
        have h3 : us 3 = .slice At nt ct := e3
        have h4 : us 4 = .slice Ax m cx := e4
        have h5 : us 5 = .slice Ai nV ci := e5
        have h6 : us 6 = .int .i64 (i : Nat) := e6
        have h7 : us 7 = .slice Al ml cl := e7
        have h8 : us 8 = .int .i64 (k : Nat) := e8
        have hdf2 : dfs = [] := hdf
        subst hdf2
        clear hdf hsz e3 e4 e5 e6 e7 e8
        simp only [h3, h4, h5, h6, h7, h8]
        clear h3 h4 h5 h6 h7 h8
        clear hP
        have hP := hide hPs
        have hgm' := hide hgm
        have hml := hide hml0
        have hxs := hide hxs0
        clear hPs hgm hml0 hxs0
        by_cases hkt : k < nV
        · skip
          have hil9 : (k : Int) < (nV : Int) := by omega
          have hkt' := hide hkt
          have hkb : (k : Int) ≤ 8 := by have := unhide hl'; omega
          have hkI : k < ids.length := by rw [← unhide hil]; exact hkt
          have hmlb := hide (show ml ≤ 8 by
            rw [unhide hml, unhide hxs]
            refine Nat.le_trans (List.length_filter_le _ _) ?_
            rw [List.length_take]
            have := unhide hl'
            omega)
          have hfs := hide (filt_step (fun x => MP.any fun t => t.getD i 0 == x) hkI)
          obtain ⟨bi, oi, rfl, i0⟩ := atI (unhide hsi) hkI
          obtain ⟨x, hx0⟩ : ∃ x, x = ids[k] := ⟨_, rfl⟩
          rw [← hx0] at i0 hfs
          have i0h := hide i0
          clear hx0 hkt hkn i0 hkI
          try dsimp only
          repeat ((fail_if_success (with_reducible refine wp_reg (id := 9) ?_)); (first | go_values | go_skip | go_step | go_guarded | go_upon | go_in | go_back | fail))
          with_reducible refine wp_reg (id := 9) ?_
          iterate 4
            refine wpO_want rfl ?_
            go_simp
          refine wpO_done ?_
          try go_frame
          clear hil9
          go_wp2_with fail
          obtain ⟨wo2, hwo2⟩ : ∃ wo, wo = wr := ⟨_, rfl⟩
          subst hwo2
          obtain ⟨I3_10, hI3_100⟩ : ∃ I : Nat → Act → World → Prop, I = fun fh a' wr => ∃ (t : Nat), ∃ (q : Bool), a'.tmps.size = 70 ∧ a'.tmps.getD 3 undef = .slice At nt ct ∧ a'.tmps.getD 4 undef = .slice Ax m cx ∧ a'.tmps.getD 5 undef = .slice (some ⟨bi, oi, none⟩) nV ci ∧ a'.tmps.getD 6 undef = .int .i64 (i : Nat) ∧ a'.tmps.getD 7 undef = .slice Al ml cl ∧ a'.tmps.getD 8 undef = .int .i64 (k : Nat) ∧ a'.tmps.getD 9 undef = .bool q ∧ a'.tmps.getD 10 undef = .int .i64 (t : Nat) ∧ a'.defers = [] ∧ t ≤ nt ∧ ((q = (MP.take t).any (fun l => l.getD i 0 == x))) ∧ Sp wb [] wb [] [] ((31, 1, .slice Ax m cx, m, (Jn.map (·.1)).flatMap encSl) :: (Jn.map rowJ ++ [(3, 1, .slice Al ml cl, ml, xs.flatMap encI)])) wr ∧ fh = nt - t := ⟨_, rfl⟩
          have hI3_10 := hide hI3_100
          clear hI3_100
          refine wp_loop_ix I3_10 (nt - 0) ?_ ?_
          · rw [unhide hI3_10]; exact ⟨0, false, rfl, rfl, rfl, rfl, rfl, rfl, rfl, rfl, rfl, rfl, Nat.zero_le _, rfl, unhide hP, rfl⟩
          · rintro fh ⟨tm, dfs⟩ wr hrel
            rw [unhide hI3_10] at hrel
            obtain ⟨t, q, hsz, e3, e4, e5, e6, e7, e8, e9, e10, hdf, htn, hq0, hPt, hhm⟩ := hrel
            obtain ⟨us, rfl⟩ : ∃ us : Nat → Value, tm = #[us 0, us 1, us 2, us 3, us 4, us 5, us 6, us 7, us 8, us 9, us 10, us 11, us 12, us 13, us 14, us 15, us 16, us 17, us 18, us 19, us 20, us 21, us 22, us 23, us 24, us 25, us 26, us 27, us 28, us 29, us 30, us 31, us 32, us 33, us 34, us 35, us 36, us 37, us 38, us 39, us 40, us 41, us 42, us 43, us 44, us 45, us 46, us 47, us 48, us 49, us 50, us 51, us 52, us 53, us 54, us 55, us 56, us 57, us 58, us 59, us 60, us 61, us 62, us 63, us 64, us 65, us 66, us 67, us 68, us 69] := ⟨fun i => tm.getD i undef, arr_fn hsz⟩
            have h3 : us 3 = .slice At nt ct := e3
            have h4 : us 4 = .slice Ax m cx := e4
            have h5 : us 5 = .slice (some ⟨bi, oi, none⟩) nV ci := e5
            have h6 : us 6 = .int .i64 (i : Nat) := e6
            have h7 : us 7 = .slice Al ml cl := e7
            have h8 : us 8 = .int .i64 (k : Nat) := e8
            have h9 : us 9 = .bool q := e9
            have h10 : us 10 = .int .i64 (t : Nat) := e10
            have hdf2 : dfs = [] := hdf
            subst hdf2
            clear hdf hsz e3 e4 e5 e6 e7 e8 e9 e10
            simp only [h3, h4, h5, h6, h7, h8, h9, h10]
            clear h3 h4 h5 h6 h7 h8 h9 h10
            clear hP
            have hP := hide hPt
            have hhm' := hide hhm
            have hq := hide hq0
            clear hPt hhm hq0
            by_cases htt : t < nt
            · skip
              have hil9 : (t : Int) < (nt : Int) := by omega
              have htt' := hide htt
              have htb : (t : Int) ≤ 40320 := by have := unhide hMn; have := unhide hnt; omega
              have htM : t < MP.length := by rw [← unhide hnt]; exact htt
              obtain ⟨bt, ot, at9, ct9, rfl, t0, hst0⟩ := ss_atk (unhide hss) htM
              have hMk := unhide hMl MP[t] (List.getElem_mem _)
              rw [hMk] at t0
              have hiK : i < MP[t].length := by rw [hMk]; exact unhide hlt'
              obtain ⟨bk, ok9, rfl, k0⟩ := atI hst0 hiK
              rw [← getD_at hiK] at k0
              obtain ⟨v, hv0⟩ : ∃ v, v = MP[t].getD i 0 := ⟨_, rfl⟩
              rw [← hv0] at k0
              have han := hide (show (MP.take (t + 1)).any (fun l => l.getD i 0 == x) = ((MP.take t).any (fun l => l.getD i 0 == x) || (v == x)) by rw [any_next _ htM, hv0])
              have hxr := (unhide hP).extf
              have t0 : ∀ W, Keep [] wr W → W.cell? ⟨bt, ot + t, none⟩ = some (.slice (some ⟨bk, ok9, none⟩) nV ct9) := fun W hW => t0 W (hxr.trans (Ext.of_keep0 hW))
              have k0 : ∀ W, Keep [] wr W → W.cell? ⟨bk, ok9 + i, none⟩ = some (.int .i64 v) := fun W hW => k0 W (hxr.trans (Ext.of_keep0 hW))
              have i0 : ∀ W, Keep [] wr W → W.cell? ⟨bi, oi + k, none⟩ = some (.int .i64 x) := fun W hW => unhide i0h W (hxr.trans (Ext.of_keep0 hW))
              have hself := Keep.refl [] wr
              obtain ⟨bb, hbb⟩ : ∃ b, ((v : Int) == x) = b := ⟨_, rfl⟩
              have hbb' := hide hbb
              have hl9 : (i : Int) < (nV : Int) := by have := unhide hlt'; omega
              have hk9 : (k : Int) < (nV : Int) := by have := unhide hkt'; omega
              clear hv0 hMk hiK htM hst0 hxr htt htn
              try dsimp only
              repeat ((fail_if_success (with_reducible refine wp_reg (id := 13) ?_)); (first | go_values | go_skip | go_step | go_guarded | go_upon | go_in | go_back | fail))
              with_reducible refine wp_reg (id := 13) ?_
              iterate 4
                refine wpO_want rfl ?_
                go_simp
              refine wpO_done ?_
              try go_frame
              go_wp2_with fail
              cases q
              · skip
                refine wp_regionK (P := Tryz.prog) [] [0,1,2,3,4,5,6,7,8,9,10,11,12,13,14,15] [] 0 #[true,true,true,true,true,true,true,true,true,true,true,true,true,true,true,true] (by kernel_rfl) (by kernel_rfl) rfl (by rfl) ?_
                iterate 16
                  first
                  | (refine ql_skip rfl (by rfl) ?_)
                  | (refine ql_want (v := ?_) rfl (by rfl) (fun W hW => ?_) ?_; rotate_left; (go_simp; (first | done | rfl)))
                  try go_frame
                refine wpQL_nil (fun y4 hxq => ?_)
                have hK := hide (hxq.keep [])
                replace hP : Hid (Sp wb [] wb [] [] ((31, 1, .slice Ax m cx, m, (Jn.map (·.1)).flatMap encSl) :: (Jn.map rowJ ++ [(3, 1, .slice Al ml cl, ml, xs.flatMap encI)])) y4) := hide ((unhide hP).ext hxq)
                clear hxq
                refine wpX_done (by kernel_rfl) ?_
                try go_frame
                clear hK
                clear t0 k0 i0 hself hbb hil9 hl9 hk9
                go_wp2_with fail
                refine ⟨nt - (t + 1), ?_, by have := unhide hhm'; have := unhide htt'; omega⟩
                rw [unhide hI3_10]
                exact ⟨t + 1, bb, (by first | rfl | trivial), (by first | rfl | trivial), (by first | rfl | trivial), (by first | rfl | trivial), (by first | rfl | trivial), (by first | rfl | trivial), (by first | rfl | trivial), (by first | rfl | trivial), (by first | rfl | (show _ = Value.int _ _; go_num) | go_num), (by first | rfl | trivial), by have := unhide htt'; omega, (by have h9 := unhide han; rw [h9, ← unhide hq, unhide hbb']; rfl), unhide hP, rfl⟩
              · skip
                refine wp_regionK (P := Tryz.prog) [] [0,1,2,3,4,5,6,7,8,9,10,11,12,13,14,15] [] 0 #[true,true,true,true,true,true,true,true,true,true,true,true,true,true,true,true] (by kernel_rfl) (by kernel_rfl) rfl (by rfl) ?_
                iterate 16
                  first
                  | (refine ql_skip rfl (by rfl) ?_)
                  | (refine ql_want (v := ?_) rfl (by rfl) (fun W hW => ?_) ?_; rotate_left; (go_simp; (first | done | rfl)))
                  try go_frame
                refine wpQL_nil (fun y4 hxq => ?_)
                have hK := hide (hxq.keep [])
                replace hP : Hid (Sp wb [] wb [] [] ((31, 1, .slice Ax m cx, m, (Jn.map (·.1)).flatMap encSl) :: (Jn.map rowJ ++ [(3, 1, .slice Al ml cl, ml, xs.flatMap encI)])) y4) := hide ((unhide hP).ext hxq)
                clear hxq
                refine wpX_done (by kernel_rfl) ?_
                try go_frame
                clear hK
                clear t0 k0 i0 hself hbb hil9 hl9 hk9
                go_wp2_with fail
                refine ⟨nt - (t + 1), ?_, by have := unhide hhm'; have := unhide htt'; omega⟩
                rw [unhide hI3_10]
                exact ⟨t + 1, true, (by first | rfl | trivial), (by first | rfl | trivial), (by first | rfl | trivial), (by first | rfl | trivial), (by first | rfl | trivial), (by first | rfl | trivial), (by first | rfl | trivial), (by first | rfl | trivial), (by first | rfl | (show _ = Value.int _ _; go_num) | go_num), (by first | rfl | trivial), by have := unhide htt'; omega, (by have h9 := unhide han; rw [h9, ← unhide hq]; rfl), unhide hP, rfl⟩
            · skip
              have hil9 : ¬ (t : Int) < (nt : Int) := by omega
              have hqa := hide (show q = (fun x => MP.any fun t => t.getD i 0 == x) x by
                have h := unhide hq
                rw [List.take_of_length_le (by rw [← unhide hnt]; omega)] at h
                exact h)
              clear htt htn hq hhm'
              try dsimp only
              repeat ((fail_if_success (with_reducible refine wp_reg (id := 13) ?_)); (first | go_values | go_skip | go_step | go_guarded | go_upon | go_in | go_back | fail))
              with_reducible refine wp_reg (id := 13) ?_
              iterate 4
                refine wpO_want rfl ?_
                go_simp
              refine wpO_done ?_
              try go_frame
              clear hil9
              cases q
              · skip
                go_wp2_with fail
                refine ⟨nV - (k + 1), ?_, by have := unhide hgm'; have := unhide hkt'; omega⟩
                rw [unhide hI3_6]
                exact ⟨k + 1, Al, ml, cl, xs, (by first | rfl | trivial), (by first | rfl | trivial), (by first | rfl | trivial), (by first | rfl | trivial), (by first | rfl | trivial), (by first | rfl | trivial), (by first | rfl | (show _ = Value.int _ _; go_num) | go_num), (by first | rfl | trivial), by have := unhide hkt'; omega, unhide hml, (by rw [unhide hfs, ← unhide hqa, if_neg (by simp), List.append_nil]; exact unhide hxs), unhide hP, rfl⟩
              · skip
                try dsimp only
                repeat ((fail_if_success (with_reducible refine wp_reg (id := 16) ?_)); (first | go_values | go_skip | go_step | go_guarded | go_upon | go_in | go_back | fail))
                with_reducible refine wp_reg (id := 16) ?_
                refine wpO_want rfl ?_
                go_simp
                refine wpO_done ?_
                try go_frame
                have hxr := (unhide hP).extf
                have i0 : ∀ W, Ext wr W → W.cell? ⟨bi, oi + k, none⟩ = some (.int .i64 x) := fun W hW => unhide i0h W (hxr.trans hW)
                have hself := Ext.refl wr
                have hk9 : (k : Int) < (nV : Int) := by have := unhide hkt'; omega
                try dsimp only
                repeat ((fail_if_success (with_reducible refine wp_reg (id := 17) ?_)); (first | go_values | go_skip | go_step | go_guarded | go_upon | go_in | go_back | fail))
                with_reducible refine wp_reg (id := 17) ?_
                iterate 5
                  refine wpO_want rfl ?_
                  go_simp
                clear i0 hself hk9 hxr
                refine (unhide hP).buildO 1 3 #[.int .i64 x] rfl (by go_simp) ?_
                intro bn y4 hQ
                replace hP : Hid (Sp wb [] wb [] [(bn, 3, #[.int .i64 x])] ((31, 1, .slice Ax m cx, m, (Jn.map (·.1)).flatMap encSl) :: (Jn.map rowJ ++ [(3, 1, .slice Al ml cl, ml, xs.flatMap encI)])) y4) := hide hQ
                clear hQ
                try go_frame
                refine (unhide hP).ap1O (enc := encI) (T := 3) (ST := 31) ((Jn.map rowJ).length + 1) (v := .slice Al ml cl) (m := ml) (xs := xs) (get_tail _ _ _) rfl infoI Tryz.underlying31 one_encI (fun _ => rfl) (by decide) (by decide) rfl x rfl rfl ((unhide hP).get 0 rfl) (by have := unhide hmlb; omega) ?_
                intro A4 cA4 y5 hQ
                rw [set_tail] at hQ
                replace hP : Hid (Sp wb [] wb [] [(bn, 3, #[.int .i64 x])] ((31, 1, .slice Ax m cx, m, (Jn.map (·.1)).flatMap encSl) :: (Jn.map rowJ ++ [(3, 1, .slice A4 (ml + 1) cA4, ml + 1, (xs ++ [x]).flatMap encI)])) y5) := hide hQ
                clear hQ
                try go_frame
                refine wpO_want rfl ?_
                go_simp
                refine wpO_done ?_
                try go_frame
                replace hP : Hid (Sp wb [] wb [] [] ((31, 1, .slice Ax m cx, m, (Jn.map (·.1)).flatMap encSl) :: (Jn.map rowJ ++ [(3, 1, .slice A4 (ml + 1) cA4, ml + 1, (xs ++ [x]).flatMap encI)])) y5) := hide ((unhide hP).sub (List.sublist_append_left _ ([(bn, 3, #[.int .i64 x])] : List Cl)) (List.Sublist.refl _))
                go_wp2_with fail
                refine ⟨nV - (k + 1), ?_, by have := unhide hgm'; have := unhide hkt'; omega⟩
                rw [unhide hI3_6]
                exact ⟨k + 1, A4, ml + 1, cA4, xs ++ [x], (by first | rfl | trivial), (by first | rfl | trivial), (by first | rfl | trivial), (by first | rfl | trivial), (by first | rfl | trivial), (by first | rfl | trivial), (by first | rfl | (show _ = Value.int _ _; go_num) | go_num), (by first | rfl | trivial), by have := unhide hkt'; omega, (by rw [List.length_append, ← unhide hml]; rfl), (by rw [unhide hfs, ← unhide hqa, if_pos rfl, ← unhide hxs]), unhide hP, rfl⟩
        · skip
          have hil9 : ¬ (k : Int) < (nV : Int) := by omega
          have hxo := hide (show xs = orbR MP ids i by
            have h := unhide hxs
            rw [List.take_of_length_le (by rw [← unhide hil]; omega)] at h
            exact h)
          have hiI : i < ids.length := by rw [← unhide hil]; exact unhide hlt'
          have hx0 : 0 < xs.length := by
            have hm : ids.getD i 0 ∈ xs := by
              rw [unhide hxo]
              unfold orbR
              rw [List.mem_filter, List.any_eq_true]
              exact ⟨by rw [getD_at hiI]; exact List.getElem_mem _, ids, unhide hMi, by simp⟩
            exact List.length_pos_of_mem hm
          have hsx : SlAt encI 1 wr Al xs := own_at (enc := encI) (by have h := (unhide hP).row ((Jn.map rowJ).length + 1) (get_tail _ _ _); rw [unhide hml] at h; exact h) (fun _ => rfl)
          obtain ⟨bl, ol, rfl, l0⟩ := atI hsx hx0
          obtain ⟨bi, oi, rfl, i0⟩ := atI (unhide hsi) hiI
          have hxr := (unhide hP).extf
          obtain ⟨p, hp0⟩ : ∃ p, p = xs[0] := ⟨_, rfl⟩
          obtain ⟨r, hr0⟩ : ∃ r, r = ids[i] := ⟨_, rfl⟩
          rw [← hp0] at l0
          rw [← hr0] at i0
          have l0 : ∀ W, Keep [] wr W → W.cell? ⟨bl, ol, none⟩ = some (.int .i64 p) := fun W hW => by simpa using l0 W (Ext.of_keep0 hW)
          have i0 : ∀ W, Keep [] wr W → W.cell? ⟨bi, oi + i, none⟩ = some (.int .i64 r) := fun W hW => i0 W (hxr.trans (Ext.of_keep0 hW))
          have hself := Keep.refl [] wr
          obtain ⟨bb, hbb⟩ : ∃ b, ((p : Int) == r) = b := ⟨_, rfl⟩
          have hhd := hide (show (orbR MP ids i).head? = some (ids.getD i 0) ↔ bb = true by
            rw [← unhide hxo, List.head?_eq_getElem?, List.getElem?_eq_getElem hx0, getD_at hiI, ← hp0, ← hr0, ← hbb]
            simp)
          have hnx := hide (orbT_next MP ids i)
          have hl0 : (0 : Int) < (ml : Int) := by rw [unhide hml]; omega
          have hl1 : 0 < ml := by omega
          have hl9 : (i : Int) < (nV : Int) := by have := unhide hlt'; omega
          clear hp0 hr0 hxr hsx hx0 hiI hkt hkn
          try dsimp only
          repeat ((fail_if_success (with_reducible refine wp_reg (id := 9) ?_)); (first | go_values | go_skip | go_step | go_guarded | go_upon | go_in | go_back | fail))
          with_reducible refine wp_reg (id := 9) ?_
          iterate 4
            refine wpO_want rfl ?_
            go_simp
          refine wpO_done ?_
          try go_frame
          clear hil9
          go_wp2_with fail
          refine wp_regionK (P := Tryz.prog) [] [0,1,2,3,4,5,6,7] [] 0 #[true,true,true,true,true,true,true,true] (by kernel_rfl) (by kernel_rfl) rfl (by rfl) ?_
          iterate 8
            first
            | (refine ql_skip rfl (by rfl) ?_)
            | (refine ql_want (v := ?_) rfl (by rfl) (fun W hW => ?_) ?_; rotate_left; (go_simp; (first | done | rfl)))
            try go_frame
          refine wpQL_nil (fun y4 hxq => ?_)
          have hK := hide (hxq.keep [])
          replace hP : Hid (Sp wb [] wb [] [] ((31, 1, .slice Ax m cx, m, (Jn.map (·.1)).flatMap encSl) :: (Jn.map rowJ ++ [(3, 1, .slice (some ⟨bl, ol, none⟩) ml cl, ml, xs.flatMap encI)])) y4) := hide ((unhide hP).ext hxq)
          clear hxq
          refine wpX_done (by kernel_rfl) ?_
          try go_frame
          clear hK
          clear l0 i0 hself hbb hl0 hl1 hl9
          cases bb
          · skip
            go_wp2_with fail
            have hp9 := (unhide hP).sub (List.Sublist.refl _) (List.Sublist.cons_cons _ (List.sublist_append_left (Jn.map rowJ) _))
            have hno := unhide hhd
            refine ⟨nV - (i + 1), ?_, by have := unhide hfm'; have := unhide hlt'; omega⟩
            rw [unhide hI3_2]
            exact ⟨i + 1, Ax, m, cx, Jn, (by first | rfl | trivial), (by first | rfl | trivial), (by first | rfl | trivial), (by first | rfl | trivial), (by first | rfl | (show _ = Value.int _ _; go_num) | go_num), (by first | rfl | trivial), by have := unhide hlt'; omega, unhide hm, (by rw [unhide hnx, if_neg (fun h9 => by have := hno.1 h9; cases this), List.append_nil]; exact unhide hJ), unhide hJl, hp9, rfl⟩
          · skip
            try dsimp only
            repeat ((fail_if_success (with_reducible refine wp_reg (id := 19) ?_)); (first | go_values | go_skip | go_step | go_guarded | go_upon | go_in | go_back | fail))
            with_reducible refine wp_reg (id := 19) ?_
            iterate 2
              refine wpO_want rfl ?_
              go_simp
            refine (unhide hP).buildO 1 31 #[.slice (some ⟨bl, ol, none⟩) ml cl] rfl (by go_simp) ?_
            intro bs y5 hQ
            replace hP : Hid (Sp wb [] wb [] [(bs, 31, #[.slice (some ⟨bl, ol, none⟩) ml cl])] ((31, 1, .slice Ax m cx, m, (Jn.map (·.1)).flatMap encSl) :: (Jn.map rowJ ++ [(3, 1, .slice (some ⟨bl, ol, none⟩) ml cl, ml, xs.flatMap encI)])) y5) := hide hQ
            clear hQ
            try go_frame
            refine (unhide hP).ap1O (enc := encSl) (T := 31) (ST := 42) 0 (v := .slice Ax m cx) (m := m) (xs := Jn.map (·.1)) rfl rfl infoSl Tryz.underlying42 one_encSl (fun _ => rfl) (by decide) (by decide) rfl (some ⟨bl, ol, none⟩, ml, cl) rfl rfl ((unhide hP).get 0 rfl) (by have := unhide hmb; omega) ?_
            intro A9 cA9 y6 hQ
            replace hP : Hid (Sp wb [] wb [] [(bs, 31, #[.slice (some ⟨bl, ol, none⟩) ml cl])] ((31, 1, .slice A9 (m + 1) cA9, m + 1, ((Jn.map fun p : Sl × List Int => p.1) ++ [((some ⟨bl, ol, none⟩, ml, cl) : Sl)]).flatMap encSl) :: (Jn.map rowJ ++ [(3, 1, .slice (some ⟨bl, ol, none⟩) ml cl, ml, xs.flatMap encI)])) y6) := hide hQ
            clear hQ
            try go_frame
            replace hP : Hid (Sp wb [] wb [] [] ((31, 1, .slice A9 (m + 1) cA9, m + 1, ((Jn.map fun p : Sl × List Int => p.1) ++ [((some ⟨bl, ol, none⟩, ml, cl) : Sl)]).flatMap encSl) :: (Jn.map rowJ ++ [(3, 1, .slice (some ⟨bl, ol, none⟩) ml cl, ml, xs.flatMap encI)])) y6) := hide ((unhide hP).sub (List.sublist_append_left _ ([(bs, 31, #[.slice (some ⟨bl, ol, none⟩) ml cl])] : List Cl)) (List.Sublist.refl _))
            replace hP : Hid (Sp wb [] wb [] [] ((31, 1, .slice A9 (m + 1) cA9, m + 1, ((Jn ++ [(((some ⟨bl, ol, none⟩, ml, cl), xs) : Sl × List Int)]).map (·.1)).flatMap encSl) :: ((Jn ++ [(((some ⟨bl, ol, none⟩, ml, cl), xs) : Sl × List Int)]).map rowJ)) y6) := hide ((unhide hP).joinJ (p := ((some ⟨bl, ol, none⟩, ml, cl), xs)))
            refine wpO_want rfl ?_
            go_simp
            refine wpO_done ?_
            try go_frame
            go_wp2_with fail
            refine ⟨nV - (i + 1), ?_, by have := unhide hfm'; have := unhide hlt'; omega⟩
            rw [unhide hI3_2]
            exact ⟨i + 1, A9, m + 1, cA9, Jn ++ [((some ⟨bl, ol, none⟩, ml, cl), xs)], (by first | rfl | trivial), (by first | rfl | trivial), (by first | rfl | trivial), (by first | rfl | trivial), (by first | rfl | (show _ = Value.int _ _; go_num) | go_num), (by first | rfl | trivial), by have := unhide hlt'; omega, (by rw [List.length_append, ← unhide hm]; rfl), (by rw [List.map_append, unhide hJ, unhide hnx, if_pos ((unhide hhd).2 (by first | rfl | trivial)), ← unhide hxo]; rfl), (fun p hp => by
              rcases List.mem_append.1 hp with hp | hp
              · exact unhide hJl p hp
              · rw [List.mem_singleton] at hp; subst hp; exact unhide hml), unhide hP, rfl⟩
    · skip
      have hil9 : ¬ (i : Int) < (nV : Int) := by omega
      obtain rfl : i = nV := by omega
      clear hlt hin
      try dsimp only
      repeat ((fail_if_success (with_reducible refine wp_reg (id := 5) ?_)); (first | go_values | go_skip | go_step | go_guarded | go_upon | go_in | go_back | fail))
      with_reducible refine wp_reg (id := 5) ?_
      iterate 4
        refine wpO_want rfl ?_
        go_simp
      refine wpO_done ?_
      try go_frame
      clear hil9
      try dsimp only
      repeat ((fail_if_success (with_reducible refine wp_reg (id := 20) ?_)); (first | go_values | go_skip | go_step | go_guarded | go_upon | go_in | go_back | fail))
      with_reducible refine wp_reg (id := 20) ?_
      iterate 2
        refine wpO_want rfl ?_
        go_simp
      refine wpO_done ?_
      try go_frame
      go_wp2_with fail
      have hss9 := Sp.ss (tl := []) (by rw [List.append_nil]; exact unhide hP) (unhide hJl) rfl (unhide hm)
      refine Sp.leaves0 ?_
      refine ⟨_, results_tmp (t := 2) rfl _ _ _, Ax, m, cx, rfl, by rw [← unhide hJ, List.length_map]; exact unhide hm, by rw [← unhide hJ]; exact hss9, (unhide hbase).trans (unhide hP).extf⟩
end Go.Proofs.YtbpeemhfjgcnaaaGreat
namespace Go.Proofs
open Go.Shelf
def Tryz.sortA_ren : Go.Shelf.Ren := ⟨fun | 5 => 63 | 8 => 86 | 7 => 85 | 19 => 121 | 20 => 122 | 10 => 112 | 11 => 113 | 12 => 114 | 13 => 115 | 14 => 116 | 15 => 117 | 16 => 118 | 17 => 119 | 18 => 120 | 30 => 142 | 31 => 143 | 32 => 144 | 33 => 145 | 34 => 146 | 35 => 108 | 40 => 154 | n => n,fun | 23 => 31 | 25 => 3 | 3 => 3 | 32 => 147 | 22 => 31 | 0 => 0 | 44 => 166 | 46 => 47 | 4 => 4 | 36 => 158 | 35 => 157 | 41 => 163 | 5 => 5 | 9 => 9 | 53 => 180 | 57 => 184 | 63 => 190 | 64 => 129 | n => n,fun | n => n⟩
theorem Tryz.sortA : Go.Proofs.SlLaysM.n5 Tryz.prog Tryz.sortA_ren := {
 mixed := by kernel_rfl
 f5 := ⟨Tryz.f63.name,by decide,Tryz.func63.trans (congrArg some (by kernel_rfl))⟩
 f7 := ⟨Tryz.f85.name,by decide,Tryz.func85.trans (congrArg some (by kernel_rfl))⟩
 f8 := Tryz.func86.trans (congrArg some (by kernel_rfl))
 f10 := ⟨Tryz.f112.name,by decide,Tryz.func112.trans (congrArg some (by kernel_rfl))⟩
 f11 := ⟨Tryz.f113.name,by decide,Tryz.func113.trans (congrArg some (by kernel_rfl))⟩
 f12 := ⟨Tryz.f114.name,by decide,Tryz.func114.trans (congrArg some (by kernel_rfl))⟩
 f13 := ⟨Tryz.f115.name,by decide,Tryz.func115.trans (congrArg some (by kernel_rfl))⟩
 f14 := ⟨Tryz.f116.name,by decide,Tryz.func116.trans (congrArg some (by kernel_rfl))⟩
 f15 := ⟨Tryz.f117.name,by decide,Tryz.func117.trans (congrArg some (by kernel_rfl))⟩
 f16 := ⟨Tryz.f118.name,by decide,Tryz.func118.trans (congrArg some (by kernel_rfl))⟩
 f17 := ⟨Tryz.f119.name,by decide,Tryz.func119.trans (congrArg some (by kernel_rfl))⟩
 f18 := ⟨Tryz.f120.name,by decide,Tryz.func120.trans (congrArg some (by kernel_rfl))⟩
 f19 := Tryz.func121.trans (congrArg some (by kernel_rfl))
 f20 := Tryz.func122.trans (congrArg some (by kernel_rfl))
 f30 := ⟨Tryz.f142.name,by decide,Tryz.func142.trans (congrArg some (by kernel_rfl))⟩
 f31 := Tryz.func143.trans (congrArg some (by kernel_rfl))
 f32 := Tryz.func144.trans (congrArg some (by kernel_rfl))
 f33 := ⟨Tryz.f145.name,by decide,Tryz.func145.trans (congrArg some (by kernel_rfl))⟩
 f34 := ⟨Tryz.f146.name,by decide,Tryz.func146.trans (congrArg some (by kernel_rfl))⟩
 f35 := ⟨Tryz.f108.name,by decide,Tryz.func108.trans (congrArg some (by kernel_rfl))⟩
 f40 := ⟨Tryz.f154.name,by decide,Tryz.func154.trans (congrArg some (by kernel_rfl))⟩
 t0 := Tryz.underlying0
 a0 := Tryz.isAgg0
 z0 := Tryz.sizeOf0
 v0 := Tryz.zeroValue0
 t3 := Tryz.underlying3
 a3 := Tryz.isAgg3
 z3 := Tryz.sizeOf3
 v3 := Tryz.zeroValue3
 t4 := Tryz.underlying4
 a4 := Tryz.isAgg4
 z4 := Tryz.sizeOf4
 v4 := Tryz.zeroValue4
 t5 := Tryz.underlying5
 a5 := Tryz.isAgg5
 z5 := Tryz.sizeOf5
 v5 := Tryz.zeroValue5
 t9 := Tryz.underlying9
 a9 := Tryz.isAgg9
 z9 := Tryz.sizeOf9
 v9 := Tryz.zeroValue9
 t22 := Tryz.underlying31
 a22 := Tryz.isAgg31
 z22 := Tryz.sizeOf31
 v22 := Tryz.zeroValue31
 t23 := Tryz.underlying31
 a23 := Tryz.isAgg31
 z23 := Tryz.sizeOf31
 v23 := Tryz.zeroValue31
 t25 := Tryz.underlying3
 a25 := Tryz.isAgg3
 z25 := Tryz.sizeOf3
 v25 := Tryz.zeroValue3
 t32 := Tryz.underlying147
 a32 := Tryz.isAgg147
 z32 := Tryz.sizeOf147
 v32 := Tryz.zeroValue147
 t35 := Tryz.underlying157
 a35 := Tryz.isAgg157
 z35 := Tryz.sizeOf157
 v35 := Tryz.zeroValue157
 t36 := Tryz.underlying158
 a36 := Tryz.isAgg158
 z36 := Tryz.sizeOf158
 v36 := Tryz.zeroValue158
 t41 := Tryz.underlying163
 a41 := Tryz.isAgg163
 z41 := Tryz.sizeOf163
 v41 := Tryz.zeroValue163
 t44 := Tryz.underlying166
 a44 := Tryz.isAgg166
 z44 := Tryz.sizeOf166
 v44 := Tryz.zeroValue166
 t46 := Tryz.underlying47
 a46 := Tryz.isAgg47
 z46 := Tryz.sizeOf47
 v46 := Tryz.zeroValue47
 t53 := Tryz.underlying180
 a53 := Tryz.isAgg180
 z53 := Tryz.sizeOf180
 v53 := Tryz.zeroValue180
 t57 := Tryz.underlying184
 a57 := Tryz.isAgg184
 z57 := Tryz.sizeOf184
 v57 := Tryz.zeroValue184
 t63 := Tryz.underlying190
 a63 := Tryz.isAgg190
 z63 := Tryz.sizeOf190
 v63 := Tryz.zeroValue190
 t64 := Tryz.underlying129
 a64 := Tryz.isAgg129
 z64 := Tryz.sizeOf129
 v64 := Tryz.zeroValue129 }
end Go.Proofs
namespace Go.Proofs.YtbpeemhfjgcnaaaGreat
open Go Go.RowKit Go.Maps Go.Sort Go.Shelf
theorem encZ_flat : ∀ L : List Int,L.map encZ = L.flatMap encI
 | [] => rfl
 | x :: L => by rw [List.map_cons,List.flatMap_cons,encZ_flat L]; rfl
theorem sort_self {l L : List Int} (hp : l.Perm L) (hs : L.Pairwise (· < ·)) : l.mergeSort leI = L := by
 have tr : ∀ a b c : Int,leI a b = true → leI b c = true → leI a c = true := fun a b c h1 h2 => by simp only [leI,decide_eq_true_eq] at *; exact Int.le_trans h1 h2
 have to : ∀ a b : Int,(leI a b || leI b a) = true := fun a b => by simp only [leI,Bool.or_eq_true,decide_eq_true_eq]; exact Int.le_total a b
 refine List.Perm.eq_of_pairwise (le := fun a b => leI a b = true) (fun a b _ _ h1 h2 => ?_) (List.pairwise_mergeSort tr to l) (hs.imp fun {a b} h => by simp only [leI,decide_eq_true_eq]; omega) ((List.mergeSort_perm l leI).trans hp)
 simp only [leI,decide_eq_true_eq] at h1 h2
 exact Int.le_antisymm h1 h2
theorem sortRow (base : Nat) (v : Value) (xs S : List Int) (w : World) (hown : w.ownsRow base 3 1 v xs.length (xs.flatMap encI)) (hp : xs.Perm S) (hS : S.Pairwise (· < ·)) (hsz : xs.length ≤ 10000000) :
  Calls Tryz.prog 63 #[v] w fun e w' => e = .returned (.tuple #[]) ∧ w'.ownsRow base 3 1 v xs.length (S.flatMap encI) ∧ w.grownBy w' v.ownBlock := by
 have hso : xs.mergeSort (fun x y => decide (x ≤ y)) = S := sort_self hp hS
 rw [← encZ_flat] at hown
 rcases hown.2 with ⟨rfl,hz⟩ | ⟨gb,cap,cur,rfl,hbase,hgb,r1,r2,r3,r4⟩
 ·have hss : xs = [] := List.eq_nil_of_length_eq_zero hz
  subst hss
  have hS0 : S = [] := hp.symm.eq_nil
  subst hS0
  refine (AnyM.slices_Sort_int_none Tryz.sortA none 0 w).mono ?_
  rintro e w' ⟨rfl,rfl⟩
  exact ⟨rfl,World.ownsRow_nil _ _ _ _,World.grownBy.refl _ _⟩
 ·have hH : Go.Sort.Holds encZ w gb 0 xs.toArray := holds_of_block_i hgb (by simpa using r4)
  have hgl : gb < w.heap.size := (Array.getElem?_eq_some_iff.1 hgb).1
  refine (AnyM.slices_Sort_int Tryz.sortA gb 0 cap xs w hH hgl (by omega)).mono ?_
  rintro e w' ⟨rfl,nn,os,rfl⟩
  have h := ownsRow_sorted_i (os := os) (n := nn) (ts := xs.mergeSort fun x y => decide (x ≤ y)) (by simp) hbase hgb r1 r2 r3
  refine ⟨rfl, ?_,grownBy_sorted_i _⟩
  rw [hso,encZ_flat] at h
  rw [hso]
  exact h
theorem Sp.sortedR {wf w W W' : World} {T0 : List Nat} {ds : List Deferred} {L : List Cl} {Rs : List Rw} (h : Sp wf T0 w ds L Rs W) (i : Nat) {T k n : Nat} {v : Value} {xs xs' : List Value} (hk : k ≠ 0) (hi : Rs[i]? = some (T,k,v,n,xs)) (hown : W'.ownsRow wf.heap.size T k v n xs') (hg : W.grownBy W' v.ownBlock) : Sp wf T0 w ds L (Rs.set i (T,k,v,n,xs')) W' := h.push i hk hi (Ext.refl W) hown hg (.inl rfl)
end Go.Proofs.YtbpeemhfjgcnaaaGreat
namespace Go.Proofs.YtbpeemhfjgcnaaaGreat
open Go Go.RowKit Go.Shelf
attribute [local go_sem] qUpon lUpon
attribute [local irreducible] wpO wpX wpQL
theorem get_tailF {α : Type} (f f2 a x : α) (l : List α) : (f :: f2 :: a :: (l ++ [x]))[l.length + 1 + 1 + 1]? = some x := by simp
theorem set_tailF {α : Type} (f f2 a x y : α) (l : List α) : (f :: f2 :: a :: (l ++ [x])).set (l.length + 1 + 1 + 1) y = f :: f2 :: a :: (l ++ [y]) := by simp
theorem Sp.joinF {wf w W : World} {T0 : List Nat} {ds : List Deferred} {L : List Cl} {v : Value} {n : Nat} {J : List (Sl × List Int)} {T : TypeId} {f f2 : Rw} {p : Sl × List Int} (h : Sp wf T0 w ds L (f :: f2 :: (T,1,v,n,(J.map (·.1) ++ [p.1]).flatMap encSl) :: (J.map rowJ ++ [rowJ p])) W) : Sp wf T0 w ds L (f :: f2 :: (T,1,v,n,((J ++ [p]).map (·.1)).flatMap encSl) :: ((J ++ [p]).map rowJ)) W := by
 rw [List.map_append,List.map_append]
 exact h
def OrbPost (V : List (Int × Thing)) (E : List ((Int × Int) × Thing)) (w : World) (e : Ending) (w' : World) : Prop := ∃ A n c,e = .returned (.tuple #[.slice A n c, .int .i64 0]) ∧ n = (orbT (mapsP V E (idsV V) V E (idsV V)) (idsV V) V.length).length ∧ SSAt w' A (orbT (mapsP V E (idsV V) V E (idsV V)) (idsV V) V.length) ∧ Ext w w'
theorem blk_len (i : Nat) : ∀ (T : List (List Int)) (s : List Int × List Int),(T.foldl (blkF i) s).2.length ≤ s.2.length + T.length
 | [],s => by simp
 | t :: T,s => by
  rw [List.foldl_cons]
  have h := blk_len i T (blkF i s t)
  have h2 : (blkF i s t).2.length ≤ s.2.length + 1 := by
   unfold blkF
   split <;> simp
  simp only [List.length_cons]
  omega
theorem Sp.sortedF {wf w W W' : World} {T0 : List Nat} {ds : List Deferred} {L : List Cl} {f f2 a : Rw} {l : List Rw} {T n : Nat} {v : Value} {xs xs' : List Value} (h : Sp wf T0 w ds L (f :: f2 :: a :: (l ++ [(T,1,v,n,xs)])) W) (hown : W'.ownsRow wf.heap.size T 1 v n xs') (hg : W.grownBy W' v.ownBlock) : Sp wf T0 w ds L (f :: f2 :: a :: (l ++ [(T,1,v,n,xs')])) W' := by
 have h1 := h.sortedR (l.length + 1 + 1 + 1) (by decide) (get_tailF f f2 a _ l) hown hg
 rw [set_tailF] at h1
 exact h1
set_option maxRecDepth 100000 in
set_option maxHeartbeats 16000000 in
theorem orbits_any (g bv be : Nat) (V : List (Int × Thing)) (E : List ((Int × Int) × Thing)) (w : World) (hg : IsG w g bv be V E) (hl : V.length ≤ 8) (hlb : LabB V E) :
  Calls Tryz.prog 31 #[.pointer (some ⟨g,0,none⟩)] w (OrbPost V E w) := by
 have hg' := hide hg
 have hi := hide hg.inv
 have hlb' := hide hlb
 obtain ⟨nV,hnV0⟩ : ∃ nv,nv = V.length := ⟨_,rfl⟩
 have hnV := hide hnV0
 have hl' := hide (show nV ≤ 8 by omega)
 have hlV := hide hl
 obtain ⟨ids,hids0⟩ : ∃ l,l = idsV V := ⟨_,rfl⟩
 have hil := hide (show nV = ids.length by rw [hids0,idsV_len,hnV0])
 have hiv := hide (show ∀ i (h : i < V.length),ids.getD i 0 = V[i].1 from fun i h => by
  rw [hids0,getD_at (by rw [idsV_len]; exact h)]
  simp [idsV])
 have hsi := hide (show ids.Pairwise (· < ·) by rw [hids0]; exact hg.inv.idsS)
 obtain ⟨MP,hMP0⟩ : ∃ l,l = mapsP V E (idsV V) V E (idsV V) := ⟨_,rfl⟩
 have hMl := hide (show ∀ K ∈ MP,K.length = nV from fun K hK => by
  rw [hMP0] at hK
  rw [(mem_mapsP.1 hK).2.1.length_eq,idsV_len,hnV0])
 have hMn := hide (show MP.length ≤ 40320 by rw [hMP0]; exact maps_le (by rw [idsV_len]; omega))
 have hseen := hide (show ∀ i S,i < ids.length → SeenI V E ids i S → ids.getD i 0 ∈ S → (∃ x r,orbR MP ids i = x :: r ∧ x ≠ ids.getD i 0) ∧ SeenI V E ids (i + 1) S from fun i S h1 h2 h3 => by
  rw [hMP0, ← hids0]; exact orb_seen (by rw [hids0]; exact hg.inv.idsS) h1 h2 h3)
 have hnew := hide (show ∀ i S,i < ids.length → SeenI V E ids i S → ids.getD i 0 ∉ S → (∃ r,orbR MP ids i = ids.getD i 0 :: r) ∧ ∃ S' b,MP.foldl (blkF i) (S,[]) = (S',b) ∧ b.Perm (orbR MP ids i) ∧ SeenI V E ids (i + 1) S' from fun i S h1 h2 h3 => by
  rw [hMP0, ← hids0]; exact orb_new (by rw [hids0]; exact hg.inv.idsS) h1 h2 h3)
 have hrng := hide (show ∀ K ∈ MP, ∀ i,i < K.length → i64ok (K.getD i 0) from fun K hK i hi9 => by
  rw [hMP0] at hK
  have h1 : K.getD i 0 ∈ idsV V := (mem_mapsP.1 hK).2.1.mem_iff.1 (by rw [getD_at hi9]; exact List.getElem_mem _)
  obtain ⟨j,hj,e9⟩ := List.mem_iff_getElem.1 h1
  rw [← e9]
  exact okK (ids_rng9 hg.inv hj))
 have hvok := hide (show ∀ i (h : i < V.length),i64ok V[i].1 from fun i h => by
  have h2 : i < (idsV V).length := by rw [idsV_len]; exact h
  have h1 := okK (ids_rng9 hg.inv h2)
  simpa [idsV] using h1)
 unfold OrbPost
 rw [← hMP0, ← hids0]
 have hMP := hide hMP0
 clear hg hlb hnV0 hl hids0 hMP0
 have hP := hide (Sp.new w)
 refine callsIn_wide.1 (callsIn_of_wp_marks (n := 0) Tryz.func31 rfl trivial (wpIn_wide.2 ?_))
 simp only [Tryz.ntmps31,List.size_toArray,List.length_cons,List.length_nil,Nat.reduceAdd,Nat.reduceSub,Array.replicate_succ,Array.replicate_zero,List.push_toArray,List.append_toArray,List.nil_append,List.cons_append]
 try dsimp only
 repeat ((fail_if_success (with_reducible refine wp_reg (id := 0) ?_)); (first | go_values | go_skip | go_step | go_guarded | go_upon | go_in | go_back | fail))
 with_reducible refine wp_reg (id := 0) ?_
 iterate 2
  refine wpO_want rfl ?_
  go_simp
 refine wpO_done ?_
 try go_frame
 try dsimp only
 repeat ((fail_if_success (with_reducible refine wp_reg (id := 1) ?_)); (first | go_values | go_skip | go_step | go_guarded | go_upon | go_in | go_back | fail))
 with_reducible refine wp_reg (id := 1) ?_
 refine wpO_want rfl ?_
 go_simp
 refine wpO_want rfl ?_
 go_simp
 have hca := autos_any g bv be V E w ((unhide hg').ext (unhide hP).extf) (unhide hlV) (unhide hlb')
 unfold AuPost at hca
 rw [← unhide hMP] at hca
 refine hca.mono ?_
 clear hca
 rintro _ y1 ⟨At,nt,ct,Jt,rfl,hos,hxc⟩
 have hnt := hide hos.at.2
 have hss := hide hos.at.1
 refine ⟨_,rfl, ?_⟩
 replace hP : Hid (Sp w [] w [] [] [] y1) := hide ((unhide hP).ext hxc)
 clear hxc hos hMP
 generalize htu0 : Value.tuple _ = tu
 have htu := hide htu0
 clear htu0
 refine wpO_val rfl (run_move rfl rfl) ?_
 go_frame
 refine wpO_val rfl (run_extract (i := 0) (v := .slice At nt ct) rfl (unhide htu).symm rfl) ?_
 go_frame
 refine wpO_val rfl (run_extract (i := 1) (v := .int .i64 0) rfl (unhide htu).symm rfl) ?_
 go_frame
 iterate 2
  refine wpO_want rfl ?_
  go_simp
 refine wpO_done ?_
 try go_frame
 clear htu
 try dsimp only
 repeat ((fail_if_success (with_reducible refine wp_reg (id := 2) ?_)); (first | go_values | go_skip | go_step | go_guarded | go_upon | go_in | go_back | fail))
 with_reducible refine wp_reg (id := 2) ?_
 iterate 2
  refine wpO_want rfl ?_
  go_simp
 refine wpO_done ?_
 try go_frame
 try dsimp only
 repeat ((fail_if_success (with_reducible refine wp_reg (id := 4) ?_)); (first | go_values | go_skip | go_step | go_guarded | go_upon | go_in | go_back | fail))
 with_reducible refine wp_reg (id := 4) ?_
 refine wpO_want rfl ?_
 go_simp
 refine wpO_done ?_
 try go_frame
 have hbase := hide (unhide hP).extf
 clear hP
 generalize y1 = wb at *
 have hP := hide (Sp.new wb)
 try dsimp only
 repeat ((fail_if_success (with_reducible refine wp_reg (id := 5) ?_)); (first | go_values | go_skip | go_step | go_guarded | go_upon | go_in | go_back | fail))
 with_reducible refine wp_reg (id := 5) ?_
 refine (unhide hP).mapNewO 105 0 rfl (run_makeMapO rfl) ?_
 intro bm y2 hQ
 replace hP : Hid (Sp wb [] wb [] [] [(105,0, .map (some bm),0,[])] y2) := hide hQ
 clear hQ
 go_frame
 refine wpO_want rfl ?_
 go_simp
 refine wpO_done ?_
 try go_frame
 try dsimp only
 repeat ((fail_if_success (with_reducible refine wp_reg (id := 6) ?_)); (first | go_values | go_skip | go_step | go_guarded | go_upon | go_in | go_back | fail))
 with_reducible refine wp_reg (id := 6) ?_
 refine wpO_want rfl ?_
 go_simp
 refine wpO_want rfl ?_
 go_simp
 have hca := vertices_rel g bv be V E y2 ((unhide hg').ext ((unhide hbase).trans (unhide hP).extf))
 rw [← unhide hnV] at hca
 refine hca.mono ?_
 clear hca
 rintro _ y3 ⟨A1,c1,rfl,ho1,hxc⟩
 refine ⟨_,rfl, ?_⟩
 replace hP : Hid (Sp wb [] wb [] [] [(105,0, .map (some bm),0,[]),(81,3, .slice A1 nV c1,nV,V.flatMap encV)] y3) := hide ((unhide hP).addRow hxc ho1)
 clear hxc ho1
 iterate 2
  refine wpO_want rfl ?_
  go_simp
 refine wpO_done ?_
 try go_frame
 go_wp2_with fail
 replace hP : Hid (Sp wb [] wb [] [] [(105,0, .map (some bm),0,[]),(81,3, .slice A1 nV c1,nV,V.flatMap encV),(31,1, .slice none 0 0,0,([] : List Sl).flatMap encSl)] y3) := hide ((unhide hP).nil 31 1)
 obtain ⟨I3_2,hI3_20⟩ : ∃ I : Nat → Act → World → Prop,I = fun fi a' wr => ∃ (i : Nat), ∃ (Ax : Option Addr), ∃ (m : Nat), ∃ (cx : Nat), ∃ (Jn : List (Sl × List Int)), ∃ (S : List Int),a'.tmps.size = 68 ∧ a'.tmps.getD 0 undef = .pointer (some ⟨g,0,none⟩) ∧ a'.tmps.getD 4 undef = .slice At nt ct ∧ a'.tmps.getD 6 undef = .slice Ax m cx ∧ a'.tmps.getD 7 undef = .map (some bm) ∧ a'.tmps.getD 23 undef = .slice A1 nV c1 ∧ a'.tmps.getD 24 undef = .int .i64 (nV : Nat) ∧ a'.tmps.getD 25 undef = .int .i64 (i : Nat) ∧ a'.defers = [] ∧ i ≤ nV ∧ m = Jn.length ∧ Jn.map (·.2) = orbT MP ids i ∧ (∀ p ∈ Jn,p.1.2.1 = p.2.length) ∧ SeenI V E ids i S ∧ (∀ x ∈ S,i64ok x) ∧ Sp wb [] wb [] [] ((105,0, .map (some bm),0,mapXs ekV evB (tkB S)) :: (81,3, .slice A1 nV c1,nV,V.flatMap encV) :: (31,1, .slice Ax m cx,m,(Jn.map (·.1)).flatMap encSl) :: (Jn.map rowJ)) wr ∧ fi = nV - i := ⟨_,rfl⟩
 have hI3_2 := hide hI3_20
 clear hI3_20
 refine wp_loop_ix I3_2 (nV - 0) ?_ ?_
 ·rw [unhide hI3_2]; exact ⟨0,none,0,0,[],[],rfl,rfl,rfl,rfl,rfl,rfl,rfl,rfl,rfl,Nat.zero_le _,rfl,rfl,(fun p hp => by cases hp),(fun x => by simp),(fun x hx => by cases hx),unhide hP,rfl⟩
 ·rintro fi ⟨tm,dfs⟩ wr hrel
  rw [unhide hI3_2] at hrel
  obtain ⟨i,Ax,m,cx,Jn,S,hsz,e0,e4,e6,e7,e23,e24,e25,hdf,hin,hm0,hJ0,hJl0,hSI0,hSk0,hPr,hfm⟩ := hrel
  obtain ⟨us,rfl⟩ : ∃ us : Nat → Value,tm = #[us 0,us 1,us 2,us 3,us 4,us 5,us 6,us 7,us 8,us 9,us 10,us 11,us 12,us 13,us 14,us 15,us 16,us 17,us 18,us 19,us 20,us 21,us 22,us 23,us 24,us 25,us 26,us 27,us 28,us 29,us 30,us 31,us 32,us 33,us 34,us 35,us 36,us 37,us 38,us 39,us 40,us 41,us 42,us 43,us 44,us 45,us 46,us 47,us 48,us 49,us 50,us 51,us 52,us 53,us 54,us 55,us 56,us 57,us 58,us 59,us 60,us 61,us 62,us 63,us 64,us 65,us 66,us 67] := ⟨fun i => tm.getD i undef,arr_fn hsz⟩
  have h0 : us 0 = .pointer (some ⟨g,0,none⟩) := e0
  have h4 : us 4 = .slice At nt ct := e4
  have h6 : us 6 = .slice Ax m cx := e6
  have h7 : us 7 = .map (some bm) := e7
  have h23 : us 23 = .slice A1 nV c1 := e23
  have h24 : us 24 = .int .i64 (nV : Nat) := e24
  have h25 : us 25 = .int .i64 (i : Nat) := e25
  have hdf2 : dfs = [] := hdf
  subst hdf2
  clear hdf hsz e0 e4 e6 e7 e23 e24 e25
  simp only [h0,h4,h6,h7,h23,h24,h25]
  clear h0 h4 h6 h7 h23 h24 h25
  clear hP
  have hP := hide hPr
  have hfm' := hide hfm
  have hm := hide hm0
  have hJ := hide hJ0
  have hJl := hide hJl0
  have hSI := hide hSI0
  have hSk := hide hSk0
  clear hPr hfm hm0 hJ0 hJl0 hSI0 hSk0
  by_cases hlt : i < nV
  ·skip
   have hil9 : (i : Int) < (nV : Int) := by omega
   have hlt' := hide hlt
   have hib : (i : Int) ≤ 8 := by have := unhide hl'; omega
   have hiV : i < V.length := by rw [← unhide hnV]; exact hlt
   have hiI := hide (show i < ids.length by rw [← unhide hil]; exact hlt)
   have hmb := hide (show m ≤ 8 by
    rw [unhide hm, ← List.length_map (f := fun p : Sl × List Int => p.2),unhide hJ]
    exact Nat.le_trans (orbT_len MP ids i) (by omega))
   have hnx := hide (orbT_next MP ids i)
   obtain ⟨b9,o9,rfl,k0,k1,k2⟩ := atV (own_at (enc := encV) (by have h := (unhide hP).row 1 rfl; rw [unhide hnV] at h; exact h) (fun _ => rfl)) hiV
   have hgv := unhide hiv i hiV
   have hvk0 := unhide hvok i hiV
   obtain ⟨⟨v0,lab,wt⟩,hp0⟩ : ∃ p,p = V[i] := ⟨_,rfl⟩
   rw [← hp0] at k0 k1 k2 hgv hvk0
   dsimp only at k0 k1 k2 hgv hvk0
   have hgv' := hide hgv
   have hvk := hide hvk0
   have hself := Ext.refl wr
   clear hp0 hgv hvk0 hiV hlt hin
   try dsimp only
   repeat ((fail_if_success (with_reducible refine wp_reg (id := 7) ?_)); (first | go_values | go_skip | go_step | go_guarded | go_upon | go_in | go_back | fail))
   with_reducible refine wp_reg (id := 7) ?_
   refine wpO_want rfl ?_
   go_simp
   refine wpO_done ?_
   try go_frame
   try dsimp only
   repeat ((fail_if_success (with_reducible refine wp_reg (id := 8) ?_)); (first | go_values | go_skip | go_step | go_guarded | go_upon | go_in | go_back | fail))
   with_reducible refine wp_reg (id := 8) ?_
   iterate 3
    refine wpO_want rfl ?_
    go_simp
   refine (unhide hP).allocO 81 #[.int .i64 0, .int .u8 0, .int .i64 0] rfl (by go_simp) ?_
   intro r9 y4 hQ
   replace hP : Hid (Sp wb [] wb [] [(r9,81, #[.int .i64 0, .int .u8 0, .int .i64 0])] ((105,0, .map (some bm),0,mapXs ekV evB (tkB S)) :: (81,3, .slice (some ⟨b9,o9,none⟩) nV c1,nV,V.flatMap encV) :: (31,1, .slice Ax m cx,m,(Jn.map (·.1)).flatMap encSl) :: (Jn.map rowJ)) y4) := hide hQ
   clear hQ
   refine wpO_want rfl ?_
   go_simp
   refine (unhide hP).setO 0 #[.int .i64 v0, .int .u8 lab, .int .i64 wt] rfl rfl (fun hb => run_store_row (v := .agg #[.int .i64 v0, .int .u8 lab, .int .i64 wt]) rfl (by rfl) (by rfl) (by simp [go_sem]) hb rfl (fun u hu => by simp [Value.cells] at hu; rcases hu with rfl | rfl | rfl <;> rfl)) ?_
   intro y5 hQ
   replace hP : Hid (Sp wb [] wb [] [(r9,81, #[.int .i64 v0, .int .u8 lab, .int .i64 wt])] ((105,0, .map (some bm),0,mapXs ekV evB (tkB S)) :: (81,3, .slice (some ⟨b9,o9,none⟩) nV c1,nV,V.flatMap encV) :: (31,1, .slice Ax m cx,m,(Jn.map (·.1)).flatMap encSl) :: (Jn.map rowJ)) y5) := hide hQ
   clear hQ
   refine wpO_done ?_
   try go_frame
   clear k0 k1 k2 hself hil9
   have d0 := (unhide hP).cell 0 0 (v := .int .i64 v0) rfl rfl
   have hself := Ext.refl y5
   try dsimp only
   repeat ((fail_if_success (with_reducible refine wp_reg (id := 9) ?_)); (first | go_values | go_skip | go_step | go_guarded | go_upon | go_in | go_back | fail))
   with_reducible refine wp_reg (id := 9) ?_
   iterate 3
    refine wpO_want rfl ?_
    go_simp
   obtain ⟨q,hq0⟩ : ∃ q,q = decide (v0 ∈ S) := ⟨_,rfl⟩
   have hq := hide hq0
   have hsk := hide (show ∀ p ∈ tkB S,i64ok p.1 from (fun p hp => by
    obtain ⟨y,hy,rfl⟩ := List.mem_map.1 hp
    exact unhide hSk y hy))
   refine (unhide hP).look1O 0 (m := tkB S) (ek := ekV) (ev := evB) rfl (unhide hsk) rfl keV Tryz.underlying105 (zeroB _) (unhide hvk) rfl rfl rfl ?_
   rw [tkB_look, ← hq0]
   clear hq0
   simp only [evB]
   go_frame
   refine wpO_done ?_
   try go_frame
   clear d0 hself
   replace hP : Hid (Sp wb [] wb [] [] ((105,0, .map (some bm),0,mapXs ekV evB (tkB S)) :: (81,3, .slice (some ⟨b9,o9,none⟩) nV c1,nV,V.flatMap encV) :: (31,1, .slice Ax m cx,m,(Jn.map (·.1)).flatMap encSl) :: (Jn.map rowJ)) y5) := hide ((unhide hP).sub (List.sublist_append_left _ ([(r9,81, #[.int .i64 v0, .int .u8 lab, .int .i64 wt])] : List Cl)) (List.Sublist.refl _))
   cases q
   ·skip
    have hmS : ids.getD i 0 ∉ S := by rw [unhide hgv']; exact of_decide_eq_false (unhide hq).symm
    obtain ⟨⟨r9',ho9⟩,S',bl,hf9,hpb9,hSI9⟩ := unhide hnew i S (unhide hiI) (unhide hSI) hmS
    have hyes := hide (show (orbR MP ids i).head? = some (ids.getD i 0) by rw [ho9]; rfl)
    have hfold := hide hf9
    have hpb := hide hpb9
    have hSI2 := hide hSI9
    clear hmS ho9 hf9 hpb9 hSI9 hq hSI
    try dsimp only
    repeat ((fail_if_success (with_reducible refine wp_reg (id := 10) ?_)); (first | go_values | go_skip | go_step | go_guarded | go_upon | go_in | go_back | fail))
    with_reducible refine wp_reg (id := 10) ?_
    refine wpO_want rfl ?_
    go_simp
    refine wpO_done ?_
    try go_frame
    try dsimp only
    repeat ((fail_if_success (with_reducible refine wp_reg (id := 11) ?_)); (first | go_values | go_skip | go_step | go_guarded | go_upon | go_in | go_back | fail))
    with_reducible refine wp_reg (id := 11) ?_
    iterate 3
     refine wpO_want rfl ?_
     go_simp
    refine wpO_done ?_
    try go_frame
    go_wp2_with fail
    replace hP : Hid (Sp wb [] wb [] [] ((105,0, .map (some bm),0,mapXs ekV evB (tkB S)) :: (81,3, .slice (some ⟨b9,o9,none⟩) nV c1,nV,V.flatMap encV) :: (31,1, .slice Ax m cx,m,(Jn.map (·.1)).flatMap encSl) :: (Jn.map rowJ ++ [(3,1, .slice none 0 0,0,([] : List Int).flatMap encI)])) y5) := hide ((unhide hP).nil 3 1)
    obtain ⟨wo,hwo⟩ : ∃ wo,wo = wr := ⟨_,rfl⟩
    subst hwo
    obtain ⟨I5_8,hI5_80⟩ : ∃ I : Nat → Act → World → Prop,I = fun fk a' wr => ∃ (t : Nat), ∃ (Al : Option Addr), ∃ (ml : Nat), ∃ (cl : Nat), ∃ (xs : List Int), ∃ (S2 : List Int),a'.tmps.size = 68 ∧ a'.tmps.getD 0 undef = .pointer (some ⟨g,0,none⟩) ∧ a'.tmps.getD 4 undef = .slice At nt ct ∧ a'.tmps.getD 6 undef = .slice Ax m cx ∧ a'.tmps.getD 7 undef = .map (some bm) ∧ a'.tmps.getD 8 undef = .int .i64 (i : Nat) ∧ a'.tmps.getD 10 undef = .slice Al ml cl ∧ a'.tmps.getD 23 undef = .slice (some ⟨b9,o9,none⟩) nV c1 ∧ a'.tmps.getD 24 undef = .int .i64 (nV : Nat) ∧ a'.tmps.getD 25 undef = .int .i64 (i : Nat) ∧ a'.tmps.getD 34 undef = .slice At nt ct ∧ a'.tmps.getD 35 undef = .int .i64 (nt : Nat) ∧ a'.tmps.getD 36 undef = .int .i64 (t : Nat) ∧ a'.defers = [] ∧ t ≤ nt ∧ ml = xs.length ∧ (MP.take t).foldl (blkF i) (S,[]) = (S2,xs) ∧ (∀ x ∈ S2,i64ok x) ∧ Sp wb [] wb [] [] ((105,0, .map (some bm),0,mapXs ekV evB (tkB S2)) :: (81,3, .slice (some ⟨b9,o9,none⟩) nV c1,nV,V.flatMap encV) :: (31,1, .slice Ax m cx,m,(Jn.map (·.1)).flatMap encSl) :: (Jn.map rowJ ++ [(3,1, .slice Al ml cl,ml,xs.flatMap encI)])) wr ∧ fk = nt - t := ⟨_,rfl⟩
    have hI5_8 := hide hI5_80
    clear hI5_80
    refine wp_loop_ix I5_8 (nt - 0) ?_ ?_
    ·rw [unhide hI5_8]; exact ⟨0,none,0,0,[],S,rfl,rfl,rfl,rfl,rfl,rfl,rfl,rfl,rfl,rfl,rfl,rfl,rfl,rfl,Nat.zero_le _,rfl,rfl,unhide hSk,unhide hP,rfl⟩
    ·rintro fk ⟨tm,dfs⟩ wr hrel
     rw [unhide hI5_8] at hrel
     obtain ⟨t,Al,ml,cl,xs,S2,hsz,e0,e4,e6,e7,e8,e10,e23,e24,e25,e34,e35,e36,hdf,htn,hml0,hfo0,hSk20,hPs,hgm⟩ := hrel
     obtain ⟨us,rfl⟩ : ∃ us : Nat → Value,tm = #[us 0,us 1,us 2,us 3,us 4,us 5,us 6,us 7,us 8,us 9,us 10,us 11,us 12,us 13,us 14,us 15,us 16,us 17,us 18,us 19,us 20,us 21,us 22,us 23,us 24,us 25,us 26,us 27,us 28,us 29,us 30,us 31,us 32,us 33,us 34,us 35,us 36,us 37,us 38,us 39,us 40,us 41,us 42,us 43,us 44,us 45,us 46,us 47,us 48,us 49,us 50,us 51,us 52,us 53,us 54,us 55,us 56,us 57,us 58,us 59,us 60,us 61,us 62,us 63,us 64,us 65,us 66,us 67] := ⟨fun i => tm.getD i undef,arr_fn hsz⟩
     have h0 : us 0 = .pointer (some ⟨g,0,none⟩) := e0
     have h4 : us 4 = .slice At nt ct := e4
     have h6 : us 6 = .slice Ax m cx := e6
     have h7 : us 7 = .map (some bm) := e7
     have h8 : us 8 = .int .i64 (i : Nat) := e8
     have h10 : us 10 = .slice Al ml cl := e10
     have h23 : us 23 = .slice (some ⟨b9,o9,none⟩) nV c1 := e23
     have h24 : us 24 = .int .i64 (nV : Nat) := e24
     have h25 : us 25 = .int .i64 (i : Nat) := e25
     have h34 : us 34 = .slice At nt ct := e34
     have h35 : us 35 = .int .i64 (nt : Nat) := e35
     have h36 : us 36 = .int .i64 (t : Nat) := e36
     have hdf2 : dfs = [] := hdf
     subst hdf2
     clear hdf hsz e0 e4 e6 e7 e8 e10 e23 e24 e25 e34 e35 e36
     simp only [h0,h4,h6,h7,h8,h10,h23,h24,h25,h34,h35,h36]
     clear h0 h4 h6 h7 h8 h10 h23 h24 h25 h34 h35 h36
     clear hP
     have hP := hide hPs
     have hgm' := hide hgm
     have hml := hide hml0
     have hfo := hide hfo0
     have hSk2 := hide hSk20
     clear hPs hgm hml0 hfo0 hSk20
     by_cases htt : t < nt
     ·skip
      have hil9 : (t : Int) < (nt : Int) := by omega
      have htt' := hide htt
      have htb : (t : Int) ≤ 40320 := by have := unhide hMn; have := unhide hnt; omega
      have htM : t < MP.length := by rw [← unhide hnt]; exact htt
      have hmlb := hide (show ml ≤ 40320 by
       have h9 := blk_len i (MP.take t) (S,[])
       rw [unhide hfo,List.length_take] at h9
       dsimp only at h9
       have := unhide hMn
       rw [unhide hml]
       simp at h9
       omega)
      have hst := hide (show (MP.take (t + 1)).foldl (blkF i) (S,[]) = blkF i (S2,xs) MP[t] by rw [List.take_succ_eq_append_getElem htM,List.foldl_append,unhide hfo]; rfl)
      obtain ⟨bt,ot,at9,ct9,rfl,t0,hst0⟩ := ss_atk (unhide hss) htM
      have hMk := unhide hMl MP[t] (List.getElem_mem _)
      rw [hMk] at t0
      have hiK : i < MP[t].length := by rw [hMk]; exact unhide hlt'
      have hrk := unhide hrng MP[t] (List.getElem_mem _) i hiK
      obtain ⟨bk,ok9,rfl,k0⟩ := atI hst0 hiK
      rw [← getD_at hiK] at k0
      obtain ⟨v,hv0⟩ : ∃ v,v = MP[t].getD i 0 := ⟨_,rfl⟩
      rw [← hv0] at k0 hrk
      have hrk' := hide hrk
      have k0w := hide k0
      have hxr := (unhide hP).extf
      have t0 : ∀ W,Ext wr W → W.cell? ⟨bt,ot + t,none⟩ = some (.slice (some ⟨bk,ok9,none⟩) nV ct9) := fun W hW => t0 W (hxr.trans hW)
      have k0 : ∀ W,Ext wr W → W.cell? ⟨bk,ok9 + i,none⟩ = some (.int .i64 v) := fun W hW => k0 W (hxr.trans hW)
      have hst2 := hide (show (MP.take (t + 1)).foldl (blkF i) (S,[]) = if v ∈ S2 then (S2,xs) else (S2 ++ [v],xs ++ [v]) by rw [unhide hst]; unfold blkF; rw [← hv0])
      have hself := Ext.refl wr
      have hl9 : (i : Int) < (nV : Int) := by have := unhide hlt'; omega
      clear hv0 hMk hiK htM hst0 hst hrk htt htn hxr
      try dsimp only
      repeat ((fail_if_success (with_reducible refine wp_reg (id := 12) ?_)); (first | go_values | go_skip | go_step | go_guarded | go_upon | go_in | go_back | fail))
      with_reducible refine wp_reg (id := 12) ?_
      refine wpO_want rfl ?_
      go_simp
      refine wpO_done ?_
      try go_frame
      try dsimp only
      repeat ((fail_if_success (with_reducible refine wp_reg (id := 13) ?_)); (first | go_values | go_skip | go_step | go_guarded | go_upon | go_in | go_back | fail))
      with_reducible refine wp_reg (id := 13) ?_
      iterate 3
       refine wpO_want rfl ?_
       go_simp
      refine wpO_done ?_
      try go_frame
      clear hil9
      try dsimp only
      repeat ((fail_if_success (with_reducible refine wp_reg (id := 14) ?_)); (first | go_values | go_skip | go_step | go_guarded | go_upon | go_in | go_back | fail))
      with_reducible refine wp_reg (id := 14) ?_
      iterate 5
       refine wpO_want rfl ?_
       go_simp
      obtain ⟨q2,hq20⟩ : ∃ q,q = decide (v ∈ S2) := ⟨_,rfl⟩
      have hq2 := hide hq20
      have hsk2 := hide (show ∀ p ∈ tkB S2,i64ok p.1 from (fun p hp => by
       obtain ⟨y,hy,rfl⟩ := List.mem_map.1 hp
       exact unhide hSk2 y hy))
      refine (unhide hP).look1O 0 (m := tkB S2) (ek := ekV) (ev := evB) rfl (unhide hsk2) rfl keV Tryz.underlying105 (zeroB _) (unhide hrk') rfl rfl rfl ?_
      rw [tkB_look, ← hq20]
      clear hq20
      simp only [evB]
      go_frame
      refine wpO_want rfl ?_
      go_simp
      refine wpO_done ?_
      try go_frame
      cases q2
      ·skip
       have hnx2 := hide (of_decide_eq_false (unhide hq2).symm)
       try dsimp only
       repeat ((fail_if_success (with_reducible refine wp_reg (id := 15) ?_)); (first | go_values | go_skip | go_step | go_guarded | go_upon | go_in | go_back | fail))
       with_reducible refine wp_reg (id := 15) ?_
       iterate 5
        refine wpO_want rfl ?_
        go_simp
       refine (unhide hP).mapPutO 0 (m := tkB S2) (ek := ekV) (ev := evB) rfl (unhide hsk2) rfl keV Tryz.underlying105 (x := v) (unhide hrk') true rfl rfl rfl rfl 0 ?_
       intro y6 hQ
       rw [show putM (tkB S2) v true = tkB (S2 ++ [v]) from tkB_put (unhide hnx2)] at hQ
       replace hP : Hid (Sp wb [] wb [] [] ((105,0, .map (some bm),0,mapXs ekV evB (tkB (S2 ++ [v]))) :: (81,3, .slice (some ⟨b9,o9,none⟩) nV c1,nV,V.flatMap encV) :: (31,1, .slice Ax m cx,m,(Jn.map (·.1)).flatMap encSl) :: (Jn.map rowJ ++ [(3,1, .slice Al ml cl,ml,xs.flatMap encI)])) y6) := hide hQ
       clear hQ
       try go_frame
       refine wpO_done ?_
       try go_frame
       clear hself t0 k0
       have hxr := (unhide hP).extf
       have k0 : ∀ W,Ext y6 W → W.cell? ⟨bk,ok9 + i,none⟩ = some (.int .i64 v) := fun W hW => unhide k0w W (hxr.trans hW)
       have hself := Ext.refl y6
       clear hxr
       try dsimp only
       repeat ((fail_if_success (with_reducible refine wp_reg (id := 16) ?_)); (first | go_values | go_skip | go_step | go_guarded | go_upon | go_in | go_back | fail))
       with_reducible refine wp_reg (id := 16) ?_
       iterate 5
        refine wpO_want rfl ?_
        go_simp
       clear k0 hself
       refine (unhide hP).buildO 1 3 #[.int .i64 v] rfl (by go_simp) ?_
       intro bn y7 hQ
       replace hP : Hid (Sp wb [] wb [] [(bn,3, #[.int .i64 v])] ((105,0, .map (some bm),0,mapXs ekV evB (tkB (S2 ++ [v]))) :: (81,3, .slice (some ⟨b9,o9,none⟩) nV c1,nV,V.flatMap encV) :: (31,1, .slice Ax m cx,m,(Jn.map (·.1)).flatMap encSl) :: (Jn.map rowJ ++ [(3,1, .slice Al ml cl,ml,xs.flatMap encI)])) y7) := hide hQ
       clear hQ
       try go_frame
       refine (unhide hP).ap1O (enc := encI) (T := 3) (ST := 31) ((Jn.map rowJ).length + 1 + 1 + 1) (v := .slice Al ml cl) (m := ml) (xs := xs) (get_tailF _ _ _ _ _) rfl infoI Tryz.underlying31 one_encI (fun _ => rfl) (by decide) (by decide) rfl v rfl rfl ((unhide hP).get 0 rfl) (by have := unhide hmlb; omega) ?_
       intro A4 cA4 y8 hQ
       rw [set_tailF] at hQ
       replace hP : Hid (Sp wb [] wb [] [(bn,3, #[.int .i64 v])] ((105,0, .map (some bm),0,mapXs ekV evB (tkB (S2 ++ [v]))) :: (81,3, .slice (some ⟨b9,o9,none⟩) nV c1,nV,V.flatMap encV) :: (31,1, .slice Ax m cx,m,(Jn.map (·.1)).flatMap encSl) :: (Jn.map rowJ ++ [(3,1, .slice A4 (ml + 1) cA4,ml + 1,(xs ++ [v]).flatMap encI)])) y8) := hide hQ
       clear hQ
       try go_frame
       refine wpO_want rfl ?_
       go_simp
       refine wpO_done ?_
       try go_frame
       replace hP : Hid (Sp wb [] wb [] [] ((105,0, .map (some bm),0,mapXs ekV evB (tkB (S2 ++ [v]))) :: (81,3, .slice (some ⟨b9,o9,none⟩) nV c1,nV,V.flatMap encV) :: (31,1, .slice Ax m cx,m,(Jn.map (·.1)).flatMap encSl) :: (Jn.map rowJ ++ [(3,1, .slice A4 (ml + 1) cA4,ml + 1,(xs ++ [v]).flatMap encI)])) y8) := hide ((unhide hP).sub (List.sublist_append_left _ ([(bn,3, #[.int .i64 v])] : List Cl)) (List.Sublist.refl _))
       go_wp2_with fail
       refine ⟨nt - (t + 1), ?_,by have := unhide hgm'; have := unhide htt'; omega⟩
       rw [unhide hI5_8]
       exact ⟨t + 1,A4,ml + 1,cA4,xs ++ [v],S2 ++ [v],(by first | rfl | trivial),(by first | rfl | trivial),(by first | rfl | trivial),(by first | rfl | trivial),(by first | rfl | trivial),(by first | rfl | trivial),(by first | rfl | trivial),(by first | rfl | trivial),(by first | rfl | trivial),(by first | rfl | trivial),(by first | rfl | trivial),(by first | rfl | trivial),(by first | rfl | (show _ = Value.int _ _; go_num) | go_num),(by first | rfl | trivial),by have := unhide htt'; omega,(by rw [List.length_append, ← unhide hml]; rfl),(by rw [unhide hst2,if_neg (unhide hnx2)]),(fun x hx => by
        rcases List.mem_append.1 hx with hx | hx
        ·exact unhide hSk2 x hx
        ·rw [List.mem_singleton] at hx; subst hx; exact unhide hrk'),unhide hP,rfl⟩
      ·skip
       have hnx2 := hide (of_decide_eq_true (unhide hq2).symm)
       clear hself t0 k0
       go_wp2_with fail
       refine ⟨nt - (t + 1), ?_,by have := unhide hgm'; have := unhide htt'; omega⟩
       rw [unhide hI5_8]
       exact ⟨t + 1,Al,ml,cl,xs,S2,(by first | rfl | trivial),(by first | rfl | trivial),(by first | rfl | trivial),(by first | rfl | trivial),(by first | rfl | trivial),(by first | rfl | trivial),(by first | rfl | trivial),(by first | rfl | trivial),(by first | rfl | trivial),(by first | rfl | trivial),(by first | rfl | trivial),(by first | rfl | trivial),(by first | rfl | (show _ = Value.int _ _; go_num) | go_num),(by first | rfl | trivial),by have := unhide htt'; omega,unhide hml,(by rw [unhide hst2,if_pos (unhide hnx2)]),unhide hSk2,unhide hP,rfl⟩
     ·skip
      have hil9 : ¬ (t : Int) < (nt : Int) := by omega
      have hfin : (S',bl) = (S2,xs) := by
       have h := unhide hfo
       rw [List.take_of_length_le (by rw [← unhide hnt]; omega)] at h
       rw [← h]
       exact (unhide hfold).symm
      obtain ⟨rfl,rfl⟩ := Prod.mk.inj hfin
      clear hfin htt htn
      have hbl8 := hide (show ml ≤ 8 by
       rw [unhide hml,(unhide hpb).length_eq]
       refine Nat.le_trans (List.length_filter_le _ _) ?_
       rw [← unhide hil]
       exact unhide hl')
      try dsimp only
      repeat ((fail_if_success (with_reducible refine wp_reg (id := 12) ?_)); (first | go_values | go_skip | go_step | go_guarded | go_upon | go_in | go_back | fail))
      with_reducible refine wp_reg (id := 12) ?_
      refine wpO_want rfl ?_
      go_simp
      refine wpO_done ?_
      try go_frame
      clear hil9
      try dsimp only
      repeat ((fail_if_success (with_reducible refine wp_reg (id := 18) ?_)); (first | go_values | go_skip | go_step | go_guarded | go_upon | go_in | go_back | fail))
      with_reducible refine wp_reg (id := 18) ?_
      refine wpO_want rfl ?_
      go_simp
      refine wpO_want rfl ?_
      go_simp
      have hrow := (unhide hP).row ((Jn.map rowJ).length + 1 + 1 + 1) (get_tailF _ _ _ _ _)
      rw [unhide hml] at hrow
      have hca := sortRow _ _ bl (orbR MP ids i) wr hrow (unhide hpb) ((unhide hsi).filter _) (by have := unhide hbl8; rw [← unhide hml]; omega)
      rw [← unhide hml] at hca
      refine hca.mono ?_
      clear hca hrow
      rintro _ y6 ⟨rfl,hown,hgr⟩
      replace hP : Hid (Sp wb [] wb [] [] ((105,0, .map (some bm),0,mapXs ekV evB (tkB S')) :: (81,3, .slice (some ⟨b9,o9,none⟩) nV c1,nV,V.flatMap encV) :: (31,1, .slice Ax m cx,m,(Jn.map (·.1)).flatMap encSl) :: (Jn.map rowJ ++ [(3,1, .slice Al ml cl,ml,(orbR MP ids i).flatMap encI)])) y6) := hide ((unhide hP).sortedF hown hgr)
      clear hown hgr
      have hml2 := hide (show ml = (orbR MP ids i).length by rw [unhide hml,(unhide hpb).length_eq])
      refine ⟨_,rfl, ?_⟩
      try go_frame
      refine wpO_done ?_
      try go_frame
      try dsimp only
      repeat ((fail_if_success (with_reducible refine wp_reg (id := 19) ?_)); (first | go_values | go_skip | go_step | go_guarded | go_upon | go_in | go_back | fail))
      with_reducible refine wp_reg (id := 19) ?_
      iterate 2
       refine wpO_want rfl ?_
       go_simp
      refine (unhide hP).buildO 1 31 #[.slice Al ml cl] rfl (by go_simp) ?_
      intro bs y7 hQ
      replace hP : Hid (Sp wb [] wb [] [(bs,31, #[.slice Al ml cl])] ((105,0, .map (some bm),0,mapXs ekV evB (tkB S')) :: (81,3, .slice (some ⟨b9,o9,none⟩) nV c1,nV,V.flatMap encV) :: (31,1, .slice Ax m cx,m,(Jn.map (·.1)).flatMap encSl) :: (Jn.map rowJ ++ [(3,1, .slice Al ml cl,ml,(orbR MP ids i).flatMap encI)])) y7) := hide hQ
      clear hQ
      try go_frame
      refine (unhide hP).ap1O (enc := encSl) (T := 31) (ST := 42) 2 (v := .slice Ax m cx) (m := m) (xs := Jn.map (·.1)) rfl rfl infoSl Tryz.underlying42 one_encSl (fun _ => rfl) (by decide) (by decide) rfl (Al,ml,cl) rfl rfl ((unhide hP).get 0 rfl) (by have := unhide hmb; omega) ?_
      intro A9 cA9 y8 hQ
      replace hP : Hid (Sp wb [] wb [] [(bs,31, #[.slice Al ml cl])] ((105,0, .map (some bm),0,mapXs ekV evB (tkB S')) :: (81,3, .slice (some ⟨b9,o9,none⟩) nV c1,nV,V.flatMap encV) :: (31,1, .slice A9 (m + 1) cA9,m + 1,((Jn.map fun p : Sl × List Int => p.1) ++ [((Al,ml,cl) : Sl)]).flatMap encSl) :: (Jn.map rowJ ++ [(3,1, .slice Al ml cl,ml,(orbR MP ids i).flatMap encI)])) y8) := hide hQ
      clear hQ
      try go_frame
      replace hP : Hid (Sp wb [] wb [] [] ((105,0, .map (some bm),0,mapXs ekV evB (tkB S')) :: (81,3, .slice (some ⟨b9,o9,none⟩) nV c1,nV,V.flatMap encV) :: (31,1, .slice A9 (m + 1) cA9,m + 1,((Jn.map fun p : Sl × List Int => p.1) ++ [((Al,ml,cl) : Sl)]).flatMap encSl) :: (Jn.map rowJ ++ [(3,1, .slice Al ml cl,ml,(orbR MP ids i).flatMap encI)])) y8) := hide ((unhide hP).sub (List.sublist_append_left _ ([(bs,31, #[.slice Al ml cl])] : List Cl)) (List.Sublist.refl _))
      replace hP : Hid (Sp wb [] wb [] [] ((105,0, .map (some bm),0,mapXs ekV evB (tkB S')) :: (81,3, .slice (some ⟨b9,o9,none⟩) nV c1,nV,V.flatMap encV) :: (31,1, .slice A9 (m + 1) cA9,m + 1,((Jn ++ [(((Al,ml,cl),orbR MP ids i) : Sl × List Int)]).map (·.1)).flatMap encSl) :: ((Jn ++ [(((Al,ml,cl),orbR MP ids i) : Sl × List Int)]).map rowJ)) y8) := hide ((unhide hP).joinF (p := ((Al,ml,cl),orbR MP ids i)))
      refine wpO_want rfl ?_
      go_simp
      refine wpO_done ?_
      try go_frame
      go_wp2_with fail
      refine ⟨nV - (i + 1), ?_,by have := unhide hfm'; have := unhide hlt'; omega⟩
      rw [unhide hI3_2]
      exact ⟨i + 1,A9,m + 1,cA9,Jn ++ [((Al,ml,cl),orbR MP ids i)],S',(by first | rfl | trivial),(by first | rfl | trivial),(by first | rfl | trivial),(by first | rfl | trivial),(by first | rfl | trivial),(by first | rfl | trivial),(by first | rfl | trivial),(by first | rfl | (show _ = Value.int _ _; go_num) | go_num),(by first | rfl | trivial),by have := unhide hlt'; omega,(by rw [List.length_append, ← unhide hm]; rfl),(by rw [List.map_append,unhide hJ,unhide hnx,if_pos (unhide hyes)]; rfl),(fun p hp => by
       rcases List.mem_append.1 hp with hp | hp
       ·exact unhide hJl p hp
       ·rw [List.mem_singleton] at hp; subst hp; exact unhide hml2),unhide hSI2,unhide hSk2,unhide hP,rfl⟩
   ·skip
    have hmS : ids.getD i 0 ∈ S := by rw [unhide hgv']; exact of_decide_eq_true (unhide hq).symm
    obtain ⟨⟨x9,r9',ho9,hne9⟩,hSI9⟩ := unhide hseen i S (unhide hiI) (unhide hSI) hmS
    have hno : ¬ (orbR MP ids i).head? = some (ids.getD i 0) := by rw [ho9]; simpa using hne9
    have hno' := hide hno
    have hSI9' := hide hSI9
    clear hmS ho9 hne9 hno hSI9
    go_wp2_with fail
    refine ⟨nV - (i + 1), ?_,by have := unhide hfm'; have := unhide hlt'; omega⟩
    rw [unhide hI3_2]
    exact ⟨i + 1,Ax,m,cx,Jn,S,(by first | rfl | trivial),(by first | rfl | trivial),(by first | rfl | trivial),(by first | rfl | trivial),(by first | rfl | trivial),(by first | rfl | trivial),(by first | rfl | trivial),(by first | rfl | (show _ = Value.int _ _; go_num) | go_num),(by first | rfl | trivial),by have := unhide hlt'; omega,unhide hm,(by rw [unhide hnx,if_neg (unhide hno'),List.append_nil]; exact unhide hJ),unhide hJl,unhide hSI9',unhide hSk,unhide hP,rfl⟩
  ·skip
   have hil9 : ¬ (i : Int) < (nV : Int) := by omega
   obtain rfl : i = nV := by omega
   clear hlt hin
   try dsimp only
   repeat ((fail_if_success (with_reducible refine wp_reg (id := 7) ?_)); (first | go_values | go_skip | go_step | go_guarded | go_upon | go_in | go_back | fail))
   with_reducible refine wp_reg (id := 7) ?_
   refine wpO_want rfl ?_
   go_simp
   refine wpO_done ?_
   try go_frame
   clear hil9
   try dsimp only
   repeat ((fail_if_success (with_reducible refine wp_reg (id := 21) ?_)); (first | go_values | go_skip | go_step | go_guarded | go_upon | go_in | go_back | fail))
   with_reducible refine wp_reg (id := 21) ?_
   iterate 3
    refine wpO_want rfl ?_
    go_simp
   refine wpO_done ?_
   try go_frame
   go_wp2_with fail
   have hss9 := Sp.ss (tl := []) (by rw [List.append_nil]; exact (unhide hP).sub (List.Sublist.refl _) ((List.sublist_cons_self _ _).trans (List.sublist_cons_self _ _))) (unhide hJl) rfl (unhide hm)
   refine Sp.leaves0 ?_
   refine ⟨_,results_tmp2 (t := 2) (u := 3) rfl _ _ _,Ax,m,cx,rfl, ?_, ?_,(unhide hbase).trans (unhide hP).extf⟩
   ·rw [← unhide hnV, ← unhide hJ,List.length_map]; exact unhide hm
   ·rw [← unhide hnV, ← unhide hJ]; exact hss9
end Go.Proofs.YtbpeemhfjgcnaaaGreat
namespace Go.Proofs.YtbpeemhfjgcnaaaGreat
open Go Go.RowKit Go.Shelf
attribute [local go_sem] qUpon lUpon
attribute [local irreducible] wpO wpX wpQL
set_option maxRecDepth 100000 in
set_option maxHeartbeats 16000000 in
theorem isomorphismAutomorphisms_walk (A : Option Addr) (L : List Ed) (cL : Nat) (w : World) (hL : SlAt encD 5 w A L) (hok : ∀ d ∈ L,okB d) (_hl9 : L.length ≤ 9223372036854775807) (_hc9 : L.length ≤ cL)  :
  Calls Tryz.prog 9 #[.slice A L.length cL] w fun e w' => e = .returned (.bool true) ∧ Ext w w' := by
 have hL' := hide hL
 have hlb := hide (mdS_lab hok)
 clear hL hok
 have hP := hide (Sp.new w)
 refine callsIn_wide.1 (callsIn_of_wp_marks (n := 0) Tryz.func9 rfl trivial (wpIn_wide.2 ?_))
 simp only [Tryz.ntmps9,List.size_toArray,List.length_cons,List.length_nil,Nat.reduceAdd,Nat.reduceSub,Array.replicate_succ,Array.replicate_zero,List.push_toArray,List.append_toArray,List.nil_append,List.cons_append]
 try dsimp only
 repeat ((fail_if_success (with_reducible refine wp_reg (id := 1) ?_)); (first | go_values | go_skip | go_step | go_guarded | go_upon | go_in | go_back | fail))
 with_reducible refine wp_reg (id := 1) ?_
 refine wpO_want rfl ?_
 go_simp
 have hca := known08_any w
 refine hca.mono ?_
 clear hca
 rintro _ y1 ⟨rfl,hxc⟩
 refine ⟨_,rfl, ?_⟩
 replace hP : Hid (Sp w [] w [] [] [] y1) := hide ((unhide hP).ext hxc)
 clear hxc
 refine wpO_want rfl ?_
 go_simp
 refine wpO_done ?_
 try go_frame
 try dsimp only
 repeat ((fail_if_success (with_reducible refine wp_reg (id := 3) ?_)); (first | go_values | go_skip | go_step | go_guarded | go_upon | go_in | go_back | fail))
 with_reducible refine wp_reg (id := 3) ?_
 refine wpO_want rfl ?_
 go_simp
 refine wpO_want rfl ?_
 go_simp
 have hca := take_any A L cL 6 y1 ((unhide hL').ext (unhide hP).extf)
 have hi := hide (mdS_inv L)
 refine hca.mono ?_
 clear hca
 generalize mdS L = S at *
 obtain ⟨V,E⟩ := S
 try dsimp only at hi hlb ⊢
 rintro _ y2 ⟨g,bv,be,A1,B1,cA,cB,rfl,hg0,hs0,he0,hxc⟩
 refine ⟨_,rfl, ?_⟩
 replace hP : Hid (Sp w [] w [] [] [] y2) := hide ((unhide hP).ext hxc)
 have hg := hide hg0
 have hsV := hide hs0
 have hsE := hide he0
 obtain ⟨q,hq⟩ : ∃ q,q = decide ((V.length : Int) ≤ 6) := ⟨_,rfl⟩
 rw [← hq]
 have hq' := hide hq
 clear hxc hg0 hs0 he0 hq
 generalize htu0 : Value.tuple _ = tu
 have htu := hide htu0
 clear htu0
 refine wpO_val rfl (run_move rfl rfl) ?_
 go_frame
 refine wpO_val rfl (run_extract (i := 0) (v := .pointer (some ⟨g,0,none⟩)) rfl (unhide htu).symm rfl) ?_
 go_frame
 refine wpO_val rfl (run_extract (i := 1) (v := .agg #[.slice A1 V.length cA, .slice B1 E.length cB]) rfl (unhide htu).symm rfl) ?_
 go_frame
 refine wpO_val rfl (run_extract (i := 2) (v := .bool q) rfl (unhide htu).symm rfl) ?_
 go_frame
 refine (unhide hP).allocT 28 #[.slice none 0 0, .slice none 0 0] rfl (by go_simp) ?_
 intro r4 y3 hQ hxa hga
 replace hP : Hid (Sp w [] w [] [(r4,28, #[.slice none 0 0, .slice none 0 0])] [] y3) := hide hQ
 clear hQ
 try go_frame
 refine wpO_want rfl ?_
 go_simp
 refine (unhide hP).setT 0 #[.slice A1 V.length cA, .slice B1 E.length cB] rfl rfl (fun hb => run_store_row (v := .agg #[.slice A1 V.length cA, .slice B1 E.length cB]) rfl (by rfl) (by rfl) (by simp [go_sem]) hb rfl (fun u hu => by simp [Value.cells] at hu; rcases hu with rfl | rfl <;> rfl)) ?_
 intro y4 hQ hkq
 replace hP : Hid (Sp w [] w [] [(r4,28, #[.slice A1 V.length cA, .slice B1 E.length cB])] [] y4) := hide hQ
 have hxs := hxa.of_new hkq (fun x hx => by rw [List.mem_singleton] at hx; rw [hx]; exact hga)
 clear hQ hkq hxa hga
 try go_frame
 replace hg := hide ((unhide hg).ext (hxs))
 replace hsV := hide ((unhide hsV).ext (hxs))
 replace hsE := hide ((unhide hsE).ext (hxs))
 clear hxs
 refine wpO_want rfl ?_
 go_simp
 refine wpO_done ?_
 try go_frame
 clear htu
 try dsimp only
 repeat ((fail_if_success (with_reducible refine wp_reg (id := 4) ?_)); (first | go_values | go_skip | go_step | go_guarded | go_upon | go_in | go_back | fail))
 with_reducible refine wp_reg (id := 4) ?_
 iterate 2
  refine wpO_want rfl ?_
  go_simp
 refine wpO_done ?_
 try go_frame
 cases q
 ·skip
  go_wp2_with fail
  refine Sp.leaves0 ?_
  exact ⟨_,results_tmp (t := 2) rfl _ _ _,rfl,(unhide hP).extf⟩
 ·skip
  have hmo := hide (show V.length ≤ 6 by have h := of_decide_eq_true (unhide hq').symm; omega)
  clear hq'
  obtain ⟨MP,hMP0⟩ : ∃ l,l = mapsP V E (idsV V) V E (idsV V) := ⟨_,rfl⟩
  have hMP := hide hMP0
  obtain ⟨OB,hOB0⟩ : ∃ l,l = orbT (mapsP V E (idsV V) V E (idsV V)) (idsV V) V.length := ⟨_,rfl⟩
  have hOB := hide hOB0
  have hMl := hide (show MP.length ≤ 40320 by rw [hMP0]; exact maps_le (by rw [idsV_len]; have := unhide hmo; omega))
  have hMk := hide (show ∀ K ∈ MP,K.length ≤ 300 from fun K hK => by
   rw [hMP0] at hK
   rw [(mem_mapsP.1 hK).2.1.length_eq,idsV_len]
   have := unhide hmo
   omega)
  have hOl := hide (show OB.length ≤ 40320 by rw [hOB0]; have h1 := orbT_len (mapsP V E (idsV V) V E (idsV V)) (idsV V) V.length; have := unhide hmo; omega)
  have hOk := hide (show ∀ K ∈ OB,K.length ≤ 300 from fun K hK => by
   rw [hOB0] at hK
   have h1 := orbT_mem hK
   rw [idsV_len] at h1
   have := unhide hmo
   omega)
  clear hMP0 hOB0
  try dsimp only
  repeat ((fail_if_success (with_reducible refine wp_reg (id := 6) ?_)); (first | go_values | go_skip | go_step | go_guarded | go_upon | go_in | go_back | fail))
  with_reducible refine wp_reg (id := 6) ?_
  refine wpO_want rfl ?_
  go_simp
  refine wpO_want rfl ?_
  go_simp
  have hca := autos_any g bv be V E y4 (unhide hg) (by have := unhide hmo; omega) (unhide hlb)
  unfold AuPost at hca
  rw [← unhide hMP] at hca
  refine hca.mono ?_
  clear hca
  rintro _ y5 ⟨At,nt,ct,Jt,rfl,hos,hxc⟩
  have hnt := hide hos.at.2
  have hss := hide hos.at.1
  refine ⟨_,rfl, ?_⟩
  replace hP : Hid (Sp w [] w [] [(r4,28, #[.slice A1 V.length cA, .slice B1 E.length cB])] [] y5) := hide ((unhide hP).ext hxc)
  replace hg := hide ((unhide hg).ext (hxc))
  replace hsV := hide ((unhide hsV).ext (hxc))
  replace hsE := hide ((unhide hsE).ext (hxc))
  clear hxc hos
  generalize htu0 : Value.tuple _ = tu
  have htu := hide htu0
  clear htu0
  refine wpO_val rfl (run_move rfl rfl) ?_
  go_frame
  refine wpO_val rfl (run_extract (i := 0) (v := .slice At nt ct) rfl (unhide htu).symm rfl) ?_
  go_frame
  refine wpO_val rfl (run_extract (i := 1) (v := .int .i64 0) rfl (unhide htu).symm rfl) ?_
  go_frame
  iterate 2
   refine wpO_want rfl ?_
   go_simp
  refine wpO_done ?_
  try go_frame
  clear htu
  try dsimp only
  repeat ((fail_if_success (with_reducible refine wp_reg (id := 7) ?_)); (first | go_values | go_skip | go_step | go_guarded | go_upon | go_in | go_back | fail))
  with_reducible refine wp_reg (id := 7) ?_
  refine wpO_want rfl ?_
  go_simp
  refine wpO_want rfl ?_
  go_simp
  have hca := orbits_any g bv be V E y5 (unhide hg) (by have := unhide hmo; omega) (unhide hlb)
  unfold OrbPost at hca
  rw [← unhide hOB] at hca
  refine hca.mono ?_
  clear hca
  rintro _ y6 ⟨Ao,no,co,rfl,hno0,hso0,hxc⟩
  have hno := hide hno0
  have hso := hide hso0
  refine ⟨_,rfl, ?_⟩
  replace hP : Hid (Sp w [] w [] [(r4,28, #[.slice A1 V.length cA, .slice B1 E.length cB])] [] y6) := hide ((unhide hP).ext hxc)
  replace hg := hide ((unhide hg).ext (hxc))
  replace hsV := hide ((unhide hsV).ext (hxc))
  replace hsE := hide ((unhide hsE).ext (hxc))
  replace hss := hide ((unhide hss).ext (hxc))
  clear hxc hno0 hso0
  generalize htu0 : Value.tuple _ = tu
  have htu := hide htu0
  clear htu0
  refine wpO_val rfl (run_move rfl rfl) ?_
  go_frame
  refine wpO_val rfl (run_extract (i := 0) (v := .slice Ao no co) rfl (unhide htu).symm rfl) ?_
  go_frame
  refine wpO_val rfl (run_extract (i := 1) (v := .int .i64 0) rfl (unhide htu).symm rfl) ?_
  go_frame
  iterate 2
   refine wpO_want rfl ?_
   go_simp
  refine wpO_done ?_
  try go_frame
  clear htu
  have q0 := (unhide hP).cell 0 0 (v := .slice A1 V.length cA) rfl rfl
  have q1 := (unhide hP).cell 0 1 (v := .slice B1 E.length cB) rfl rfl
  have hself := Ext.refl y6
  try dsimp only
  repeat ((fail_if_success (with_reducible refine wp_reg (id := 8) ?_)); (first | go_values | go_skip | go_step | go_guarded | go_upon | go_in | go_back | fail))
  with_reducible refine wp_reg (id := 8) ?_
  iterate 10
   refine wpO_want rfl ?_
   go_simp
  clear q0 q1 hself
  refine wpO_want rfl ?_
  go_simp
  have hca := maps08_any A1 B1 A1 B1 V V E E V.length E.length cA cB V.length E.length cA cB y6 (unhide hsV) (unhide hsE) (unhide hsV) (unhide hsE) (unhide hi) (unhide hi) (unhide hlb) (unhide hlb) rfl rfl rfl rfl (by have := unhide hmo; omega) (by have := unhide hmo; omega)
  rw [← unhide hMP] at hca
  refine hca.mono ?_
  clear hca
  rintro _ y7 ⟨Aa,na,ca,rfl,hna0,hsa0,hxc⟩
  obtain rfl : nt = na := by rw [hna0]; exact unhide hnt
  have hsa := hide hsa0
  refine ⟨_,rfl, ?_⟩
  replace hP : Hid (Sp w [] w [] [(r4,28, #[.slice A1 V.length cA, .slice B1 E.length cB])] [] y7) := hide ((unhide hP).ext hxc)
  replace hg := hide ((unhide hg).ext (hxc))
  replace hsV := hide ((unhide hsV).ext (hxc))
  replace hsE := hide ((unhide hsE).ext (hxc))
  replace hss := hide ((unhide hss).ext (hxc))
  replace hso := hide ((unhide hso).ext (hxc))
  clear hxc hna0 hsa0
  refine wpO_want rfl ?_
  go_simp
  have hca := lists_any At Aa MP nt ct ca y7 (unhide hss) (unhide hsa) (unhide hnt) (by rw [unhide hnt]; exact unhide hMl) (unhide hMk)
  refine hca.mono ?_
  clear hca
  rintro _ y8 ⟨rfl,hxc⟩
  refine ⟨_,rfl, ?_⟩
  replace hP : Hid (Sp w [] w [] [(r4,28, #[.slice A1 V.length cA, .slice B1 E.length cB])] [] y8) := hide ((unhide hP).ext hxc)
  replace hg := hide ((unhide hg).ext (hxc))
  replace hsV := hide ((unhide hsV).ext (hxc))
  replace hsE := hide ((unhide hsE).ext (hxc))
  replace hss := hide ((unhide hss).ext (hxc))
  replace hso := hide ((unhide hso).ext (hxc))
  replace hsa := hide ((unhide hsa).ext (hxc))
  clear hxc
  iterate 3
   refine wpO_want rfl ?_
   go_simp
  have q0 := (unhide hP).cell 0 0 (v := .slice A1 V.length cA) rfl rfl
  have q1 := (unhide hP).cell 0 1 (v := .slice B1 E.length cB) rfl rfl
  have hself := Ext.refl y8
  refine wpO_want rfl ?_
  go_simp
  clear q0 q1 hself
  refine wpO_want rfl ?_
  go_simp
  have hca := orbits08_any A1 B1 V E V.length E.length cA cB y8 (unhide hsV) (unhide hsE) (unhide hi) (unhide hlb) rfl rfl (by have := unhide hmo; omega)
  rw [← unhide hOB] at hca
  refine hca.mono ?_
  clear hca
  rintro _ y9 ⟨Ab,nb,cb,rfl,hnb0,hsb0,hxc⟩
  obtain rfl : no = nb := by rw [hnb0]; exact unhide hno
  have hsb := hide hsb0
  refine ⟨_,rfl, ?_⟩
  replace hP : Hid (Sp w [] w [] [(r4,28, #[.slice A1 V.length cA, .slice B1 E.length cB])] [] y9) := hide ((unhide hP).ext hxc)
  replace hg := hide ((unhide hg).ext (hxc))
  replace hsV := hide ((unhide hsV).ext (hxc))
  replace hsE := hide ((unhide hsE).ext (hxc))
  replace hss := hide ((unhide hss).ext (hxc))
  replace hso := hide ((unhide hso).ext (hxc))
  replace hsa := hide ((unhide hsa).ext (hxc))
  clear hxc hnb0 hsb0
  refine wpO_want rfl ?_
  go_simp
  have hca := lists_any Ao Ab OB no co cb y9 (unhide hso) (unhide hsb) (unhide hno) (by rw [unhide hno]; exact unhide hOl) (unhide hOk)
  refine hca.mono ?_
  clear hca
  rintro _ y10 ⟨rfl,hxc⟩
  refine ⟨_,rfl, ?_⟩
  replace hP : Hid (Sp w [] w [] [(r4,28, #[.slice A1 V.length cA, .slice B1 E.length cB])] [] y10) := hide ((unhide hP).ext hxc)
  replace hg := hide ((unhide hg).ext (hxc))
  replace hsV := hide ((unhide hsV).ext (hxc))
  replace hsE := hide ((unhide hsE).ext (hxc))
  replace hss := hide ((unhide hss).ext (hxc))
  replace hso := hide ((unhide hso).ext (hxc))
  replace hsa := hide ((unhide hsa).ext (hxc))
  replace hsb := hide ((unhide hsb).ext (hxc))
  clear hxc
  iterate 2
   refine wpO_want rfl ?_
   go_simp
  refine wpO_done ?_
  try go_frame
  go_wp2_with fail
  refine Sp.leaves0 ?_
  exact ⟨_,results_tmp (t := 2) rfl _ _ _,rfl,(unhide hP).extf⟩
end Go.Proofs.YtbpeemhfjgcnaaaGreat
namespace Go.Proofs.YtbpeemhfjgcnaaaGreat.isomorphismAutomorphismsRow
open Go.ChangeShapes Go.WideShapes Go.ChangeAt Go.RowKit
set_option linter.unusedVariables false
theorem own : ownKnob Tryz.prog.godebug = none := by kernel_rfl
theorem laidOut : laidOutB Tryz.prog = true := by kernel_rfl
set_option maxRecDepth 100000 in
theorem lifted (os : Os) (started : os.Started) (H : Type) (enc : TypeId × Value → H) :
  ReturnsInHanded {} Tryz.checked os 9 .any (Rows.isomorphismAutomorphismsSpec.pre6 enc Tryz.prog Tryz.f9 Rows.isomorphismAutomorphismsRow.domain false) (Rows.isomorphismAutomorphismsSpec.post enc Tryz.prog Tryz.f9 false true false false) := by
 refine returnsInHanded_of_change (C := Tryz.checked) own started (by kernel_rfl) Tryz.func9
  (ChangeSpec.witness6 (enc := enc) (C := Tryz.checked) false ⟨#[], #[.slice none 0 0],[]⟩ 8 (by kernel_rfl) (by kernel_rfl) (by kernel_rfl) (by kernel_rfl)) ?_
 intro W base args ds gs before hval0 hW hcnd _
 have hval : ∀ (j : Nat) t v,Tryz.f9.params[j]? = some t → args[j]? = some v → Value.okWide Tryz.prog W .any base t v := hval0
 have hW' := hW
 obtain ⟨p,q,hA0,hV,rfl,hfz,hnd⟩ := hW
 have hA : DataW.TrodAll enc Tryz.prog W 0 (fun _ => true) true Tryz.f9.params.toList args.toList ds p := hA0
 rw [Tryz.params9] at hA hval
 obtain ⟨v0,vs0,d0,ds0,p0,q0,hargs,rfl,rfl,h0,r0⟩ := trodAll_cons hA
 obtain ⟨rfl,rfl,rfl⟩ := trodAll_nil r0
 obtain rfl : args = #[v0] := by cases args; simp_all
 obtain ⟨rfl,rfl⟩ := trodVars_none hV
 obtain ⟨a0,len0,cap0,rfl⟩ := okWide_slice Tryz.underlying22 (hval 0 22 v0 rfl rfl)
 have k0 := h0
 have lt0 : ∀ x ∈ p0,x.block < W.heap.size := by obtain ⟨m,hm⟩ := k0; exact DataW.trod_lt m _ _ _ hm
 obtain ⟨fu0,hf0⟩ := h0
 obtain ⟨L0,hn0,hs0,ho0,hm0,hz0⟩ := open_editsB (by simpa [Value.cells] using hf0)
 subst hn0
 clear hA0 hval0
 refine (isomorphismAutomorphisms_walk a0 L0 cap0 W hs0 ho0 hm0 hz0).mono fun e W' ⟨he,bel⟩ => ?_
 subst he
 exact ⟨_,rfl,_,_,_,[],_,[],hW',trodAll_mk1 (shut_bool Tryz.underlying4 _),(trodAll_cons_mk (Below.trod laidOut (by kernel_rfl) (of_decide_eq_true (by kernel_rfl)) k0 bel lt0) trodAll_mk0),rfl,bel.frame _,fun h => by cases h⟩
theorem over : Rows.isomorphismAutomorphismsRow.holds Tryz.pinned (OpenSpec.ofChange Rows.isomorphismAutomorphismsSpec) :=
 OpenClaim.holds_of_wide 9 Tryz.f9 rfl rfl rfl rfl rfl rfl rfl ⟨rfl,rfl,rfl,rfl,rfl⟩ rfl rfl rfl rfl rfl (by kernel_rfl) Tryz.func9 (by kernel_rfl)
  (of_decide_eq_true (by kernel_rfl)) (by unfold Func.isWrapper; first | (rw [if_pos (by decide +kernel)]; kernel_rfl) | (rw [if_neg (by decide +kernel)]; exact ⟨rfl,rfl⟩))
  (fun os started H enc _ => lifted os started H enc)
end Go.Proofs.YtbpeemhfjgcnaaaGreat.isomorphismAutomorphismsRow
namespace Go.Proofs.YtbpeemhfjgcnaaaGreat
theorem isomorphismAutomorphisms_holds : Rows.IsomorphismAutomorphismsSaid := isomorphismAutomorphismsRow.over
#print axioms isomorphismAutomorphisms_holds
end Go.Proofs.YtbpeemhfjgcnaaaGreat
