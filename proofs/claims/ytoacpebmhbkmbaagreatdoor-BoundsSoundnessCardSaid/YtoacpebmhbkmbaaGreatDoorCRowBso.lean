/- Every input makes the law BoundsSoundness answer true, and each argument reads behind the call as it read before: the given card, tied to the program's text. No condition. -/
import Derived.Test.YtoacpebmhbkmbaaGreatDoorC30
import Derived.Test.YtoacpebmhbkmbaaGreatDoorC29
import Derived.Test.YtoacpebmhbkmbaaGreatDoorC31
import Derived.Test.YtoacpebmhbkmbaaGreatDoorC8
import Derived.Test.YtoacpebmhbkmbaaGreatDoorC46
import Derived.Test.YtoacpebmhbkmbaaGreatDoorC44
import Derived.Test.YtoacpebmhbkmbaaGreatDoorC42
import Derived.Test.YtoacpebmhbkmbaaGreatDoorC38
import Derived.Test.YtoacpebmhbkmbaaGreatDoorCards
import Derived.Test.YtoacpebmhbkmbaaGreatDoorTie
import Derived.WalkKit
import Derived.ProofKit
import Derived.OpenShut
import Derived.ShutString
import Derived.ChangeOld
import Derived.Below
import Derived.SevenTiedAt
import Derived.Test.YtoacpebmhbkmbaaGreatDoorC47
namespace Go.Proofs.YtoacpebmhbkmbaaGreatDoor
open Go Go.RowKit
theorem Ord.len {V : List (Int × Thing)} {E : List ((Int × Int) × Thing)} {L : List Int} (h : Ord V L) (hi : GInv V E) : L.length = V.length := by
 have h1 : L.Perm (V.map (·.1)) := (List.perm_ext_iff_of_nodup h.nodup (sv_nodup hi.sv)).2 h.mem
 simpa using h1.length_eq
section
variable {V : List (Int × Thing)} {E : List ((Int × Int) × Thing)} {L : List Int}
end
end Go.Proofs.YtoacpebmhbkmbaaGreatDoor
namespace Go.Proofs.YtoacpebmhbkmbaaGreatDoor
open Go Go.RowKit Go.Shelf
def encU8 (n : Int) : List Value := [.int .u8 n]
theorem atU8 {w : World} {A : Option Addr} {L : List Int} (h : SlAt encU8 1 w A L) {i : Nat} (hi : i < L.length) : ∃ b off,A = some ⟨b,off,none⟩ ∧ (∀ W,Ext w W → W.cell? ⟨b,off + i,none⟩ = some (.int .u8 L[i])) := by
 obtain ⟨b,off,hA,hc⟩ := h.at_ hi
 exact ⟨b,off,hA,fun W hW => by have := hc 0 _ rfl W hW; simpa using this⟩
end Go.Proofs.YtoacpebmhbkmbaaGreatDoor
namespace Go.Proofs.YtoacpebmhbkmbaaGreatDoor
open Go Go.RowKit Go.Shelf
attribute [local go_sem] qUpon lUpon
attribute [local irreducible] wpO wpX wpQL
theorem setRow_new (w : World) (b : Nat) (cur cs : Array Value) (T : TypeId) (hg : w.heap[b]? = some (.cells cur T (0,0))) : (w.setRow b cs).heap[b]? = some (.cells cs T (0,0)) := Blk.row (w := w) (b := b) (t := T) (cs := cur) hg cs
theorem swap_perm {o : List Int} {k j : Nat} (hk : k < o.length) (hj : j < o.length) : ((o.set k o[j]).set j o[k]).Perm o := by
 have h := Array.swap_perm (xs := o.toArray) (i := k) (j := j) (by simpa using hk) (by simpa using hj)
 have e : (o.toArray.swap k j (by simpa using hk) (by simpa using hj)).toList = (o.set k o[j]).set j o[k] := by
  simp [Array.swap]
 have h2 := Array.perm_iff_toList_perm.1 h
 rw [e] at h2
 exact h2
theorem load_Vr {ρ : Operand → Value} {o : Oper} {x : Operand} {w : World} {b off : Nat} {p q r : Value} (ho : o.op = .load 64 x) (hx : ρ x = .pointer (some ⟨b,off,none⟩)) (h0 : w.cell? ⟨b,off,none⟩ = some p) (h1 : w.cell? ⟨b,off + 1,none⟩ = some q) (h2 : w.cell? ⟨b,off + 2,none⟩ = some r) : (execOp ρ o).run Tryz.prog w = .ok (.value (.agg #[p,q,r])) w :=
 run_load_agg ho hx (by simp [go_sem]) (by simp [go_sem]) fun j v hv => by
  match j,hv with
  | 0,hv => simp at hv; subst hv; exact h0
  | 1,hv => simp at hv; subst hv; exact h1
  | 2,hv => simp at hv; subst hv; exact h2
theorem run_store_own {P : Program} {ρ : Operand → Value} {o : Oper} {t : TypeId} {p x : Operand} {w : World} {base T cap n b i : Nat} {xs : List Int} (y : Int) (ho : o.op = .store t p x) (hp : ρ p = .pointer (some ⟨b,i,none⟩)) (hx : ρ x = .int .i64 y) (hs : (sizeOf t).run P w = .ok 1 w)
  (hown : w.ownsRow base T 1 (.slice (some ⟨b,0,none⟩) n cap) n (xs.flatMap encI)) (hi : i < xs.length) :
  ∃ cs,(execOp ρ o).run P w = .ok .skip (w.setRow b cs) ∧ (w.setRow b cs).ownsRow base T 1 (.slice (some ⟨b,0,none⟩) n cap) n ((xs.set i y).flatMap encI) ∧ w.grownBy (w.setRow b cs) (some b) := by
 obtain ⟨hlen,h | ⟨g,cap',cur,hv,hb,hg,hn,hm,hsz,htk⟩⟩ := hown
 ·cases h.1
 ·injection hv with hv1 _ hv2
  injection hv1 with hv1
  injection hv1 with hv1 _
  subst hv1
  subst hv2
  have hfl : (xs.flatMap encI).length = xs.length := by rw [flat1 (enc := encI) (f := fun z => .int .i64 z) (fun _ => rfl),List.length_map]
  have hnl : n = xs.length := by omega
  have hic : i < cur.size := by omega
  have hst := run_storeCells_at (P := P) b i T [.int .i64 y] 0 cur w hg (by simp; omega) (fun v hv => by simp at hv; subst hv; rfl)
  rw [Nat.add_zero] at hst
  refine ⟨(cur.toList.take i ++ [Value.int .i64 y] ++ cur.toList.drop (i + 1)).toArray, ?_, ?_, ?_⟩
  ·unfold execOp
   simp only [ho,hp,hx]
   simp only [List.length_cons,List.length_nil,Nat.zero_add] at hst
   simp [Instr.storeAt,Instr.sureAddr,storeVar,hs,hst,Value.cells,Result.andThen]
  ·have he : cur.toList.take i ++ [.int .i64 y] ++ cur.toList.drop (i + 1) = cur.toList.set i (.int .i64 y) := by
    rw [List.set_eq_take_append_cons_drop,if_pos (by simpa using hic)]
    simp
   rw [he]
   have hf2 : ((xs.set i y).flatMap encI) = (xs.flatMap encI).set i (.int .i64 y) := by
    rw [flat1 (enc := encI) (f := fun z => .int .i64 z) (fun _ => rfl),flat1 (enc := encI) (f := fun z => .int .i64 z) (fun _ => rfl),List.map_set]
   refine ⟨by rw [hf2,List.length_set]; exact hlen, .inr ⟨b,cap,_,rfl,hb,setRow_new w b cur _ T hg,hn,hm,by simpa using hsz, ?_⟩⟩
   rw [hf2, ← htk,List.toList_toArray,List.take_set]
  ·exact ⟨rfl,rfl,rfl,by simp [World.setRow],fun k _ hne => setRow_other w b k _ (fun e => hne (by rw [e]))⟩
section
variable {P : Program} {l : List Oper} {C : World → Prop} {safe : Nat → Bool} {Q : Act → World → Prop} {n j : Nat} {listed : Array Bool} {a : Act} {o : Oper} {wf w W : World} {T0 : List Nat} {ds : List Deferred} {L : List Cl} {Rs : List Rw}
theorem Sp.putL {S : List Nat} {w1 : World} {q0 : Prop} {li : Array Bool} (h : Sp wf T0 w ds L Rs W) (hK : Keep S w1 W) (i : Nat) {T k b cap : Nat} {xs : List Int} (y : Int) (hi : Rs[i]? = some (T,1, .slice (some ⟨b,0,none⟩) k cap,k,xs.flatMap encI)) (hc : b ∈ S)
  {t : TypeId} {p x : Operand} {q : Nat} (ho : o.op = .store t p x) (hp : a.eval p = .pointer (some ⟨b,q,none⟩)) (hx : a.eval x = .int .i64 y) (hz : (sizeOf t).run P W = .ok 1 W) (hq : q < xs.length)
  (hk : ∀ W',Sp wf T0 w ds L (Rs.set i (T,1, .slice (some ⟨b,0,none⟩) k cap,k,(xs.set q y).flatMap encI)) W' → Keep S w1 W' → wpX P l.toArray Ext (Keep S w1) safe Q n li (a.put o.dst undef) W') : lUpon P (fun v w' => (q0 → Keep S w1 w') ∧ ∀ w'',Ext w' w'' → wpX P l.toArray Ext (Keep S w1) safe Q n li (a.put o.dst v) w'') ((execOp a.eval o).run P W) := by
 obtain ⟨cs,h1,h2,h3⟩ := run_store_own (P := P) y ho hp hx hz (h.row i hi) hq
 rw [h1]
 have hK2 : Keep S w1 (W.setRow b cs) := hK.trans ((Keep.setRow W b cs).mono fun x hx => by rw [List.mem_singleton] at hx; subst hx; exact hc)
 exact lUpon_skip ⟨fun _ => hK2,fun W' hx => hk W' ((h.push i (by decide) hi (Ext.refl W) h2 h3 (.inl rfl)).ext hx) (hK2.trans (hx.keep S))⟩
end
theorem own_some {w : World} {base T n c : Nat} {A : Option Addr} {xs : List Value} (h : w.ownsRow base T 1 (.slice A n c) n xs) (hn : 0 < n) : ∃ b,A = some ⟨b,0,none⟩ := by
 obtain ⟨_,h | ⟨g,cap',cur,hv,_⟩⟩ := h
 ·omega
 ·injection hv with hv1
  exact ⟨g,hv1⟩
set_option maxRecDepth 100000 in
set_option maxHeartbeats 16000000 in
theorem boundsSoundness_walk (A : Option Addr) (L : List Ed) (cL : Nat) (B : Option Addr) (TS : List Int) (cT : Nat) (w : World) (hL : SlAt encD 5 w A L) (hl : L.length ≤ 9223372036854775807) (hc : L.length ≤ cL) (hB : SlAt encU8 1 w B TS) (hob : ∀ d ∈ TS,0 ≤ d ∧ d < 256) (hmb : TS.length ≤ 9223372036854775807) (hT : Tab w) :
  Calls Tryz.prog 7 #[.slice A L.length cL, .slice B TS.length cT] w fun e w' => e = .returned (.bool true) ∧ Ext w w' := by
 have hL' := hide hL
 have hl' := hide hl
 have hc' := hide hc
 have hT' := hide hT
 have hi := hide (show GInv (bgS L).1 (bgS L).2 from mdS_inv (L.take 40))
 have hB' := hide hB
 have hob' := hide hob
 have hmb' := hide hmb
 obtain ⟨nt,hnt⟩ : ∃ nt,nt = TS.length := ⟨_,rfl⟩
 rw [← hnt]
 have hnt' := hide hnt
 clear hB hob hmb hnt
 clear hL hl hc hT
 have hP := hide (Sp.new w)
 refine callsIn_wide.1 (callsIn_of_wp_marks (n := 0) Tryz.func7 rfl trivial (wpIn_wide.2 ?_))
 simp only [Tryz.ntmps7,List.size_toArray,List.length_cons,List.length_nil,Nat.reduceAdd,Nat.reduceSub,Array.replicate_succ,Array.replicate_zero,List.push_toArray,List.append_toArray,List.nil_append,List.cons_append]
 try dsimp only
 repeat ((fail_if_success (with_reducible refine wp_reg (id := 1) ?_)); (first | go_values | go_skip | go_step | go_guarded | go_upon | go_in | go_back | fail))
 with_reducible refine wp_reg (id := 1) ?_
 refine wpO_want rfl ?_
 go_simp
 refine wpO_want rfl ?_
 go_simp
 have hca := begun22_any A L cL w ((unhide hL').ext (unhide hP).extf) (unhide hl') (unhide hc')
 generalize bgS L = S at *
 obtain ⟨V,E⟩ := S
 try dsimp only at hi hca ⊢
 refine hca.mono ?_
 clear hca
 rintro _ y1 ⟨g,bv,be,A1,B1,cA,cB,rfl,hg0,hs0,he0,hxc⟩
 refine ⟨_,rfl, ?_⟩
 replace hP : Hid (Sp w [] w [] [] [] y1) := hide ((unhide hP).ext hxc)
 have hg := hide hg0
 have hsV := hide hs0
 have hsE := hide he0
 obtain ⟨q,hq⟩ : ∃ q,q = decide ((L.length : Int) ≤ 40) := ⟨_,rfl⟩
 rw [← hq]
 have hnV := hide hg0.nV
 have hnE := hide hg0.nE
 clear hxc hg0 hs0 he0 hq
 generalize htu0 : Value.tuple _ = tu
 have htu := hide htu0
 clear htu0
 refine wpO_val rfl (run_move rfl rfl) ?_
 go_frame
 refine wpO_val rfl (run_extract (i := 0) (v := .pointer (some ⟨g,0,none⟩)) rfl (unhide htu).symm rfl) ?_
 go_frame
 refine wpO_val rfl (run_extract (i := 1) (v := .agg #[.slice A1 V.length cA, .slice B1 E.length cB]) rfl (unhide htu).symm rfl) ?_
 go_frame
 refine wpO_val rfl (run_extract (i := 2) (v := .bool q) rfl (unhide htu).symm rfl) ?_
 go_frame
 refine (unhide hP).allocT 41 #[.slice none 0 0, .slice none 0 0] rfl (by go_simp) ?_
 intro r6 y2 hQ hxa hga
 replace hP : Hid (Sp w [] w [] [(r6,41, #[.slice none 0 0, .slice none 0 0])] [] y2) := hide hQ
 clear hQ
 try go_frame
 refine wpO_want rfl ?_
 go_simp
 refine (unhide hP).setT 0 #[.slice A1 V.length cA, .slice B1 E.length cB] rfl rfl (fun hb => run_store_row (v := .agg #[.slice A1 V.length cA, .slice B1 E.length cB]) rfl (by rfl) (by rfl) (by simp [go_sem]) hb rfl (fun u hu => by simp [Value.cells] at hu; rcases hu with rfl | rfl <;> rfl)) ?_
 intro y3 hQ hkq
 replace hP : Hid (Sp w [] w [] [(r6,41, #[.slice A1 V.length cA, .slice B1 E.length cB])] [] y3) := hide hQ
 have hxs := hxa.of_new hkq (fun x hx => by rw [List.mem_singleton] at hx; rw [hx]; exact hga)
 clear hQ hkq hxa hga
 try go_frame
 replace hg := hide ((unhide hg).ext (hxs))
 replace hsV := hide ((unhide hsV).ext (hxs))
 replace hsE := hide ((unhide hsE).ext (hxs))
 clear hxs
 refine wpO_want rfl ?_
 go_simp
 refine wpO_done ?_
 try go_frame
 clear htu
 try dsimp only
 repeat ((fail_if_success (with_reducible refine wp_reg (id := 2) ?_)); (first | go_values | go_skip | go_step | go_guarded | go_upon | go_in | go_back | fail))
 with_reducible refine wp_reg (id := 2) ?_
 refine wpO_want rfl ?_
 go_simp
 have hca := known22_any y3 ((unhide hT').ext (unhide hP).extf)
 refine (hca).mono ?_
 rintro _ y4 ⟨rfl,hxc⟩
 clear hca
 refine ⟨_,rfl, ?_⟩
 replace hP : Hid (Sp w [] w [] [(r6,41, #[.slice A1 V.length cA, .slice B1 E.length cB])] [] y4) := hide ((unhide hP).ext hxc)
 replace hg := hide ((unhide hg).ext (hxc))
 replace hsV := hide ((unhide hsV).ext (hxc))
 replace hsE := hide ((unhide hsE).ext (hxc))
 clear hxc
 cases q
 ·skip
  iterate 6
   refine wpO_want rfl ?_
   go_simp
  refine wpO_out (by rfl) ?_
  go_frame
  refine wpO_out (by rfl) ?_
  go_frame
  refine wpO_out (by rfl) ?_
  go_frame
  refine wpO_want rfl ?_
  go_simp
  refine wpO_done ?_
  try go_frame
  try dsimp only
  repeat ((fail_if_success (with_reducible refine wp_reg (id := 3) ?_)); (first | go_values | go_skip | go_step | go_guarded | go_upon | go_in | go_back | fail))
  with_reducible refine wp_reg (id := 3) ?_
  refine wpO_want rfl ?_
  go_simp
  have hca := known22_any y4 ((unhide hT').ext (unhide hP).extf)
  refine (hca).mono ?_
  rintro _ y5 ⟨rfl,hxc⟩
  clear hca
  refine ⟨_,rfl, ?_⟩
  replace hP : Hid (Sp w [] w [] [(r6,41, #[.slice A1 V.length cA, .slice B1 E.length cB])] [] y5) := hide ((unhide hP).ext hxc)
  replace hg := hide ((unhide hg).ext (hxc))
  replace hsV := hide ((unhide hsV).ext (hxc))
  replace hsE := hide ((unhide hsE).ext (hxc))
  clear hxc
  refine wpO_want rfl ?_
  go_simp
  refine wpO_done ?_
  try go_frame
  go_wp2_with fail
  refine Sp.leaves0 ?_
  exact ⟨_,results_tmp rfl _ _ _,rfl,(unhide hP).extf⟩
 ·skip
  by_cases hmo : (nt : Int) > 100
  ·skip
   iterate 10
    refine wpO_want rfl ?_
    go_simp
   refine wpO_done ?_
   try go_frame
   replace hmo := hide hmo
   try dsimp only
   repeat ((fail_if_success (with_reducible refine wp_reg (id := 3) ?_)); (first | go_values | go_skip | go_step | go_guarded | go_upon | go_in | go_back | fail))
   with_reducible refine wp_reg (id := 3) ?_
   refine wpO_want rfl ?_
   go_simp
   have hca := known22_any y4 ((unhide hT').ext (unhide hP).extf)
   refine (hca).mono ?_
   rintro _ y5 ⟨rfl,hxc⟩
   clear hca
   refine ⟨_,rfl, ?_⟩
   replace hP : Hid (Sp w [] w [] [(r6,41, #[.slice A1 V.length cA, .slice B1 E.length cB])] [] y5) := hide ((unhide hP).ext hxc)
   replace hg := hide ((unhide hg).ext (hxc))
   replace hsV := hide ((unhide hsV).ext (hxc))
   replace hsE := hide ((unhide hsE).ext (hxc))
   clear hxc
   refine wpO_want rfl ?_
   go_simp
   refine wpO_done ?_
   try go_frame
   go_wp2_with fail
   refine Sp.leaves0 ?_
   exact ⟨_,results_tmp rfl _ _ _,rfl,(unhide hP).extf⟩
  ·skip
   iterate 10
    refine wpO_want rfl ?_
    go_simp
   refine wpO_done ?_
   try go_frame
   replace hmo := hide hmo
   have hw0 := hide ((unhide hP).extf)
   have hmo' : nt ≤ 100 := by have := unhide hmo; omega
   clear hmo hsV hsE hP
   have hP := hide (Sp.new y4)
   have hGL := hide (fun (W : World) (hW : Ext y4 W) => (unhide hg).ext hW)
   have hTw := hide (fun (W : World) (hW : Ext y4 W) => (unhide hT').ext ((unhide hw0).trans hW))
   have hBw := hide (fun (W : World) (hW : Ext y4 W) => (unhide hB').ext ((unhide hw0).trans hW))
   obtain ⟨nV,hnVl⟩ : ∃ nV,nV = V.length := ⟨_,rfl⟩
   have hnV1 := hide (show nV ≤ 1024 by rw [hnVl]; exact (unhide hi).nv)
   have hnVl' := hide hnVl
   obtain ⟨I0,hI0⟩ : ∃ I0,I0 = V.map (·.1) := ⟨_,rfl⟩
   have hI0' := hide hI0
   have hmo2 := hide hmo'
   clear hnVl hI0 hnV hmo'
   try dsimp only
   repeat ((fail_if_success (with_reducible refine wp_reg (id := 4) ?_)); (first | go_values | go_skip | go_step | go_guarded | go_upon | go_in | go_back | fail))
   with_reducible refine wp_reg (id := 4) ?_
   refine wpO_want rfl ?_
   go_simp
   refine wpO_done ?_
   try go_frame
   try dsimp only
   repeat ((fail_if_success (with_reducible refine wp_reg (id := 5) ?_)); (first | go_values | go_skip | go_step | go_guarded | go_upon | go_in | go_back | fail))
   with_reducible refine wp_reg (id := 5) ?_
   refine wpO_want rfl ?_
   go_simp
   refine wpO_want rfl ?_
   go_simp
   refine (vertices_rel g bv be V E y4 ((unhide hGL) _ (unhide hP).extf)).mono ?_
   rintro _ y5 ⟨AV,cV,rfl,ho,hxc⟩
   rw [← unhide hnVl'] at ho
   rw [← unhide hnVl']
   refine ⟨_,rfl, ?_⟩
   replace hP : Hid (Sp y4 [] y4 [] [] [(64,3, .slice AV nV cV,nV,V.flatMap encV)] y5) := hide ((unhide hP).addRow hxc ho)
   clear hxc ho
   iterate 2
    refine wpO_want rfl ?_
    go_simp
   refine wpO_done ?_
   try go_frame
   go_wp2_with fail
   replace hP : Hid (Sp y4 [] y4 [] [] [(64,3, .slice AV nV cV,nV,V.flatMap encV),(3,1, .slice none 0 0,0,([] : List Int).flatMap encI)] y5) := hide ((unhide hP).nil 3 1)
   obtain ⟨I5_6,hI5_60⟩ : ∃ I : Nat → Act → World → Prop,I = fun fi a' wr => ∃ (i : Nat), ∃ (A8 : Option Addr), ∃ (c8 : Nat), ∃ (xs : List Int),a'.tmps.size = 129 ∧ a'.tmps.getD 5 undef = .pointer (some ⟨g,0,none⟩) ∧ a'.tmps.getD 1 undef = .slice B nt cT ∧ a'.tmps.getD 8 undef = .slice A8 i c8 ∧ a'.tmps.getD 40 undef = .slice AV nV cV ∧ a'.tmps.getD 41 undef = .int .i64 (nV : Nat) ∧ a'.tmps.getD 42 undef = .int .i64 (i : Nat) ∧ a'.defers = [] ∧ i ≤ nV ∧ xs = I0.take i ∧ Sp y4 [] y4 [] [] [(64,3, .slice AV nV cV,nV,V.flatMap encV),(3,1, .slice A8 i c8,i,xs.flatMap encI)] wr ∧ fi = nV - i := ⟨_,rfl⟩
   have hI5_6 := hide hI5_60
   clear hI5_60
   refine wp_loop_ix I5_6 (nV - 0) ?_ ?_
   ·rw [unhide hI5_6]; exact ⟨0,none,0,[],rfl,rfl,rfl,rfl,rfl,rfl,rfl,rfl,Nat.zero_le _,rfl,unhide hP,rfl⟩
   ·rintro fi ⟨tm,dfs⟩ wr hrel
    rw [unhide hI5_6] at hrel
    obtain ⟨i,A8,c8,xs,hsz,e5,e1,e8,e40,e41,e42,hdf,hin,hxs0,hPr,hfm⟩ := hrel
    obtain ⟨us,rfl⟩ : ∃ us : Nat → Value,tm = #[us 0,us 1,us 2,us 3,us 4,us 5,us 6,us 7,us 8,us 9,us 10,us 11,us 12,us 13,us 14,us 15,us 16,us 17,us 18,us 19,us 20,us 21,us 22,us 23,us 24,us 25,us 26,us 27,us 28,us 29,us 30,us 31,us 32,us 33,us 34,us 35,us 36,us 37,us 38,us 39,us 40,us 41,us 42,us 43,us 44,us 45,us 46,us 47,us 48,us 49,us 50,us 51,us 52,us 53,us 54,us 55,us 56,us 57,us 58,us 59,us 60,us 61,us 62,us 63,us 64,us 65,us 66,us 67,us 68,us 69,us 70,us 71,us 72,us 73,us 74,us 75,us 76,us 77,us 78,us 79,us 80,us 81,us 82,us 83,us 84,us 85,us 86,us 87,us 88,us 89,us 90,us 91,us 92,us 93,us 94,us 95,us 96,us 97,us 98,us 99,us 100,us 101,us 102,us 103,us 104,us 105,us 106,us 107,us 108,us 109,us 110,us 111,us 112,us 113,us 114,us 115,us 116,us 117,us 118,us 119,us 120,us 121,us 122,us 123,us 124,us 125,us 126,us 127,us 128] := ⟨fun i => tm.getD i undef,arr_fn hsz⟩
    have h5 : us 5 = .pointer (some ⟨g,0,none⟩) := e5
    have h1 : us 1 = .slice B nt cT := e1
    have h8 : us 8 = .slice A8 i c8 := e8
    have h40 : us 40 = .slice AV nV cV := e40
    have h41 : us 41 = .int .i64 (nV : Nat) := e41
    have h42 : us 42 = .int .i64 (i : Nat) := e42
    have hdf2 : dfs = [] := hdf
    subst hdf2
    clear hdf hsz e5 e1 e8 e40 e41 e42
    simp only [h5,h1,h8,h40,h41,h42]
    clear h5 h1 h8 h40 h41 h42
    clear hP
    have hP := hide hPr
    have hfm' := hide hfm
    have hxs' := hide hxs0
    clear hPr hfm hxs0
    by_cases hlt : i < nV
    ·have hil : (i : Int) < (nV : Int) := by omega
     have hk2 := hide hlt
     have hiV : i < V.length := by have := unhide hnVl'; omega
     have hib : (i : Int) ≤ 1024 := by have := unhide hnV1; omega
     have hrow := (unhide hP).row 0 rfl
     rw [unhide hnVl'] at hrow
     obtain ⟨bV,oV,hAV,c0,c1,c2⟩ := atV (own_at (enc := encV) (A := AV) (c := cV) (xs := V) hrow (fun _ => rfl)) hiV
     subst hAV
     obtain ⟨v,hv⟩ : ∃ v,v = V[i] := ⟨_,rfl⟩
     rw [← hv] at c0 c1 c2
     have hxn := hide (show xs ++ [v.1] = I0.take (i + 1) by
      have h1 : i < I0.length := by rw [unhide hI0',List.length_map]; exact hiV
      rw [List.take_succ_eq_append_getElem h1,unhide hxs',hv]
      congr 1
      simp only [unhide hI0',List.getElem_map])
     obtain ⟨v0,v1,v2⟩ := v
     simp only at c0 c1 c2 hxn
     clear hlt hin hrow hv hiV
     have hself := Ext.refl wr
     try dsimp only
     repeat ((fail_if_success (with_reducible refine wp_reg (id := 6) ?_)); (first | go_values | go_skip | go_step | go_guarded | go_upon | go_in | go_back | fail))
     with_reducible refine wp_reg (id := 6) ?_
     refine wpO_want rfl ?_
     go_simp
     refine wpO_done ?_
     try go_frame
     try dsimp only
     repeat ((fail_if_success (with_reducible refine wp_reg (id := 7) ?_)); (first | go_values | go_skip | go_step | go_guarded | go_upon | go_in | go_back | fail))
     with_reducible refine wp_reg (id := 7) ?_
     refine wpO_want rfl ?_
     go_simp
     refine wpO_val rfl (load_Vr (p := .int .i64 v0) (q := .int .u8 v1) (r := .int .i64 v2) rfl rfl (c0 _ hself) (c1 _ hself) (c2 _ hself)) ?_
     go_frame
     clear c0 c1 c2 hself
     refine (unhide hP).allocO 64 #[.int .i64 0, .int .u8 0, .int .i64 0] rfl (by go_simp) ?_
     intro r10 y6 hQ
     replace hP : Hid (Sp y4 [] y4 [] [(r10,64, #[.int .i64 0, .int .u8 0, .int .i64 0])] [(64,3, .slice (some ⟨bV,oV,none⟩) nV cV,nV,V.flatMap encV),(3,1, .slice A8 i c8,i,xs.flatMap encI)] y6) := hide hQ
     clear hQ
     refine (unhide hP).setO 0 #[.int .i64 v0, .int .u8 v1, .int .i64 v2] rfl rfl (fun hb => run_store_row (v := .agg #[.int .i64 v0, .int .u8 v1, .int .i64 v2]) rfl (by rfl) (by rfl) (by simp [go_sem]) hb rfl (fun u hu => by simp [Value.cells] at hu; rcases hu with rfl | rfl | rfl <;> rfl)) ?_
     intro y7 hQ
     replace hP : Hid (Sp y4 [] y4 [] [(r10,64, #[.int .i64 v0, .int .u8 v1, .int .i64 v2])] [(64,3, .slice (some ⟨bV,oV,none⟩) nV cV,nV,V.flatMap encV),(3,1, .slice A8 i c8,i,xs.flatMap encI)] y7) := hide hQ
     clear hQ
     refine wpO_done ?_
     try go_frame
     have q0 := (unhide hP).cell 0 0 (v := .int .i64 v0) rfl rfl
     have hself := Ext.refl y7
     try dsimp only
     repeat ((fail_if_success (with_reducible refine wp_reg (id := 8) ?_)); (first | go_values | go_skip | go_step | go_guarded | go_upon | go_in | go_back | fail))
     with_reducible refine wp_reg (id := 8) ?_
     iterate 3
      refine wpO_want rfl ?_
      go_simp
     clear q0 hself
     refine (unhide hP).build1O 3 #[.int .i64 v0] rfl (run_build1X rfl rfl) ?_
     intro bb y8 hQ
     replace hP : Hid (Sp y4 [] y4 [] [(r10,64, #[.int .i64 v0, .int .u8 v1, .int .i64 v2]),(bb,3, #[.int .i64 v0])] [(64,3, .slice (some ⟨bV,oV,none⟩) nV cV,nV,V.flatMap encV),(3,1, .slice A8 i c8,i,xs.flatMap encI)] y8) := hide hQ
     clear hQ
     go_frame
     refine (unhide hP).ap1O (enc := encI) (T := 3) (ST := 31) 1 (v := .slice A8 i c8) (m := i) (xs := xs) rfl rfl infoI Tryz.underlying31 one_encI (fun _ => rfl) (by decide) (by decide) rfl v0 rfl rfl ((unhide hP).get 1 rfl) (by omega) ?_
     intro A9 cA9 y9 hQ
     replace hP : Hid (Sp y4 [] y4 [] [(r10,64, #[.int .i64 v0, .int .u8 v1, .int .i64 v2]),(bb,3, #[.int .i64 v0])] [(64,3, .slice (some ⟨bV,oV,none⟩) nV cV,nV,V.flatMap encV),(3,1, .slice A9 (i + 1) cA9,i + 1,(xs ++ [v0]).flatMap encI)] y9) := hide hQ
     clear hQ
     try go_frame
     refine wpO_want rfl ?_
     go_simp
     refine wpO_done ?_
     try go_frame
     replace hP : Hid (Sp y4 [] y4 [] [(r10,64, #[.int .i64 v0, .int .u8 v1, .int .i64 v2])] [(64,3, .slice (some ⟨bV,oV,none⟩) nV cV,nV,V.flatMap encV),(3,1, .slice A9 (i + 1) cA9,i + 1,(xs ++ [v0]).flatMap encI)] y9) := hide ((unhide hP).sub (List.sublist_append_left _ ([(bb,3, #[.int .i64 v0])] : List Cl)) (List.Sublist.refl _))
     replace hP : Hid (Sp y4 [] y4 [] [] [(64,3, .slice (some ⟨bV,oV,none⟩) nV cV,nV,V.flatMap encV),(3,1, .slice A9 (i + 1) cA9,i + 1,(xs ++ [v0]).flatMap encI)] y9) := hide ((unhide hP).sub (List.sublist_append_left _ ([(r10,64, #[.int .i64 v0, .int .u8 v1, .int .i64 v2])] : List Cl)) (List.Sublist.refl _))
     have hw1 : IntKind.i64.wrap ((i : Int) + 1) = (i : Int) + 1 := IntWalk.i64_in _ (by omega)
     go_wp2_with fail
     have h3 := unhide hk2
     refine ⟨nV - (i + 1), ?_,by have := unhide hfm'; omega⟩
     rw [unhide hI5_6]
     exact ⟨i + 1,A9,cA9,xs ++ [v0],(by first | rfl | trivial),(by first | rfl | trivial),(by first | rfl | trivial),(by first | rfl | trivial),(by first | rfl | trivial),(by first | rfl | trivial),(by first | rfl | (show _ = Value.int _ _; go_num) | go_num),(by first | rfl | trivial),by omega,unhide hxn,unhide hP,rfl⟩
    ·have hil : ¬ (i : Int) < (nV : Int) := by omega
     obtain rfl : i = nV := by omega
     have hpm := hide (show xs.Perm I0 by rw [unhide hxs',List.take_of_length_le (by rw [unhide hI0',List.length_map]; have := unhide hnVl'; omega)])
     clear hlt hin hfm' hxs'
     try dsimp only
     repeat ((fail_if_success (with_reducible refine wp_reg (id := 6) ?_)); (first | go_values | go_skip | go_step | go_guarded | go_upon | go_in | go_back | fail))
     with_reducible refine wp_reg (id := 6) ?_
     refine wpO_want rfl ?_
     go_simp
     refine wpO_done ?_
     try go_frame
     try dsimp only
     repeat ((fail_if_success (with_reducible refine wp_reg (id := 10) ?_)); (first | go_values | go_skip | go_step | go_guarded | go_upon | go_in | go_back | fail))
     with_reducible refine wp_reg (id := 10) ?_
     refine wpO_want rfl ?_
     go_simp
     refine wpO_done ?_
     try go_frame
     go_wp2_with fail
     obtain ⟨I5_10,hI5_100⟩ : ∃ I : Nat → Act → World → Prop,I = fun fi a' wr => ∃ (k : Nat), ∃ (ys : List Int),a'.tmps.size = 129 ∧ a'.tmps.getD 5 undef = .pointer (some ⟨g,0,none⟩) ∧ a'.tmps.getD 1 undef = .slice B nt cT ∧ a'.tmps.getD 8 undef = .slice A8 i c8 ∧ a'.tmps.getD 11 undef = .int .i64 (k : Nat) ∧ a'.defers = [] ∧ k ≤ nt ∧ ys.Perm I0 ∧ Sp y4 [] y4 [] [] [(64,3, .slice AV i cV,i,V.flatMap encV),(3,1, .slice A8 i c8,i,ys.flatMap encI)] wr ∧ fi = nt - k := ⟨_,rfl⟩
     have hI5_10 := hide hI5_100
     clear hI5_100
     refine wp_loop_ix I5_10 (nt - 0) ?_ ?_
     ·rw [unhide hI5_10]; exact ⟨0,xs,rfl,rfl,rfl,rfl,rfl,rfl,Nat.zero_le _,unhide hpm,unhide hP,rfl⟩
     ·rintro fi ⟨tm,dfs⟩ wr hrel
      rw [unhide hI5_10] at hrel
      obtain ⟨k,ys,hsz,e5,e1,e8,e11,hdf,hkn,hys,hPr,hfm⟩ := hrel
      obtain ⟨us,rfl⟩ : ∃ us : Nat → Value,tm = #[us 0,us 1,us 2,us 3,us 4,us 5,us 6,us 7,us 8,us 9,us 10,us 11,us 12,us 13,us 14,us 15,us 16,us 17,us 18,us 19,us 20,us 21,us 22,us 23,us 24,us 25,us 26,us 27,us 28,us 29,us 30,us 31,us 32,us 33,us 34,us 35,us 36,us 37,us 38,us 39,us 40,us 41,us 42,us 43,us 44,us 45,us 46,us 47,us 48,us 49,us 50,us 51,us 52,us 53,us 54,us 55,us 56,us 57,us 58,us 59,us 60,us 61,us 62,us 63,us 64,us 65,us 66,us 67,us 68,us 69,us 70,us 71,us 72,us 73,us 74,us 75,us 76,us 77,us 78,us 79,us 80,us 81,us 82,us 83,us 84,us 85,us 86,us 87,us 88,us 89,us 90,us 91,us 92,us 93,us 94,us 95,us 96,us 97,us 98,us 99,us 100,us 101,us 102,us 103,us 104,us 105,us 106,us 107,us 108,us 109,us 110,us 111,us 112,us 113,us 114,us 115,us 116,us 117,us 118,us 119,us 120,us 121,us 122,us 123,us 124,us 125,us 126,us 127,us 128] := ⟨fun i => tm.getD i undef,arr_fn hsz⟩
      have h5 : us 5 = .pointer (some ⟨g,0,none⟩) := e5
      have h1 : us 1 = .slice B nt cT := e1
      have h8 : us 8 = .slice A8 i c8 := e8
      have h11 : us 11 = .int .i64 (k : Nat) := e11
      have hdf2 : dfs = [] := hdf
      subst hdf2
      clear hdf hsz e5 e1 e8 e11
      simp only [h5,h1,h8,h11]
      clear h5 h1 h8 h11
      clear hP hpm
      have hP := hide hPr
      have hfm' := hide hfm
      have hys' := hide hys
      clear hPr hfm hys
      by_cases hlt : k < nt
      ·skip
       by_cases hm0 : 0 < i
       ·skip
        have hk2 := hide hlt
        have hkT : k < TS.length := by have := unhide hnt'; omega
        have hkb : (k : Int) ≤ 100 := by have := unhide hmo2; omega
        have hrow := (unhide hP).row 1 rfl
        obtain ⟨b8,rfl⟩ := own_some hrow hm0
        have hil1 : (k : Int) < (nt : Int) := by omega
        have hil2 : (i : Int) > 0 := by omega
        have hyl : i = ys.length := by rw [(unhide hys').length_eq,unhide hI0',List.length_map]; exact unhide hnVl'
        have hn0 : ¬ (i : Int) = 0 := by omega
        have hn1 : ¬ i = 0 := by omega
        obtain ⟨bT,oT,hBT,ct⟩ := atU8 (unhide hB') hkT
        subst hBT
        have ct2 := fun W hW => ct W ((unhide hw0).trans ((unhide hP).extf.trans hW))
        clear ct
        have htv := unhide hob' TS[k] (List.getElem_mem _)
        obtain ⟨tv,htv0⟩ : ∃ tv,tv = TS[k] := ⟨_,rfl⟩
        rw [← htv0] at ct2 htv
        obtain ⟨kq,hkq⟩ : ∃ kq : Nat,(kq : Int) = tv.tmod (i : Int) := ⟨(tv.tmod i).toNat,by have := Int.tmod_nonneg (i : Int) htv.1; omega⟩
        have hkq2 : (kq : Int) < (i : Int) := by rw [hkq]; exact Int.tmod_lt_of_pos _ (by omega)
        have hw8 : IntKind.i64.wrap tv = tv := IntWalk.i64_in _ (by omega)
        have hwk : IntKind.i64.wrap (kq : Int) = (kq : Int) := IntWalk.i64_in _ (by have := unhide hnV1; omega)
        obtain ⟨jq,hjq⟩ : ∃ jq : Nat,jq = k % i := ⟨_,rfl⟩
        have hjq2 : jq < i := by rw [hjq]; exact Nat.mod_lt _ hm0
        have hjt : ((k : Nat) : Int).tmod (i : Int) = (jq : Int) := by rw [hjq,Int.tmod_eq_emod_of_nonneg (by omega)]; rfl
        have hwj : IntKind.i64.wrap (jq : Int) = (jq : Int) := IntWalk.i64_in _ (by have := unhide hnV1; omega)
        have hkl : kq < ys.length := by omega
        have hjl : jq < ys.length := by omega
        have hkl' := hide hkl
        have hjl' := hide hjl
        obtain ⟨yk,hyk⟩ : ∃ yk,yk = ys[kq] := ⟨_,rfl⟩
        obtain ⟨yj,hyj⟩ : ∃ yj,yj = ys[jq] := ⟨_,rfl⟩
        have hsw := hide (show ((ys.set kq yj).set jq yk).Perm I0 by rw [hyk,hyj]; exact (swap_perm hkl hjl).trans (unhide hys'))
        have g0' : Hid (∀ W : World,W.ownsRow y4.heap.size 3 1 (.slice (some ⟨b8,0,none⟩) i c8) i (ys.flatMap encI) → W.cell? ⟨b8,jq,none⟩ = some (.int .i64 yj)) := hide (by
         intro W hW
         rw [hyl] at hW
         have h := slE (own_at (enc := encI) (A := some ⟨b8,0,none⟩) (c := c8) (xs := ys) hW (fun _ => rfl)) hjl W (Ext.refl W)
         rw [Nat.zero_add] at h
         rw [hyj]; exact h)
        have g1' : Hid (∀ W : World,W.ownsRow y4.heap.size 3 1 (.slice (some ⟨b8,0,none⟩) i c8) i (ys.flatMap encI) → W.cell? ⟨b8,kq,none⟩ = some (.int .i64 yk)) := hide (by
         intro W hW
         rw [hyl] at hW
         have h := slE (own_at (enc := encI) (A := some ⟨b8,0,none⟩) (c := c8) (xs := ys) hW (fun _ => rfl)) hkl W (Ext.refl W)
         rw [Nat.zero_add] at h
         rw [hyk]; exact h)
        have hjq' := hide hjq
        have hn0' := hide hn0
        have hjqI : (jq : Int) < (i : Int) := by omega
        have hkq' := hide hkq
        have htm : tv.tmod (i : Int) = (kq : Int) := hkq.symm
        clear hlt hrow hkT hyl htv htv0 hkq hjq hkl hjl hyk hyj hkn
        have hself := Ext.refl wr
        try dsimp only
        repeat ((fail_if_success (with_reducible refine wp_reg (id := 11) ?_)); (first | go_values | go_skip | go_step | go_guarded | go_upon | go_in | go_back | fail))
        with_reducible refine wp_reg (id := 11) ?_
        iterate 9
         refine wpO_want rfl ?_
         go_simp
        refine wpO_done ?_
        try go_frame
        try dsimp only
        repeat ((fail_if_success (with_reducible refine wp_reg (id := 13) ?_)); (first | go_values | go_skip | go_step | go_guarded | go_upon | go_in | go_back | fail))
        with_reducible refine wp_reg (id := 13) ?_
        iterate 8
         refine wpO_want rfl ?_
         go_simp
        refine wpO_want rfl ?_
        go_simp
        refine wpO_done ?_
        try go_frame
        clear ct2 hself htm hw8
        try dsimp only
        repeat ((fail_if_success (with_reducible refine wp_reg (id := 14) ?_)); (first | go_values | go_skip | go_step | go_guarded | go_upon | go_in | go_back | fail))
        with_reducible refine wp_reg (id := 14) ?_
        iterate 5
         refine wpO_want rfl ?_
         go_simp
        refine wpO_done ?_
        try go_frame
        clear hjt
        go_wp2_with fail
        have hmb8 : b8 ∈ [b8] := List.mem_singleton.2 rfl
        refine wp_regionK (P := Tryz.prog) [b8] [0,1,2,3,4,5,6,8,9,10] [15] 6 #[true,true,true,true,true,true,true,false,true,true,true,false,false,false,false,false] (by kernel_rfl) (by kernel_rfl) rfl (by rfl) ?_
        iterate 10
         refine ql_want (v := ?_) rfl (by rfl) (fun W hW => ?_) ?_
         rotate_left
         ·go_simp
          first | done | rfl
         go_frame
        refine wpQL_nil (fun y6 hxq => ?_)
        have hK := hide (hxq.keep [b8])
        replace hP : Hid (Sp y4 [] y4 [] [] [(64,3, .slice AV i cV,i,V.flatMap encV),(3,1, .slice (some ⟨b8,0,none⟩) i c8,i,ys.flatMap encI)] y6) := hide ((unhide hP).ext hxq)
        clear hxq
        refine lx_two (i := 7) (k := 11) (by kernel_rfl) rfl (by rfl) #[true,true,true,true,true,true,true,true,true,true,true,false,false,false,false,false] (by rfl) rfl (by rfl) #[true,true,true,true,true,true,true,false,true,true,true,true,false,false,false,false] (by rfl) ?_ ?_
        ·skip
         refine (unhide hP).valL (unhide hK) (v := .int .i64 yj) ?_ ?_
         ·exact load_V rfl rfl (by simp [go_sem]) (unhide g0' _ ((unhide hP).row 1 rfl))
         intro y7 hQ hK2
         replace hP : Hid (Sp y4 [] y4 [] [] [(64,3, .slice AV i cV,i,V.flatMap encV),(3,1, .slice (some ⟨b8,0,none⟩) i c8,i,ys.flatMap encI)] y7) := hide hQ
         replace hK := hide hK2
         clear hQ hK2
         try go_frame
         refine lx_one (i := 11) (by kernel_rfl) rfl (by rfl) #[true,true,true,true,true,true,true,true,true,true,true,true,false,false,false,false] (by rfl) ?_
         refine (unhide hP).valL (unhide hK) (v := .int .i64 yk) ?_ ?_
         ·exact load_V rfl rfl (by simp [go_sem]) (unhide g1' _ ((unhide hP).row 1 rfl))
         intro y8 hQ hK2
         replace hP : Hid (Sp y4 [] y4 [] [] [(64,3, .slice AV i cV,i,V.flatMap encV),(3,1, .slice (some ⟨b8,0,none⟩) i c8,i,ys.flatMap encI)] y8) := hide hQ
         replace hK := hide hK2
         clear hQ hK2
         try go_frame
         refine lx_one (i := 12) (by kernel_rfl) rfl (by rfl) #[true,true,true,true,true,true,true,true,true,true,true,true,true,false,false,false] (by rfl) ?_
         refine (unhide hP).valL (unhide hK) (v := .pointer (some ⟨b8,kq,none⟩)) ?_ ?_
         ·go_simp
         intro y9 hQ hK2
         replace hP : Hid (Sp y4 [] y4 [] [] [(64,3, .slice AV i cV,i,V.flatMap encV),(3,1, .slice (some ⟨b8,0,none⟩) i c8,i,ys.flatMap encI)] y9) := hide hQ
         replace hK := hide hK2
         clear hQ hK2
         try go_frame
         refine lx_one (i := 13) (by kernel_rfl) rfl (by rfl) #[true,true,true,true,true,true,true,true,true,true,true,true,true,true,false,false] (by rfl) ?_
         refine (unhide hP).putL (unhide hK) 1 yj rfl hmb8 (q := kq) rfl (by first | rfl | go_simp) (by first | rfl | go_simp) (by simp [go_sem]) (unhide hkl') ?_
         intro y10 hQ hK2
         replace hP : Hid (Sp y4 [] y4 [] [] [(64,3, .slice AV i cV,i,V.flatMap encV),(3,1, .slice (some ⟨b8,0,none⟩) i c8,i,(ys.set kq yj).flatMap encI)] y10) := hide hQ
         replace hK := hide hK2
         clear hQ hK2
         try go_frame
         refine lx_one (i := 14) (by kernel_rfl) rfl (by rfl) #[true,true,true,true,true,true,true,true,true,true,true,true,true,true,true,false] (by rfl) ?_
         refine (unhide hP).valL (unhide hK) (v := .pointer (some ⟨b8,jq,none⟩)) ?_ ?_
         ·go_simp
         intro y11 hQ hK2
         replace hP : Hid (Sp y4 [] y4 [] [] [(64,3, .slice AV i cV,i,V.flatMap encV),(3,1, .slice (some ⟨b8,0,none⟩) i c8,i,(ys.set kq yj).flatMap encI)] y11) := hide hQ
         replace hK := hide hK2
         clear hQ hK2
         try go_frame
         refine lx_one (i := 15) (by kernel_rfl) rfl (by rfl) #[true,true,true,true,true,true,true,true,true,true,true,true,true,true,true,true] (by rfl) ?_
         refine (unhide hP).putL (unhide hK) 1 yk rfl hmb8 (q := jq) rfl (by first | rfl | go_simp) (by first | rfl | go_simp) (by simp [go_sem]) (by rw [List.length_set]; exact unhide hjl') ?_
         intro y12 hQ hK2
         replace hP : Hid (Sp y4 [] y4 [] [] [(64,3, .slice AV i cV,i,V.flatMap encV),(3,1, .slice (some ⟨b8,0,none⟩) i c8,i,((ys.set kq yj).set jq yk).flatMap encI)] y12) := hide hQ
         replace hK := hide hK2
         clear hQ hK2
         try go_frame
         refine wpX_done (by kernel_rfl) ?_
         try go_frame
         clear hK
         clear hmb8
         have hw1 : IntKind.i64.wrap ((k : Int) + 1) = (k : Int) + 1 := IntWalk.i64_in _ (by omega)
         go_wp2_with fail
         have h3 := unhide hk2
         refine ⟨nt - (k + 1), ?_,by have := unhide hfm'; omega⟩
         rw [unhide hI5_10]
         exact ⟨k + 1,(ys.set kq yj).set jq yk,(by first | rfl | trivial),(by first | rfl | trivial),(by first | rfl | trivial),(by first | rfl | trivial),(by first | rfl | (show _ = Value.int _ _; go_num) | go_num),(by first | rfl | trivial),by omega,unhide hsw,unhide hP,rfl⟩
        ·skip
         refine (unhide hP).valL (unhide hK) (v := .int .i64 yk) ?_ ?_
         ·exact load_V rfl rfl (by simp [go_sem]) (unhide g1' _ ((unhide hP).row 1 rfl))
         intro y7 hQ hK2
         replace hP : Hid (Sp y4 [] y4 [] [] [(64,3, .slice AV i cV,i,V.flatMap encV),(3,1, .slice (some ⟨b8,0,none⟩) i c8,i,ys.flatMap encI)] y7) := hide hQ
         replace hK := hide hK2
         clear hQ hK2
         try go_frame
         refine lx_one (i := 7) (by kernel_rfl) rfl (by rfl) #[true,true,true,true,true,true,true,true,true,true,true,true,false,false,false,false] (by rfl) ?_
         refine (unhide hP).valL (unhide hK) (v := .int .i64 yj) ?_ ?_
         ·exact load_V rfl rfl (by simp [go_sem]) (unhide g0' _ ((unhide hP).row 1 rfl))
         intro y8 hQ hK2
         replace hP : Hid (Sp y4 [] y4 [] [] [(64,3, .slice AV i cV,i,V.flatMap encV),(3,1, .slice (some ⟨b8,0,none⟩) i c8,i,ys.flatMap encI)] y8) := hide hQ
         replace hK := hide hK2
         clear hQ hK2
         try go_frame
         refine lx_one (i := 12) (by kernel_rfl) rfl (by rfl) #[true,true,true,true,true,true,true,true,true,true,true,true,true,false,false,false] (by rfl) ?_
         refine (unhide hP).valL (unhide hK) (v := .pointer (some ⟨b8,kq,none⟩)) ?_ ?_
         ·go_simp
         intro y9 hQ hK2
         replace hP : Hid (Sp y4 [] y4 [] [] [(64,3, .slice AV i cV,i,V.flatMap encV),(3,1, .slice (some ⟨b8,0,none⟩) i c8,i,ys.flatMap encI)] y9) := hide hQ
         replace hK := hide hK2
         clear hQ hK2
         try go_frame
         refine lx_one (i := 13) (by kernel_rfl) rfl (by rfl) #[true,true,true,true,true,true,true,true,true,true,true,true,true,true,false,false] (by rfl) ?_
         refine (unhide hP).putL (unhide hK) 1 yj rfl hmb8 (q := kq) rfl (by first | rfl | go_simp) (by first | rfl | go_simp) (by simp [go_sem]) (unhide hkl') ?_
         intro y10 hQ hK2
         replace hP : Hid (Sp y4 [] y4 [] [] [(64,3, .slice AV i cV,i,V.flatMap encV),(3,1, .slice (some ⟨b8,0,none⟩) i c8,i,(ys.set kq yj).flatMap encI)] y10) := hide hQ
         replace hK := hide hK2
         clear hQ hK2
         try go_frame
         refine lx_one (i := 14) (by kernel_rfl) rfl (by rfl) #[true,true,true,true,true,true,true,true,true,true,true,true,true,true,true,false] (by rfl) ?_
         refine (unhide hP).valL (unhide hK) (v := .pointer (some ⟨b8,jq,none⟩)) ?_ ?_
         ·go_simp
         intro y11 hQ hK2
         replace hP : Hid (Sp y4 [] y4 [] [] [(64,3, .slice AV i cV,i,V.flatMap encV),(3,1, .slice (some ⟨b8,0,none⟩) i c8,i,(ys.set kq yj).flatMap encI)] y11) := hide hQ
         replace hK := hide hK2
         clear hQ hK2
         try go_frame
         refine lx_one (i := 15) (by kernel_rfl) rfl (by rfl) #[true,true,true,true,true,true,true,true,true,true,true,true,true,true,true,true] (by rfl) ?_
         refine (unhide hP).putL (unhide hK) 1 yk rfl hmb8 (q := jq) rfl (by first | rfl | go_simp) (by first | rfl | go_simp) (by simp [go_sem]) (by rw [List.length_set]; exact unhide hjl') ?_
         intro y12 hQ hK2
         replace hP : Hid (Sp y4 [] y4 [] [] [(64,3, .slice AV i cV,i,V.flatMap encV),(3,1, .slice (some ⟨b8,0,none⟩) i c8,i,((ys.set kq yj).set jq yk).flatMap encI)] y12) := hide hQ
         replace hK := hide hK2
         clear hQ hK2
         try go_frame
         refine wpX_done (by kernel_rfl) ?_
         try go_frame
         clear hK
         clear hmb8
         have hw1 : IntKind.i64.wrap ((k : Int) + 1) = (k : Int) + 1 := IntWalk.i64_in _ (by omega)
         go_wp2_with fail
         have h3 := unhide hk2
         refine ⟨nt - (k + 1), ?_,by have := unhide hfm'; omega⟩
         rw [unhide hI5_10]
         exact ⟨k + 1,(ys.set kq yj).set jq yk,(by first | rfl | trivial),(by first | rfl | trivial),(by first | rfl | trivial),(by first | rfl | trivial),(by first | rfl | (show _ = Value.int _ _; go_num) | go_num),(by first | rfl | trivial),by omega,unhide hsw,unhide hP,rfl⟩
       ·skip
        have hil1 : (k : Int) < (nt : Int) := by omega
        have hil2 : ¬ (i : Int) > 0 := by omega
        have hd9 : decide ((i : Int) > 0) = false := decide_eq_false hil2
        clear hlt
        try dsimp only
        repeat ((fail_if_success (with_reducible refine wp_reg (id := 11) ?_)); (first | go_values | go_skip | go_step | go_guarded | go_upon | go_in | go_back | fail))
        with_reducible refine wp_reg (id := 11) ?_
        iterate 9
         refine wpO_want rfl ?_
         go_simp
        refine wpO_done ?_
        try go_frame
        clear hil1 hil2 hd9 hm0 hkn hfm'
        have hord := hide (show Ord V ys from ⟨(unhide hys').nodup_iff.2 (by rw [unhide hI0', ← toL_vS (unhide hi)]; exact toL_nodup _),fun x => by rw [(unhide hys').mem_iff,unhide hI0']⟩)
        have hyl : ys.length = V.length := by rw [(unhide hys').length_eq,unhide hI0',List.length_map]
        have hck := hide (ord_check (unhide hord) hyl)
        have hyi := hide (show i = ys.length by rw [hyl]; exact unhide hnVl')
        have hlow := lb_sound (unhide hi) (unhide hord)
        have hub := ub_spec (unhide hi)
        obtain ⟨low,hlw⟩ : ∃ low,low = lbS (nr0 E) (toL (vS V)) := ⟨_,rfl⟩
        rw [← hlw] at hlow
        obtain ⟨up,hup⟩ : ∃ up,up = (ubS E (nr0 E) (toL (vS V))).1 := ⟨_,rfl⟩
        obtain ⟨bo,hbo⟩ : ∃ bo,bo = (ubS E (nr0 E) (toL (vS V))).2 := ⟨_,rfl⟩
        rw [← hup, ← hbo] at hub
        have hlow2 := lb_sound (unhide hi) hub.2
        rw [← hlw, ← hub.1] at hlow2
        obtain ⟨wy,hwy⟩ : ∃ wy,wy = widK E ys ys.length := ⟨_,rfl⟩
        rw [← hwy] at hlow
        obtain ⟨nb,hnb⟩ : ∃ nb,nb = bo.length := ⟨_,rfl⟩
        have hbl : bo.length = V.length := hub.2.len (unhide hi)
        have hckb := hide (ord_check hub.2 hbl)
        have hwb := hide hub.1.symm
        have hnb1 := hide (show nb ≤ 1024 by rw [hnb,hbl]; exact (unhide hi).nv)
        have hd1 : decide (low ≤ wy) = true := decide_eq_true hlow
        have hd2 : decide (low ≤ up) = true := decide_eq_true hlow2
        have hd3 : (up == up) = true := beq_self_eq_true up
        have hlw' := hide hlw
        have hup' := hide hup
        have hbo' := hide hbo
        have hwy' := hide hwy
        have hnb' := hide hnb
        have hd1' := hide hd1
        have hd2' := hide hd2
        have hl1 := hide hlow
        have hl2 := hide hlow2
        clear hyl hlow hub hlw hup hbo hlow2 hwy hnb hbl hd1 hd2 hd3
        try dsimp only
        repeat ((fail_if_success (with_reducible refine wp_reg (id := 16) ?_)); (first | go_values | go_skip | go_step | go_guarded | go_upon | go_in | go_back | fail))
        with_reducible refine wp_reg (id := 16) ?_
        refine wpO_want rfl ?_
        go_simp
        refine wpO_want rfl ?_
        go_simp
        have hca := lower_any (some ⟨g,0,none⟩) V E wr (GL.of ((unhide hGL) _ (unhide hP).extf)) (unhide hi) ((unhide hTw) _ (unhide hP).extf)
        rw [← unhide hlw'] at hca
        refine (hca).mono ?_
        rintro _ y6 ⟨rfl,hxc⟩
        clear hca
        refine ⟨_,rfl, ?_⟩
        replace hP : Hid (Sp y4 [] y4 [] [] [(64,3, .slice AV i cV,i,V.flatMap encV),(3,1, .slice A8 i c8,i,ys.flatMap encI)] y6) := hide ((unhide hP).ext hxc)
        clear hxc
        refine wpO_want rfl ?_
        go_simp
        refine wpO_done ?_
        try go_frame
        try dsimp only
        repeat ((fail_if_success (with_reducible refine wp_reg (id := 17) ?_)); (first | go_values | go_skip | go_step | go_guarded | go_upon | go_in | go_back | fail))
        with_reducible refine wp_reg (id := 17) ?_
        iterate 2
         refine wpO_want rfl ?_
         go_simp
        refine wpO_want rfl ?_
        go_simp
        have hsy : SlAt encI 1 y6 A8 ys := own_at (enc := encI) (c := c8) (by have h := (unhide hP).row 1 rfl; rw [unhide hyi] at h; exact h) (fun _ => rfl)
        have hca := width_ok A8 ys c8 g bv be V E y6 hsy (by rw [← unhide hyi]; exact unhide hnV1) ((unhide hGL) _ (unhide hP).extf) ((unhide hTw) _ (unhide hP).extf) (unhide hck)
        rw [← unhide hyi,show widK E ys i = wy by rw [unhide hwy', ← unhide hyi]] at hca
        refine (hca).mono ?_
        rintro _ y7 ⟨rfl,hxc⟩
        clear hca hsy
        refine ⟨_,rfl, ?_⟩
        replace hP : Hid (Sp y4 [] y4 [] [] [(64,3, .slice AV i cV,i,V.flatMap encV),(3,1, .slice A8 i c8,i,ys.flatMap encI)] y7) := hide ((unhide hP).ext hxc)
        clear hxc
        generalize htu0 : Value.tuple _ = tu
        have htu := hide htu0
        clear htu0
        refine wpO_val rfl (run_move rfl rfl) ?_
        go_frame
        refine wpO_val rfl (run_extract (i := 0) (v := .int .i64 wy) rfl (unhide htu).symm rfl) ?_
        go_frame
        refine wpO_val rfl (run_extract (i := 1) (v := .int .i64 0) rfl (unhide htu).symm rfl) ?_
        go_frame
        iterate 2
         refine wpO_want rfl ?_
         go_simp
        refine wpO_done ?_
        try go_frame
        clear htu
        try dsimp only
        repeat ((fail_if_success (with_reducible refine wp_reg (id := 18) ?_)); (first | go_values | go_skip | go_step | go_guarded | go_upon | go_in | go_back | fail))
        with_reducible refine wp_reg (id := 18) ?_
        refine wpO_want rfl ?_
        go_simp
        refine wpO_want rfl ?_
        go_simp
        have hca := upper_any (some ⟨g,0,none⟩) V E y7 (GL.of ((unhide hGL) _ (unhide hP).extf)) (unhide hi) ((unhide hTw) _ (unhide hP).extf)
        rw [← unhide hup', ← unhide hbo'] at hca
        refine hca.mono ?_
        clear hca
        rintro _ y8 ⟨Ab,cb,rfl,ho,hxc⟩
        rw [← unhide hnb'] at ho
        rw [← unhide hnb']
        refine ⟨_,rfl, ?_⟩
        replace hP : Hid (Sp y4 [] y4 [] [] [(64,3, .slice AV i cV,i,V.flatMap encV),(3,1, .slice A8 i c8,i,ys.flatMap encI),(3,1, .slice Ab nb cb,nb,bo.flatMap encI)] y8) := hide ((unhide hP).addRow hxc ho)
        clear hxc ho
        generalize htu0 : Value.tuple _ = tu
        have htu := hide htu0
        clear htu0
        refine wpO_val rfl (run_move rfl rfl) ?_
        go_frame
        refine wpO_val rfl (run_extract (i := 0) (v := .int .i64 up) rfl (unhide htu).symm rfl) ?_
        go_frame
        refine wpO_val rfl (run_extract (i := 1) (v := .slice Ab nb cb) rfl (unhide htu).symm rfl) ?_
        go_frame
        iterate 2
         refine wpO_want rfl ?_
         go_simp
        refine wpO_done ?_
        try go_frame
        clear htu
        try dsimp only
        repeat ((fail_if_success (with_reducible refine wp_reg (id := 19) ?_)); (first | go_values | go_skip | go_step | go_guarded | go_upon | go_in | go_back | fail))
        with_reducible refine wp_reg (id := 19) ?_
        iterate 2
         refine wpO_want rfl ?_
         go_simp
        refine wpO_want rfl ?_
        go_simp
        have hsy : SlAt encI 1 y8 Ab bo := own_at (enc := encI) (c := cb) (by have h := (unhide hP).row 2 rfl; rw [unhide hnb'] at h; exact h) (fun _ => rfl)
        have hca := width_ok Ab bo cb g bv be V E y8 hsy (by rw [← unhide hnb']; exact unhide hnb1) ((unhide hGL) _ (unhide hP).extf) ((unhide hTw) _ (unhide hP).extf) (unhide hckb)
        rw [unhide hwb, ← unhide hnb'] at hca
        refine (hca).mono ?_
        rintro _ y9 ⟨rfl,hxc⟩
        clear hca hsy
        refine ⟨_,rfl, ?_⟩
        replace hP : Hid (Sp y4 [] y4 [] [] [(64,3, .slice AV i cV,i,V.flatMap encV),(3,1, .slice A8 i c8,i,ys.flatMap encI),(3,1, .slice Ab nb cb,nb,bo.flatMap encI)] y9) := hide ((unhide hP).ext hxc)
        clear hxc
        generalize htu0 : Value.tuple _ = tu
        have htu := hide htu0
        clear htu0
        refine wpO_val rfl (run_move rfl rfl) ?_
        go_frame
        refine wpO_val rfl (run_extract (i := 0) (v := .int .i64 up) rfl (unhide htu).symm rfl) ?_
        go_frame
        refine wpO_val rfl (run_extract (i := 1) (v := .int .i64 0) rfl (unhide htu).symm rfl) ?_
        go_frame
        iterate 2
         refine wpO_want rfl ?_
         go_simp
        refine wpO_done ?_
        try go_frame
        clear htu
        have h1 := unhide hl1
        have h2 := unhide hl2
        have hd1 := unhide hd1'
        have hd2 := unhide hd2'
        try dsimp only
        repeat ((fail_if_success (with_reducible refine wp_reg (id := 20) ?_)); (first | go_values | go_skip | go_step | go_guarded | go_upon | go_in | go_back | fail))
        with_reducible refine wp_reg (id := 20) ?_
        iterate 22
         refine wpO_want rfl ?_
         go_simp
        refine wpO_done ?_
        try go_frame
        clear h1 h2 hd1 hd2
        go_wp2_with fail
        refine Sp.leaves0 ?_
        exact ⟨_,results_tmp rfl _ _ _,rfl,(unhide hw0).trans (unhide hP).extf⟩
      ·have hil : ¬ (k : Int) < (nt : Int) := by omega
       have hd9 : decide ((k : Int) < (nt : Int)) = false := decide_eq_false hil
       clear hlt
       try dsimp only
       repeat ((fail_if_success (with_reducible refine wp_reg (id := 11) ?_)); (first | go_values | go_skip | go_step | go_guarded | go_upon | go_in | go_back | fail))
       with_reducible refine wp_reg (id := 11) ?_
       iterate 5
        refine wpO_want rfl ?_
        go_simp
       refine wpO_out (by rfl) ?_
       go_frame
       refine wpO_out (by rfl) ?_
       go_frame
       refine wpO_out (by rfl) ?_
       go_frame
       refine wpO_want rfl ?_
       go_simp
       refine wpO_done ?_
       try go_frame
       clear hil hd9 hkn hfm'
       have hord := hide (show Ord V ys from ⟨(unhide hys').nodup_iff.2 (by rw [unhide hI0', ← toL_vS (unhide hi)]; exact toL_nodup _),fun x => by rw [(unhide hys').mem_iff,unhide hI0']⟩)
       have hyl : ys.length = V.length := by rw [(unhide hys').length_eq,unhide hI0',List.length_map]
       have hck := hide (ord_check (unhide hord) hyl)
       have hyi := hide (show i = ys.length by rw [hyl]; exact unhide hnVl')
       have hlow := lb_sound (unhide hi) (unhide hord)
       have hub := ub_spec (unhide hi)
       obtain ⟨low,hlw⟩ : ∃ low,low = lbS (nr0 E) (toL (vS V)) := ⟨_,rfl⟩
       rw [← hlw] at hlow
       obtain ⟨up,hup⟩ : ∃ up,up = (ubS E (nr0 E) (toL (vS V))).1 := ⟨_,rfl⟩
       obtain ⟨bo,hbo⟩ : ∃ bo,bo = (ubS E (nr0 E) (toL (vS V))).2 := ⟨_,rfl⟩
       rw [← hup, ← hbo] at hub
       have hlow2 := lb_sound (unhide hi) hub.2
       rw [← hlw, ← hub.1] at hlow2
       obtain ⟨wy,hwy⟩ : ∃ wy,wy = widK E ys ys.length := ⟨_,rfl⟩
       rw [← hwy] at hlow
       obtain ⟨nb,hnb⟩ : ∃ nb,nb = bo.length := ⟨_,rfl⟩
       have hbl : bo.length = V.length := hub.2.len (unhide hi)
       have hckb := hide (ord_check hub.2 hbl)
       have hwb := hide hub.1.symm
       have hnb1 := hide (show nb ≤ 1024 by rw [hnb,hbl]; exact (unhide hi).nv)
       have hd1 : decide (low ≤ wy) = true := decide_eq_true hlow
       have hd2 : decide (low ≤ up) = true := decide_eq_true hlow2
       have hd3 : (up == up) = true := beq_self_eq_true up
       have hlw' := hide hlw
       have hup' := hide hup
       have hbo' := hide hbo
       have hwy' := hide hwy
       have hnb' := hide hnb
       have hd1' := hide hd1
       have hd2' := hide hd2
       have hl1 := hide hlow
       have hl2 := hide hlow2
       clear hyl hlow hub hlw hup hbo hlow2 hwy hnb hbl hd1 hd2 hd3
       try dsimp only
       repeat ((fail_if_success (with_reducible refine wp_reg (id := 16) ?_)); (first | go_values | go_skip | go_step | go_guarded | go_upon | go_in | go_back | fail))
       with_reducible refine wp_reg (id := 16) ?_
       refine wpO_want rfl ?_
       go_simp
       refine wpO_want rfl ?_
       go_simp
       have hca := lower_any (some ⟨g,0,none⟩) V E wr (GL.of ((unhide hGL) _ (unhide hP).extf)) (unhide hi) ((unhide hTw) _ (unhide hP).extf)
       rw [← unhide hlw'] at hca
       refine (hca).mono ?_
       rintro _ y6 ⟨rfl,hxc⟩
       clear hca
       refine ⟨_,rfl, ?_⟩
       replace hP : Hid (Sp y4 [] y4 [] [] [(64,3, .slice AV i cV,i,V.flatMap encV),(3,1, .slice A8 i c8,i,ys.flatMap encI)] y6) := hide ((unhide hP).ext hxc)
       clear hxc
       refine wpO_want rfl ?_
       go_simp
       refine wpO_done ?_
       try go_frame
       try dsimp only
       repeat ((fail_if_success (with_reducible refine wp_reg (id := 17) ?_)); (first | go_values | go_skip | go_step | go_guarded | go_upon | go_in | go_back | fail))
       with_reducible refine wp_reg (id := 17) ?_
       iterate 2
        refine wpO_want rfl ?_
        go_simp
       refine wpO_want rfl ?_
       go_simp
       have hsy : SlAt encI 1 y6 A8 ys := own_at (enc := encI) (c := c8) (by have h := (unhide hP).row 1 rfl; rw [unhide hyi] at h; exact h) (fun _ => rfl)
       have hca := width_ok A8 ys c8 g bv be V E y6 hsy (by rw [← unhide hyi]; exact unhide hnV1) ((unhide hGL) _ (unhide hP).extf) ((unhide hTw) _ (unhide hP).extf) (unhide hck)
       rw [← unhide hyi,show widK E ys i = wy by rw [unhide hwy', ← unhide hyi]] at hca
       refine (hca).mono ?_
       rintro _ y7 ⟨rfl,hxc⟩
       clear hca hsy
       refine ⟨_,rfl, ?_⟩
       replace hP : Hid (Sp y4 [] y4 [] [] [(64,3, .slice AV i cV,i,V.flatMap encV),(3,1, .slice A8 i c8,i,ys.flatMap encI)] y7) := hide ((unhide hP).ext hxc)
       clear hxc
       generalize htu0 : Value.tuple _ = tu
       have htu := hide htu0
       clear htu0
       refine wpO_val rfl (run_move rfl rfl) ?_
       go_frame
       refine wpO_val rfl (run_extract (i := 0) (v := .int .i64 wy) rfl (unhide htu).symm rfl) ?_
       go_frame
       refine wpO_val rfl (run_extract (i := 1) (v := .int .i64 0) rfl (unhide htu).symm rfl) ?_
       go_frame
       iterate 2
        refine wpO_want rfl ?_
        go_simp
       refine wpO_done ?_
       try go_frame
       clear htu
       try dsimp only
       repeat ((fail_if_success (with_reducible refine wp_reg (id := 18) ?_)); (first | go_values | go_skip | go_step | go_guarded | go_upon | go_in | go_back | fail))
       with_reducible refine wp_reg (id := 18) ?_
       refine wpO_want rfl ?_
       go_simp
       refine wpO_want rfl ?_
       go_simp
       have hca := upper_any (some ⟨g,0,none⟩) V E y7 (GL.of ((unhide hGL) _ (unhide hP).extf)) (unhide hi) ((unhide hTw) _ (unhide hP).extf)
       rw [← unhide hup', ← unhide hbo'] at hca
       refine hca.mono ?_
       clear hca
       rintro _ y8 ⟨Ab,cb,rfl,ho,hxc⟩
       rw [← unhide hnb'] at ho
       rw [← unhide hnb']
       refine ⟨_,rfl, ?_⟩
       replace hP : Hid (Sp y4 [] y4 [] [] [(64,3, .slice AV i cV,i,V.flatMap encV),(3,1, .slice A8 i c8,i,ys.flatMap encI),(3,1, .slice Ab nb cb,nb,bo.flatMap encI)] y8) := hide ((unhide hP).addRow hxc ho)
       clear hxc ho
       generalize htu0 : Value.tuple _ = tu
       have htu := hide htu0
       clear htu0
       refine wpO_val rfl (run_move rfl rfl) ?_
       go_frame
       refine wpO_val rfl (run_extract (i := 0) (v := .int .i64 up) rfl (unhide htu).symm rfl) ?_
       go_frame
       refine wpO_val rfl (run_extract (i := 1) (v := .slice Ab nb cb) rfl (unhide htu).symm rfl) ?_
       go_frame
       iterate 2
        refine wpO_want rfl ?_
        go_simp
       refine wpO_done ?_
       try go_frame
       clear htu
       try dsimp only
       repeat ((fail_if_success (with_reducible refine wp_reg (id := 19) ?_)); (first | go_values | go_skip | go_step | go_guarded | go_upon | go_in | go_back | fail))
       with_reducible refine wp_reg (id := 19) ?_
       iterate 2
        refine wpO_want rfl ?_
        go_simp
       refine wpO_want rfl ?_
       go_simp
       have hsy : SlAt encI 1 y8 Ab bo := own_at (enc := encI) (c := cb) (by have h := (unhide hP).row 2 rfl; rw [unhide hnb'] at h; exact h) (fun _ => rfl)
       have hca := width_ok Ab bo cb g bv be V E y8 hsy (by rw [← unhide hnb']; exact unhide hnb1) ((unhide hGL) _ (unhide hP).extf) ((unhide hTw) _ (unhide hP).extf) (unhide hckb)
       rw [unhide hwb, ← unhide hnb'] at hca
       refine (hca).mono ?_
       rintro _ y9 ⟨rfl,hxc⟩
       clear hca hsy
       refine ⟨_,rfl, ?_⟩
       replace hP : Hid (Sp y4 [] y4 [] [] [(64,3, .slice AV i cV,i,V.flatMap encV),(3,1, .slice A8 i c8,i,ys.flatMap encI),(3,1, .slice Ab nb cb,nb,bo.flatMap encI)] y9) := hide ((unhide hP).ext hxc)
       clear hxc
       generalize htu0 : Value.tuple _ = tu
       have htu := hide htu0
       clear htu0
       refine wpO_val rfl (run_move rfl rfl) ?_
       go_frame
       refine wpO_val rfl (run_extract (i := 0) (v := .int .i64 up) rfl (unhide htu).symm rfl) ?_
       go_frame
       refine wpO_val rfl (run_extract (i := 1) (v := .int .i64 0) rfl (unhide htu).symm rfl) ?_
       go_frame
       iterate 2
        refine wpO_want rfl ?_
        go_simp
       refine wpO_done ?_
       try go_frame
       clear htu
       have h1 := unhide hl1
       have h2 := unhide hl2
       have hd1 := unhide hd1'
       have hd2 := unhide hd2'
       try dsimp only
       repeat ((fail_if_success (with_reducible refine wp_reg (id := 20) ?_)); (first | go_values | go_skip | go_step | go_guarded | go_upon | go_in | go_back | fail))
       with_reducible refine wp_reg (id := 20) ?_
       iterate 22
        refine wpO_want rfl ?_
        go_simp
       refine wpO_done ?_
       try go_frame
       clear h1 h2 hd1 hd2
       go_wp2_with fail
       refine Sp.leaves0 ?_
       exact ⟨_,results_tmp rfl _ _ _,rfl,(unhide hw0).trans (unhide hP).extf⟩
end Go.Proofs.YtoacpebmhbkmbaaGreatDoor
namespace Go.Proofs.YtoacpebmhbkmbaaGreatDoor
open Go Go.RowKit Go.ChangeShapes Go.WideShapes Go.Deep
section
variable {H : Type} {enc : TypeId × Value → H} {w : World} {base : Nat} {spare : Nat → Bool} {held : Bool} {fuel : Nat} {x : DataW H × List MemPlace} {a : Option Addr} {len cap : Nat}
theorem open_bytes (h : DataW.trod enc Tryz.prog w base spare held fuel 22 [.slice a len cap] = some x) : ∃ L : List Int,L.length = len ∧ SlAt encU8 1 w a L ∧ (∀ d ∈ L,0 ≤ d ∧ d < 256) ∧ len ≤ 9223372036854775807 ∧ len ≤ cap := by
 rcases open_slice Tryz.underlying22 h with h0 | ⟨a',len',cap',m,n,D,Pl,hcs,hb,hl,hm,hmm,hx,hi⟩
 ·have h0 := h0.1
  simp at h0
  obtain ⟨rfl,rfl,rfl⟩ := h0
  exact ⟨[],rfl,SlAt.nil,by simp,by omega,by omega⟩
 ·simp at hcs
  obtain ⟨rfl,rfl,rfl⟩ := hcs
  obtain ⟨L,h1,h2,h3⟩ := slAt_of (α := Int) (enc := encU8) (k := 1) (w := w) (a := a') (len := len) (p := fun d => 0 ≤ d ∧ d < 256) (fun x => ⟨_,rfl⟩) (fun i hil => by
   have hle : len ≤ m := by rw [hmm]; split <;> omega
   obtain ⟨cs',hc,ht'⟩ := hi i (by omega)
   obtain ⟨k,e,_,wk⟩ := DataW.trod_int Tryz.underlying5 ht'
   subst e
   obtain ⟨_,hcl,hat⟩ := World.cells?_some hc
   have hk : Tryz.prog.cellsOf 5 = 1 := by kernel_rfl
   refine ⟨k,fun j u hu => ?_,by have := Go.bounds_u8 wk; omega⟩
   match j,hu with
   | 0,hu =>
    simp [encU8] at hu
    subst hu
    have h0 := hat 0 (by rw [hk]; omega)
    rw [hk] at h0
    rw [Go.Deep.add_add] at h0
    simpa using h0)
  exact ⟨L,h1,h2,h3,by have := hm; unfold maxLen at this; omega,hl⟩
end
end Go.Proofs.YtoacpebmhbkmbaaGreatDoor
namespace Go.Proofs.YtoacpebmhbkmbaaGreatDoor.boundsSoundnessRow
open Go.ChangeShapes Go.WideShapes Go.ChangeAt Go.RowKit
set_option linter.unusedVariables false
theorem own : ownKnob Tryz.prog.godebug = none := by kernel_rfl
theorem laidOut : laidOutB Tryz.prog = true := by kernel_rfl
theorem door_met (os : Os) (args : Array Value) : laidMetH Tryz.prog laidL ((World.doorLaid Tryz.prog 400 os).forCall (fun _ _ => 0) ⟨#[],args,[]⟩).memory :=
 laidMetH_of_parts3 (fuel := 8) (laidMet_of_run' 8 (by kernel_rfl) (by kernel_rfl)) (by kernel_rfl) (by kernel_rfl)
set_option maxRecDepth 100000 in
theorem lifted (os : Os) (started : os.Started) (H : Type) (enc : TypeId × Value → H) :
  ReturnsInHanded {} Tryz.checked os 7 .any (fun w args => (Rows.boundsSoundnessSpec.pre enc Tryz.prog Tryz.f7 [] false w args ∧ laidMetH Tryz.prog laidL w) ∧ sizedMet enc Tryz.prog Tryz.f7 (OpenSpec.ofChange Rows.boundsSoundnessSpec) false w args)
   (Rows.boundsSoundnessSpec.post enc Tryz.prog Tryz.f7 false true false false) := by
 refine returnsInHanded_of_change_and (C := Tryz.checked) (X := fun w _ => laidMetH Tryz.prog laidL w) (fun _ _ _ hh h => h.of_heap hh) own started (by kernel_rfl) Tryz.func7
  (ChangeSpec.witness_shaped (enc := enc) (C := Tryz.checked) (os := os) (X := fun w _ => laidMetH Tryz.prog laidL w) false (World.doorLaid Tryz.prog 400 os) #[.slice none 0 0, .slice none 0 0] 8 rfl (World.shaped_of_RefB (by kernel_rfl) (by kernel_rfl)) (by kernel_rfl) (by kernel_rfl) (by kernel_rfl) (door_met os _)) ?_
 intro W base args ds gs before hval0 hW _ _ hL _
 have hval : ∀ (j : Nat) t v,Tryz.f7.params[j]? = some t → args[j]? = some v → Value.okWide Tryz.prog W .any base t v := hval0
 have hW' := hW
 obtain ⟨p,q,hA0,hV,rfl,hfz,hnd⟩ := hW
 have hA : DataW.TrodAll enc Tryz.prog W 0 (fun _ => true) true Tryz.f7.params.toList args.toList ds p := hA0
 rw [Tryz.params7] at hA hval
 obtain ⟨v0,vs0,d0,ds0,p0,q0,hargs,rfl,rfl,h0,r0⟩ := trodAll_cons hA
 obtain ⟨v1,vs1,d1,ds1,p1,q1,rfl,rfl,rfl,h1,r1⟩ := trodAll_cons r0
 obtain ⟨rfl,rfl,rfl⟩ := trodAll_nil r1
 obtain rfl : args = #[v0,v1] := by cases args; simp_all
 obtain ⟨rfl,rfl⟩ := trodVars_none hV
 obtain ⟨a0,len0,cap0,rfl⟩ := okWide_slice Tryz.underlying37 (hval 0 37 v0 rfl rfl)
 have k0 := h0
 have lt0 : ∀ x ∈ p0,x.block < W.heap.size := by obtain ⟨m,hm⟩ := k0; exact DataW.trod_lt m _ _ _ hm
 obtain ⟨fu0,hf0⟩ := h0
 obtain ⟨L0,hn0,hs0,ho0,hm0,hz0⟩ := open_edits (by simpa [Value.cells] using hf0)
 subst hn0
 obtain ⟨a1,len1,cap1,rfl⟩ := okWide_slice Tryz.underlying22 (hval 1 22 v1 rfl rfl)
 have k1 := h1
 have lt1 : ∀ x ∈ p1,x.block < W.heap.size := by obtain ⟨m,hm⟩ := k1; exact DataW.trod_lt m _ _ _ hm
 obtain ⟨fu1,hf1⟩ := h1
 obtain ⟨L1,hn1,hs1,ho1,hm1,hz1⟩ := open_bytes (by simpa [Value.cells] using hf1)
 subst hn1
 clear hA0 hval0
 refine (boundsSoundness_walk a0 L0 cap0 a1 L1 cap1 W hs0 hm0 hz0 hs1 ho1 hm1 (tab_of_laid hL)).mono fun e W' ⟨he,bel⟩ => ?_
 subst he
 exact ⟨_,rfl,_,_,_,[],_,[],hW',trodAll_mk1 (shut_bool Tryz.underlying4 _),(trodAll_cons_mk (Below.trod laidOut (by kernel_rfl) (of_decide_eq_true (by kernel_rfl)) k0 bel lt0) (trodAll_cons_mk (Below.trod laidOut (by kernel_rfl) (of_decide_eq_true (by kernel_rfl)) k1 bel lt1) trodAll_mk0)),rfl,bel.frame _,fun h => by cases h⟩
theorem over : Rows.boundsSoundnessRow.holds Tryz.pinned (OpenSpec.ofChange Rows.boundsSoundnessSpec) :=
 OpenClaim.holds_of_wide 7 Tryz.f7 rfl rfl rfl rfl rfl rfl rfl ⟨rfl,rfl,rfl,rfl,rfl⟩ rfl rfl rfl rfl rfl (by kernel_rfl) Tryz.func7 (by kernel_rfl)
  (of_decide_eq_true (by kernel_rfl)) (by unfold Func.isWrapper; first | (rw [if_pos (by decide +kernel)]; kernel_rfl) | (rw [if_neg (by decide +kernel)]; exact ⟨rfl,rfl⟩))
  (fun os started H enc _ => lifted os started H enc)
end Go.Proofs.YtoacpebmhbkmbaaGreatDoor.boundsSoundnessRow
namespace Go.Proofs.YtoacpebmhbkmbaaGreatDoor
open Go
theorem boundsSoundness_holds : Rows.BoundsSoundnessCardSaid :=
 Claim7.holds_tied_plain_at .later [] [.data] true (true, "82c6bed31ad2c7c2e5153cee67ccc1cbee0e26a323fdf1de3a9a6c1e0005317a") false
  boundsSoundnessRow.over (fun _ h => by cases h) (by kernel_rfl) (fun _ h => by cases h) boundsSoundness_row_tie rfl ⟨rfl,rfl⟩ (by kernel_rfl) rfl
  (fun f fn hf hfn => by
   obtain rfl : f = 7 := Option.some.inj ((show Tryz.prog.funcNamed "palmette/palmettelaw22.BoundsSoundness" = some 7 by kernel_rfl).symm.trans hf) |>.symm
   obtain rfl : fn = Tryz.f7 := (Option.some.inj (Tryz.func7.symm.trans hfn)).symm
   exact ⟨by kernel_rfl,fun j t ht => by
    rw [Tryz.params7] at ht
    have h3 : t = 37 ∨ t = 22 := by
     rcases j with _ | _ | j
     ·simp at ht; simp [ht]
     ·simp at ht; simp [ht]
     ·simp at ht
    rcases h3 with rfl | rfl
    ·exact (show Tryz.prog.wantsStandIn 37 = false by kernel_rfl)
    ·exact (show Tryz.prog.wantsStandIn 22 = false by kernel_rfl)⟩)
  (by kernel_rfl)
#print axioms boundsSoundness_holds
end Go.Proofs.YtoacpebmhbkmbaaGreatDoor
