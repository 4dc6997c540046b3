/- Parts of a proof, laid together. Each part says its own conditions. -/
import Derived.Test.YtmokciekndllpaaGreatDoorC1
import Derived.Test.YtmokciekndllpaaGreatDoorC19
import Derived.Test.YtmokciekndllpaaGreatDoorC20
import Derived.Test.YtmokciekndllpaaGreatDoorC17
namespace Go.Proofs.YtmokciekndllpaaGreatDoor
open Go Go.RowKit Go.Shelf
attribute [local go_sem] qUpon lUpon
attribute [local irreducible] wpO wpX wpQL
theorem Ext.of_keep0 {a b : World} (h : Keep [] a b) : Ext a b := ⟨h.os,h.tape,h.output,h.size,fun i hi => h.block i hi (by simp)⟩
def bare (w : World) : World := { w with heap := #[] }
theorem ext_bare (w : World) : Ext (bare w) w := ⟨rfl,rfl,rfl,Nat.zero_le _,fun i hi => absurd hi (Nat.not_lt_zero i)⟩
theorem Sp.bare {w : World} {L : List Cl} {Rs : List Rw} (h : St 0 L Rs w) : Sp (bare w) (stT L Rs) w [] L Rs w := ⟨h,ext_bare w,Keep.refl _ _, .refl _ _, .nil _,by simp⟩
theorem St.down {b : Nat} {L : List Cl} {Rs : List Rw} {W : World} (h : St b L Rs W) : St 0 L Rs W := ⟨h.cells,fun r hr => (h.rows r hr).le (Nat.zero_le _),h.nd,fun _ _ => Nat.zero_le _⟩
def encP2 (p : Int × Int) : List Value := [.int .i64 p.1, .int .i64 p.2]
theorem one_encP2 (p : Int × Int) : ∀ v ∈ encP2 p,v.oneCell' = true := by intro v hv; simp [encP2] at hv; rcases hv with rfl | rfl <;> rfl
theorem encP2_len (p : Int × Int) : (encP2 p).length = 2 := rfl
theorem flat_len2 : ∀ l : List (Int × Int),(l.flatMap encP2).length = l.length * 2
 | [] => rfl
 | p :: l => by rw [List.flatMap_cons,List.length_append,flat_len2 l,encP2_len,List.length_cons]; omega
theorem atQ {w : World} {A : Option Addr} {L : List (Int × Int)} (h : SlAt encP2 2 w A L) {i : Nat} (hi : i < L.length) : ∃ b off,A = some ⟨b,off,none⟩ ∧ (∀ W,Ext w W → W.cell? ⟨b,off + i * 2,none⟩ = some (.int .i64 L[i].1)) ∧ (∀ W,Ext w W → W.cell? ⟨b,off + i * 2 + 1,none⟩ = some (.int .i64 L[i].2)) := by
 obtain ⟨b,off,hA,hc⟩ := h.at_ hi
 exact ⟨b,off,hA,hc 0 _ rfl,hc 1 _ rfl⟩
theorem flat_put (y : Int × Int) : ∀ (l : List (Int × Int)) (i : Nat),i < l.length → (l.flatMap encP2).take (i * 2) ++ encP2 y ++ (l.flatMap encP2).drop (i * 2 + 2) = (l.set i y).flatMap encP2
 | p :: l,0,_ => by
  rw [List.set_cons_zero,List.flatMap_cons,List.flatMap_cons]
  rfl
 | p :: l,i + 1,h => by
  have ih := flat_put y l i (by simpa using h)
  rw [List.set_cons_succ,List.flatMap_cons,List.flatMap_cons, ← ih,show (i + 1) * 2 = i * 2 + 2 by omega]
  rfl
theorem run_store_pair {P : Program} {ρ : Operand → Value} {o : Oper} {t : TypeId} {p x : Operand} {w : World} {base T cap n b i : Nat} {xs : List (Int × Int)} (y : Int × Int) (ho : o.op = .store t p x) (hp : ρ p = .pointer (some ⟨b,i * 2,none⟩)) (hx : ρ x = .agg (encP2 y).toArray) (hs : (sizeOf t).run P w = .ok 2 w)
  (hown : w.ownsRow base T 2 (.slice (some ⟨b,0,none⟩) n cap) n (xs.flatMap encP2)) (hi : i < xs.length) :
  ∃ cs,(execOp ρ o).run P w = .ok .skip (w.setRow b cs) ∧ (w.setRow b cs).ownsRow base T 2 (.slice (some ⟨b,0,none⟩) n cap) n ((xs.set i y).flatMap encP2) ∧ w.grownBy (w.setRow b cs) (some b) := by
 obtain ⟨hlen,h | ⟨g,cap',cur,hv,hb,hg,hn,hm,hsz,htk⟩⟩ := hown
 ·cases h.1
 ·injection hv with hv1 _ hv2
  injection hv1 with hv1
  injection hv1 with hv1 _
  subst hv1
  subst hv2
  have hfl := flat_len2 xs
  have hcl : cur.toList.length = cur.size := rfl
  have hst := run_storeCells_at (P := P) b (i * 2) T (encP2 y) 0 cur w hg (by rw [encP2_len]; omega) (one_encP2 y)
  rw [Nat.add_zero] at hst
  refine ⟨(cur.toList.take (i * 2) ++ encP2 y ++ cur.toList.drop (i * 2 + 2)).toArray, ?_, ?_, ?_⟩
  ·unfold execOp
   simp only [ho,hp,hx]
   rw [encP2_len] at hst
   have hc2 : (Value.agg (encP2 y).toArray).cells.toList = encP2 y := by simp [Value.cells,encP2]
   have hc3 : (Value.agg (encP2 y).toArray).cells.size = 2 := by simp [Value.cells,encP2]
   simp [Instr.storeAt,Instr.sureAddr,storeVar,hs,hst,hc2,hc3,Result.andThen]
  ·have hN : i * 2 + 2 ≤ n * 2 := by omega
   have e : (cur.toList.take (i * 2) ++ encP2 y ++ cur.toList.drop (i * 2 + 2)).take (n * 2) = (xs.set i y).flatMap encP2 := by
    rw [← flat_put y xs i hi, ← htk,List.take_take,Nat.min_eq_left (by omega),List.drop_take]
    rw [List.take_append,List.take_of_length_le (by rw [List.length_append,List.length_take,encP2_len]; omega)]
    congr 2
    rw [List.length_append,List.length_take,encP2_len,hcl]
    omega
   refine ⟨by rw [flat_len2,List.length_set]; omega, .inr ⟨b,cap,_,rfl,hb,Blk.row (w := w) (b := b) (t := T) (cs := cur) hg _,hn,hm, ?_,by rw [List.toList_toArray]; exact e⟩⟩
   rw [List.size_toArray,List.length_append,List.length_append,List.length_take,List.length_drop,encP2_len,hcl]
   omega
  ·exact ⟨rfl,rfl,rfl,by simp [World.setRow],fun k _ hne => setRow_other w b k _ (fun e => hne (by rw [e]))⟩
section
variable {P : Program} {l : List Oper} {safe : Nat → Bool} {Q : Act → World → Prop} {n : Nat} {a : Act} {o : Oper} {wf w W : World} {T0 : List Nat} {ds : List Deferred} {L : List Cl} {Rs : List Rw}
theorem Sp.putPL {S : List Nat} {w1 : World} {q0 : Prop} {li : Array Bool} (h : Sp wf T0 w ds L Rs W) (hK : Keep S w1 W) (i : Nat) {T k b cap : Nat} {xs : List (Int × Int)} (y : Int × Int) (hi : Rs[i]? = some (T,2, .slice (some ⟨b,0,none⟩) k cap,k,xs.flatMap encP2)) (hc : b ∈ S)
  {t : TypeId} {p x : Operand} {q : Nat} (ho : o.op = .store t p x) (hp : a.eval p = .pointer (some ⟨b,q * 2,none⟩)) (hx : a.eval x = .agg (encP2 y).toArray) (hz : (sizeOf t).run P W = .ok 2 W) (hq : q < xs.length)
  (hk : ∀ W',Sp wf T0 w ds L (Rs.set i (T,2, .slice (some ⟨b,0,none⟩) k cap,k,(xs.set q y).flatMap encP2)) W' → Keep S w1 W' → wpX P l.toArray Ext (Keep S w1) safe Q n li (a.put o.dst undef) W') : lUpon P (fun v w' => (q0 → Keep S w1 w') ∧ ∀ w'',Ext w' w'' → wpX P l.toArray Ext (Keep S w1) safe Q n li (a.put o.dst v) w'') ((execOp a.eval o).run P W) := by
 obtain ⟨cs,h1,h2,h3⟩ := run_store_pair (P := P) y ho hp hx hz (h.row i hi) hq
 rw [h1]
 have hK2 : Keep S w1 (W.setRow b cs) := hK.trans ((Keep.setRow W b cs).mono fun x hx => by rw [List.mem_singleton] at hx; subst hx; exact hc)
 exact lUpon_skip ⟨fun _ => hK2,fun W' hx => hk W' ((h.push i (by decide) hi (Ext.refl W) h2 h3 (.inl rfl)).ext hx) (hK2.trans (hx.keep S))⟩
end
theorem own_some2 {w : World} {base T n c : Nat} {A : Option Addr} {xs : List Value} (h : w.ownsRow base T 2 (.slice A n c) n xs) (hn : 0 < n) : ∃ b,A = some ⟨b,0,none⟩ := by
 obtain ⟨_,h | ⟨g,cap',cur,hv,_⟩⟩ := h
 ·omega
 ·injection hv with hv1
  exact ⟨g,hv1⟩
theorem own_cut {w : World} {base T n n' c : Nat} {A : Option Addr} {xs : List (Int × Int)} (h : w.ownsRow base T 2 (.slice A n c) n (xs.flatMap encP2)) (hn : n' ≤ n) (hA : A ≠ none) : w.ownsRow base T 2 (.slice A n' c) n' ((xs.take n').flatMap encP2) := by
 obtain ⟨hlen,h | ⟨g,cap',cur,hv,hb,hg,hm,hm2,hsz,htk⟩⟩ := h
 ·injection h.1 with h1
  exact absurd h1 hA
 ·injection hv with hv1 _ hv2
  subst hv1
  subst hv2
  have hfl := flat_len2 xs
  have hx : ∀ (xs : List (Int × Int)) (k : Nat),(xs.flatMap encP2).take (k * 2) = (xs.take k).flatMap encP2 := fun xs => by
   induction xs with
   | nil => intro k; simp
   | cons p xs ih =>
    intro k
    cases k with
    | zero => simp
    | succ k =>
     rw [List.take_succ_cons,List.flatMap_cons,List.flatMap_cons, ← ih k,show (k + 1) * 2 = k * 2 + 2 by omega]
     rfl
  refine ⟨by rw [flat_len2,List.length_take]; omega, .inr ⟨g,c,cur,rfl,hb,hg,by omega,hm2,hsz, ?_⟩⟩
  rw [← hx, ← htk,List.take_take,Nat.min_eq_left (by omega)]
theorem St.row1 {w : World} {T k n : Nat} {v : Value} {xs : List Value} (h : w.ownsRow 0 T k v n xs) (hk : k ≠ 0) : St 0 [] [(T,k,v,n,xs)] w := ((Sp.new (bare w)).addRow (ext_bare w) h hk).st
theorem grown_of {T : List Nat} {w w' : World} {b n c : Nat} (h : Keep T w w') (hT : ∀ x ∈ T,x = b) : w.grownBy w' (Value.slice (some ⟨b,0,none⟩) n c).ownBlock := ⟨h.os,h.tape,h.output,h.size,fun k hk hne => h.block k hk fun hm => hne (by rw [hT k hm]; rfl)⟩
theorem own_base0 {w w' : World} {b T k n c : Nat} {A : Option Addr} {xs ys : List Value} (h : w'.ownsRow 0 T k (.slice A n c) n xs) (h0 : w.ownsRow b T k (.slice A n c) n ys) : w'.ownsRow b T k (.slice A n c) n xs := by
 obtain ⟨h1,h2 | ⟨g,cap',cur,hv,hb,hr⟩⟩ := h
 ·exact ⟨h1, .inl h2⟩
 ·refine ⟨h1, .inr ⟨g,cap',cur,hv, ?_,hr⟩⟩
  obtain ⟨_,h3 | ⟨g2,cap2,cur2,hv2,hb2,_⟩⟩ := h0
  ·have := h3.1.symm.trans hv; cases this
  ·have h4 := hv2.symm.trans hv
   injection h4 with h5
   injection h5 with h5
   injection h5 with h5 _
   rw [← h5]; exact hb2
theorem load_Way {ρ : Operand → Value} {o : Oper} {x : Operand} {w : World} {b off : Nat} {p q : Value} (ho : o.op = .load 214 x) (hx : ρ x = .pointer (some ⟨b,off,none⟩)) (h0 : w.cell? ⟨b,off,none⟩ = some p) (h1 : w.cell? ⟨b,off + 1,none⟩ = some q) : (execOp ρ o).run Tryz.prog w = .ok (.value (.agg #[p,q])) w :=
 run_load_agg ho hx (by simp [go_sem]) (by simp [go_sem]) fun j v hv => by
  match j,hv with
  | 0,hv => simp at hv; subst hv; exact h0
  | 1,hv => simp at hv; subst hv; exact h1
set_option maxRecDepth 100000 in
set_option maxHeartbeats 16000000 in
theorem wlen_any (A : Option Addr) (n c : Nat) (w : World) :
  Calls Tryz.prog 172 #[.slice A n c] w fun e w' => e = .returned (.int .i64 (n : Nat)) ∧ Ext w w' := by
 have hP := hide (Sp.new w)
 refine callsIn_wide.1 (callsIn_of_wp_marks (n := 0) Tryz.func172 rfl trivial (wpIn_wide.2 ?_))
 simp only [Tryz.ntmps172,List.size_toArray,List.length_cons,List.length_nil,Nat.reduceAdd,Nat.reduceSub,Array.replicate_succ,Array.replicate_zero,List.push_toArray,List.append_toArray,List.nil_append,List.cons_append]
 try dsimp only
 repeat ((fail_if_success (with_reducible refine wp_reg (id := 0) ?_)); (first | go_values | go_skip | go_step | go_guarded | go_upon | go_in | go_back | fail))
 with_reducible refine wp_reg (id := 0) ?_
 refine wpO_want rfl ?_
 go_simp
 refine wpO_done ?_
 try go_frame
 try dsimp only
 repeat ((fail_if_success (with_reducible refine wp_reg (id := 1) ?_)); (first | go_values | go_skip | go_step | go_guarded | go_upon | go_in | go_back | fail))
 with_reducible refine wp_reg (id := 1) ?_
 iterate 3
  refine wpO_want rfl ?_
  go_simp
 refine wpO_done ?_
 try go_frame
 go_wp2_with fail
 refine Sp.leaves0 ?_
 exact ⟨_,results_tmp (t := 2) rfl _ _ _,rfl,(unhide hP).extf⟩
set_option maxRecDepth 100000 in
set_option maxHeartbeats 16000000 in
theorem wless_any (A : Option Addr) (hs : List (Int × Int)) (n c i j : Nat) (w : World) (hA : SlAt encP2 2 w A hs) (hn : n = hs.length) (hi : i < n) (hj : j < n) (hb : n ≤ 100000000) :
  Calls Tryz.prog 233 #[.slice A n c, .int .i64 (i : Nat), .int .i64 (j : Nat)] w fun e w' => e = .returned (.bool (decide (hc hs i < hc hs j))) ∧ Ext w w' := by
 have hi2 : i < hs.length := by omega
 have hj2 : j < hs.length := by omega
 obtain ⟨b,off,rfl,t0,t1⟩ := atQ hA hi2
 obtain ⟨b2,off2,he,u0,u1⟩ := atQ hA hj2
 simp only [Option.some.injEq,Addr.mk.injEq,and_true] at he
 obtain ⟨rfl,rfl⟩ := he
 have ei : hc hs i = hs[i].1 := by unfold hc; rw [List.getD_eq_getElem?_getD,List.getElem?_eq_getElem hi2]; rfl
 have ej : hc hs j = hs[j].1 := by unfold hc; rw [List.getD_eq_getElem?_getD,List.getElem?_eq_getElem hj2]; rfl
 rw [ei,ej]
 generalize hs[i].1 = x at *
 generalize hs[j].1 = y at *
 obtain ⟨q,hq⟩ : ∃ q,decide (x < y) = q := ⟨_,rfl⟩
 rw [hq]
 have t0 : ∀ W,Keep [] w W → W.cell? ⟨b,off + i * 2,none⟩ = some (.int .i64 x) := fun W hW => t0 W (Ext.of_keep0 hW)
 have u0 : ∀ W,Keep [] w W → W.cell? ⟨b,off + j * 2,none⟩ = some (.int .i64 y) := fun W hW => u0 W (Ext.of_keep0 hW)
 have hself := Keep.refl [] w
 have hiI : (i : Int) < (n : Int) := by omega
 have hjI : (j : Int) < (n : Int) := by omega
 have hiB : (i : Int) ≤ 100000000 := by omega
 have hjB : (j : Int) ≤ 100000000 := by omega
 clear hA t1 u1 ei ej hn hi2 hj2 hb
 have hP := hide (Sp.new w)
 refine callsIn_wide.1 (callsIn_of_wp_marks (n := 0) Tryz.func233 rfl trivial (wpIn_wide.2 ?_))
 simp only [Tryz.ntmps233,List.size_toArray,List.length_cons,List.length_nil,Nat.reduceAdd,Nat.reduceSub,Array.replicate_succ,Array.replicate_zero,List.push_toArray,List.append_toArray,List.nil_append,List.cons_append]
 try dsimp only
 repeat ((fail_if_success (with_reducible refine wp_reg (id := 0) ?_)); (first | go_values | go_skip | go_step | go_guarded | go_upon | go_in | go_back | fail))
 with_reducible refine wp_reg (id := 0) ?_
 refine wpO_want rfl ?_
 go_simp
 refine wpO_done ?_
 try go_frame
 go_wp2_with fail
 refine wp_regionK (P := Tryz.prog) [] [0,1,2,3,4,5,6,7,8,9,10,11] [] 0 #[true,true,true,true,true,true,true,true,true,true,true,true] (by kernel_rfl) (by kernel_rfl) rfl (by rfl) ?_
 iterate 12
  first
  | (refine ql_skip rfl (by rfl) ?_)
  | (refine ql_want (v := ?_) rfl (by rfl) (fun W hW => ?_) ?_; rotate_left; (go_simp; (first | done | rfl)))
  try go_frame
 refine wpQL_nil (fun y1 hxq => ?_)
 have hK := hide (hxq.keep [])
 replace hP : Hid (Sp w [] w [] [] [] y1) := hide ((unhide hP).ext hxq)
 clear hxq
 refine wpX_done (by kernel_rfl) ?_
 try go_frame
 clear hK
 go_wp2_with fail
 refine Sp.leaves0 ?_
 exact ⟨_,results_tmp (t := 6) rfl _ _ _,rfl,(unhide hP).extf⟩
set_option maxRecDepth 100000 in
set_option maxHeartbeats 16000000 in
theorem wswap_any (base : Nat) (A : Option Addr) (hs : List (Int × Int)) (n c i j : Nat) (w : World) (hA : w.ownsRow base 214 2 (.slice A n c) n (hs.flatMap encP2)) (hn : n = hs.length) (hi : i < n) (hj : j < n) (hb : n ≤ 100000000) :
  Calls Tryz.prog 236 #[.slice A n c, .int .i64 (i : Nat), .int .i64 (j : Nat)] w fun e w' => e = .returned (.tuple #[]) ∧ w'.ownsRow base 214 2 (.slice A n c) n ((swpL hs i j).flatMap encP2) ∧ w.grownBy w' (Value.slice A n c).ownBlock := by
 have hi2 : i < hs.length := by omega
 have hj2 : j < hs.length := by omega
 obtain ⟨b8,rfl⟩ := own_some2 hA (by omega)
 have hbl : b8 < w.heap.size := by
  obtain ⟨_,h | ⟨g,cap',cur,hv,hb,hg,_⟩⟩ := hA
  ·cases h.1
  ·injection hv with hv1
   injection hv1 with hv1
   injection hv1 with hv1 _
   subst hv1
   exact (Array.getElem?_eq_some_iff.1 hg).1
 obtain ⟨⟨pa,pb⟩,hx⟩ : ∃ p,p = hs[i] := ⟨_,rfl⟩
 obtain ⟨⟨ra,rb⟩,hy⟩ : ∃ p,p = hs[j] := ⟨_,rfl⟩
 have g0 : Hid (∀ W : World,W.ownsRow 0 214 2 (.slice (some ⟨b8,0,none⟩) n c) n (hs.flatMap encP2) → W.cell? ⟨b8,j * 2,none⟩ = some (.int .i64 ra) ∧ W.cell? ⟨b8,j * 2 + 1,none⟩ = some (.int .i64 rb)) := hide (by
  intro W hW
  rw [hn] at hW
  obtain ⟨b,off,he,h1,h2⟩ := atQ (own_at (enc := encP2) (A := some ⟨b8,0,none⟩) (c := c) (xs := hs) hW (fun _ => rfl)) hj2
  simp only [Option.some.injEq,Addr.mk.injEq,and_true] at he
  obtain ⟨rfl,rfl⟩ := he
  have h1 := h1 W (Ext.refl W)
  have h2 := h2 W (Ext.refl W)
  rw [Nat.zero_add, ← hy] at h1 h2
  exact ⟨h1,h2⟩)
 have g1 : Hid (∀ W : World,W.ownsRow 0 214 2 (.slice (some ⟨b8,0,none⟩) n c) n (hs.flatMap encP2) → W.cell? ⟨b8,i * 2,none⟩ = some (.int .i64 pa) ∧ W.cell? ⟨b8,i * 2 + 1,none⟩ = some (.int .i64 pb)) := hide (by
  intro W hW
  rw [hn] at hW
  obtain ⟨b,off,he,h1,h2⟩ := atQ (own_at (enc := encP2) (A := some ⟨b8,0,none⟩) (c := c) (xs := hs) hW (fun _ => rfl)) hi2
  simp only [Option.some.injEq,Addr.mk.injEq,and_true] at he
  obtain ⟨rfl,rfl⟩ := he
  have h1 := h1 W (Ext.refl W)
  have h2 := h2 W (Ext.refl W)
  rw [Nat.zero_add, ← hx] at h1 h2
  exact ⟨h1,h2⟩)
 have hsw := hide (show (hs.set i (ra,rb)).set j (pa,pb) = swpL hs i j by
  unfold swpL
  rw [List.getD_eq_getElem?_getD,List.getD_eq_getElem?_getD,List.getElem?_eq_getElem hi2,List.getElem?_eq_getElem hj2,hx,hy]
  rfl)
 have hst : St 0 [] [(214,2, .slice (some ⟨b8,0,none⟩) n c,n,hs.flatMap encP2)] w := by
  have h0 : w.ownsRow 0 214 2 (.slice (some ⟨b8,0,none⟩) n c) n (hs.flatMap encP2) := by
   obtain ⟨h1,h | ⟨g,cap',cur,hv,hb,hr⟩⟩ := hA
   ·exact ⟨h1, .inl h⟩
   ·exact ⟨h1, .inr ⟨g,cap',cur,hv,Nat.zero_le _,hr⟩⟩
  exact St.row1 h0 (by decide)
 have hi2' := hide hi2
 have hj2' := hide hj2
 have hiI : (i : Int) < (n : Int) := by omega
 have hjI : (j : Int) < (n : Int) := by omega
 have hiB : (i : Int) ≤ 100000000 := by omega
 have hjB : (j : Int) ≤ 100000000 := by omega
 have hmb8 : b8 ∈ [b8] := List.mem_singleton.2 rfl
 have hA' := hide hA
 clear hx hy hn hi hj hb hi2 hj2 hA
 have hP := hide (Sp.bare hst)
 clear hst
 obtain ⟨wf,hwf⟩ : ∃ wf,wf = bare w := ⟨_,rfl⟩
 rw [← hwf] at hP
 have hz0 := hide (show wf.heap.size = 0 by rw [hwf]; rfl)
 clear hwf
 obtain ⟨T,hT0⟩ : ∃ T,T = stT [] [(214,2, .slice (some ⟨b8,0,none⟩) n c,n,hs.flatMap encP2)] := ⟨_,rfl⟩
 rw [← hT0] at hP
 have hTb := hide (show ∀ x ∈ T,x = b8 by
  rw [hT0]
  intro x hx
  simpa [stT,rwT,rwB,Value.ownBlock] using hx)
 clear hT0
 refine callsIn_wide.1 (callsIn_of_wp_marks (n := 0) Tryz.func236 rfl trivial (wpIn_wide.2 ?_))
 simp only [Tryz.ntmps236,List.size_toArray,List.length_cons,List.length_nil,Nat.reduceAdd,Nat.reduceSub,Array.replicate_succ,Array.replicate_zero,List.push_toArray,List.append_toArray,List.nil_append,List.cons_append]
 go_wp2_with fail
 refine wp_regionK (P := Tryz.prog) [b8] [0,1,2,3,4,5,6,8,9,10] [15] 6 #[true,true,true,true,true,true,true,false,true,true,true,false,false,false,false,false] (by kernel_rfl) (by kernel_rfl) rfl (by rfl) ?_
 iterate 10
  refine ql_want (v := ?_) rfl (by rfl) (fun W hW => ?_) ?_
  rotate_left
  ·go_simp
   first | done | rfl
  go_frame
 refine wpQL_nil (fun y1 hxq => ?_)
 have hK := hide (hxq.keep [b8])
 replace hP : Hid (Sp wf T w [] [] [(214,2, .slice (some ⟨b8,0,none⟩) n c,n,hs.flatMap encP2)] y1) := hide ((unhide hP).ext hxq)
 clear hxq
 refine lx_two (i := 7) (k := 11) (by kernel_rfl) rfl (by rfl) #[true,true,true,true,true,true,true,true,true,true,true,false,false,false,false,false] (by rfl) rfl (by rfl) #[true,true,true,true,true,true,true,false,true,true,true,true,false,false,false,false] (by rfl) ?_ ?_
 ·skip
  refine (unhide hP).valL (unhide hK) (v := .agg #[.int .i64 ra, .int .i64 rb]) ?_ ?_
  ·exact load_Way rfl rfl (unhide g0 _ (by have h := (unhide hP).row 0 rfl; rw [unhide hz0] at h; exact h)).1 (unhide g0 _ (by have h := (unhide hP).row 0 rfl; rw [unhide hz0] at h; exact h)).2
  intro y2 hQ hK2
  replace hP : Hid (Sp wf T w [] [] [(214,2, .slice (some ⟨b8,0,none⟩) n c,n,hs.flatMap encP2)] y2) := hide hQ
  replace hK := hide hK2
  clear hQ hK2
  try go_frame
  refine lx_one (i := 11) (by kernel_rfl) rfl (by rfl) #[true,true,true,true,true,true,true,true,true,true,true,true,false,false,false,false] (by rfl) ?_
  refine (unhide hP).valL (unhide hK) (v := .agg #[.int .i64 pa, .int .i64 pb]) ?_ ?_
  ·exact load_Way rfl rfl (unhide g1 _ (by have h := (unhide hP).row 0 rfl; rw [unhide hz0] at h; exact h)).1 (unhide g1 _ (by have h := (unhide hP).row 0 rfl; rw [unhide hz0] at h; exact h)).2
  intro y3 hQ hK2
  replace hP : Hid (Sp wf T w [] [] [(214,2, .slice (some ⟨b8,0,none⟩) n c,n,hs.flatMap encP2)] y3) := hide hQ
  replace hK := hide hK2
  clear hQ hK2
  try go_frame
  refine lx_one (i := 12) (by kernel_rfl) rfl (by rfl) #[true,true,true,true,true,true,true,true,true,true,true,true,true,false,false,false] (by rfl) ?_
  refine (unhide hP).valL (unhide hK) (v := .pointer (some ⟨b8,i * 2,none⟩)) ?_ ?_
  ·go_simp
  intro y4 hQ hK2
  replace hP : Hid (Sp wf T w [] [] [(214,2, .slice (some ⟨b8,0,none⟩) n c,n,hs.flatMap encP2)] y4) := hide hQ
  replace hK := hide hK2
  clear hQ hK2
  try go_frame
  refine lx_one (i := 13) (by kernel_rfl) rfl (by rfl) #[true,true,true,true,true,true,true,true,true,true,true,true,true,true,false,false] (by rfl) ?_
  refine (unhide hP).putPL (unhide hK) 0 (ra,rb) rfl hmb8 (q := i) rfl (by first | rfl | go_simp) (by first | rfl | go_simp) (by simp [go_sem]) (unhide hi2') ?_
  intro y5 hQ hK2
  replace hP : Hid (Sp wf T w [] [] [(214,2, .slice (some ⟨b8,0,none⟩) n c,n,(hs.set i (ra,rb)).flatMap encP2)] y5) := hide hQ
  replace hK := hide hK2
  clear hQ hK2
  try go_frame
  refine lx_one (i := 14) (by kernel_rfl) rfl (by rfl) #[true,true,true,true,true,true,true,true,true,true,true,true,true,true,true,false] (by rfl) ?_
  refine (unhide hP).valL (unhide hK) (v := .pointer (some ⟨b8,j * 2,none⟩)) ?_ ?_
  ·go_simp
  intro y6 hQ hK2
  replace hP : Hid (Sp wf T w [] [] [(214,2, .slice (some ⟨b8,0,none⟩) n c,n,(hs.set i (ra,rb)).flatMap encP2)] y6) := hide hQ
  replace hK := hide hK2
  clear hQ hK2
  try go_frame
  refine lx_one (i := 15) (by kernel_rfl) rfl (by rfl) #[true,true,true,true,true,true,true,true,true,true,true,true,true,true,true,true] (by rfl) ?_
  refine (unhide hP).putPL (unhide hK) 0 (pa,pb) rfl hmb8 (q := j) rfl (by first | rfl | go_simp) (by first | rfl | go_simp) (by simp [go_sem]) (by rw [List.length_set]; exact unhide hj2') ?_
  intro y7 hQ hK2
  replace hP : Hid (Sp wf T w [] [] [(214,2, .slice (some ⟨b8,0,none⟩) n c,n,((hs.set i (ra,rb)).set j (pa,pb)).flatMap encP2)] y7) := hide hQ
  replace hK := hide hK2
  clear hQ hK2
  try go_frame
  refine wpX_done (by kernel_rfl) ?_
  try go_frame
  clear hK
  clear hmb8
  go_wp2_with fail
  have hrow := (unhide hP).row 0 rfl
  rw [unhide hsw,unhide hz0] at hrow
  have hkp := (unhide hP).keep
  refine Sp.leaves0 ?_
  refine ⟨_,results_none rfl _ _ _,rfl,own_base0 hrow (unhide hA'), ?_⟩
  exact grown_of hkp (unhide hTb)
 ·skip
  refine (unhide hP).valL (unhide hK) (v := .agg #[.int .i64 pa, .int .i64 pb]) ?_ ?_
  ·exact load_Way rfl rfl (unhide g1 _ (by have h := (unhide hP).row 0 rfl; rw [unhide hz0] at h; exact h)).1 (unhide g1 _ (by have h := (unhide hP).row 0 rfl; rw [unhide hz0] at h; exact h)).2
  intro y2 hQ hK2
  replace hP : Hid (Sp wf T w [] [] [(214,2, .slice (some ⟨b8,0,none⟩) n c,n,hs.flatMap encP2)] y2) := hide hQ
  replace hK := hide hK2
  clear hQ hK2
  try go_frame
  refine lx_one (i := 7) (by kernel_rfl) rfl (by rfl) #[true,true,true,true,true,true,true,true,true,true,true,true,false,false,false,false] (by rfl) ?_
  refine (unhide hP).valL (unhide hK) (v := .agg #[.int .i64 ra, .int .i64 rb]) ?_ ?_
  ·exact load_Way rfl rfl (unhide g0 _ (by have h := (unhide hP).row 0 rfl; rw [unhide hz0] at h; exact h)).1 (unhide g0 _ (by have h := (unhide hP).row 0 rfl; rw [unhide hz0] at h; exact h)).2
  intro y3 hQ hK2
  replace hP : Hid (Sp wf T w [] [] [(214,2, .slice (some ⟨b8,0,none⟩) n c,n,hs.flatMap encP2)] y3) := hide hQ
  replace hK := hide hK2
  clear hQ hK2
  try go_frame
  refine lx_one (i := 12) (by kernel_rfl) rfl (by rfl) #[true,true,true,true,true,true,true,true,true,true,true,true,true,false,false,false] (by rfl) ?_
  refine (unhide hP).valL (unhide hK) (v := .pointer (some ⟨b8,i * 2,none⟩)) ?_ ?_
  ·go_simp
  intro y4 hQ hK2
  replace hP : Hid (Sp wf T w [] [] [(214,2, .slice (some ⟨b8,0,none⟩) n c,n,hs.flatMap encP2)] y4) := hide hQ
  replace hK := hide hK2
  clear hQ hK2
  try go_frame
  refine lx_one (i := 13) (by kernel_rfl) rfl (by rfl) #[true,true,true,true,true,true,true,true,true,true,true,true,true,true,false,false] (by rfl) ?_
  refine (unhide hP).putPL (unhide hK) 0 (ra,rb) rfl hmb8 (q := i) rfl (by first | rfl | go_simp) (by first | rfl | go_simp) (by simp [go_sem]) (unhide hi2') ?_
  intro y5 hQ hK2
  replace hP : Hid (Sp wf T w [] [] [(214,2, .slice (some ⟨b8,0,none⟩) n c,n,(hs.set i (ra,rb)).flatMap encP2)] y5) := hide hQ
  replace hK := hide hK2
  clear hQ hK2
  try go_frame
  refine lx_one (i := 14) (by kernel_rfl) rfl (by rfl) #[true,true,true,true,true,true,true,true,true,true,true,true,true,true,true,false] (by rfl) ?_
  refine (unhide hP).valL (unhide hK) (v := .pointer (some ⟨b8,j * 2,none⟩)) ?_ ?_
  ·go_simp
  intro y6 hQ hK2
  replace hP : Hid (Sp wf T w [] [] [(214,2, .slice (some ⟨b8,0,none⟩) n c,n,(hs.set i (ra,rb)).flatMap encP2)] y6) := hide hQ
  replace hK := hide hK2
  clear hQ hK2
  try go_frame
  refine lx_one (i := 15) (by kernel_rfl) rfl (by rfl) #[true,true,true,true,true,true,true,true,true,true,true,true,true,true,true,true] (by rfl) ?_
  refine (unhide hP).putPL (unhide hK) 0 (pa,pb) rfl hmb8 (q := j) rfl (by first | rfl | go_simp) (by first | rfl | go_simp) (by simp [go_sem]) (by rw [List.length_set]; exact unhide hj2') ?_
  intro y7 hQ hK2
  replace hP : Hid (Sp wf T w [] [] [(214,2, .slice (some ⟨b8,0,none⟩) n c,n,((hs.set i (ra,rb)).set j (pa,pb)).flatMap encP2)] y7) := hide hQ
  replace hK := hide hK2
  clear hQ hK2
  try go_frame
  refine wpX_done (by kernel_rfl) ?_
  try go_frame
  clear hK
  clear hmb8
  go_wp2_with fail
  have hrow := (unhide hP).row 0 rfl
  rw [unhide hsw,unhide hz0] at hrow
  have hkp := (unhide hP).keep
  refine Sp.leaves0 ?_
  refine ⟨_,results_none rfl _ _ _,rfl,own_base0 hrow (unhide hA'), ?_⟩
  exact grown_of hkp (unhide hTb)
end Go.Proofs.YtmokciekndllpaaGreatDoor
namespace Go.Proofs.YtmokciekndllpaaGreatDoor
open Go Go.RowKit
section
variable {P : Program} {ρ : Operand → Value} {o : Oper} {T : TypeId} {p q : Operand} {w : World} {A : Option Addr} {n c k s : Nat}
theorem run_sl_to (ho : o.op = .slice T p none (some q) none) (hp : ρ p = .slice A n c) (hq : ρ q = .int .i64 (k : Int)) (ht : P.underlying T = some (.slice (P.elem T))) (hs : (sizeOf (P.elem T)).run P w = .ok s w) (hk : k ≤ c) : (execOp ρ o).run P w = .ok (.value (.slice A k c)) w := by
 have h := run_slice_h (w := w) T A n c ht .i64 (k : Int) (by omega) (by omega)
 rw [hs] at h
 simp only [Result.andThen_ok,sliced,Int.toNat_natCast,Nat.sub_zero] at h
 unfold execOp
 simp only [ho,hp,hq,Option.map]
 rw [Sem.run_bind,run_sliceAt_slice _ _ _ _ _ _ ht,h]
 simp only [Result.andThen_ok,Sem.run_pure]
 have hA : (if c = 0 then A else A.map fun x => x.add (0 * s)) = A := by
  split
  ·rfl
  ·cases A
   ·rfl
   ·simp [Addr.add]
 rw [hA]
end
end Go.Proofs.YtmokciekndllpaaGreatDoor
