/- Every input makes the law IsomorphismPerturbed answer true, and each argument reads behind the call as it read before: the given statement. No condition. -/
import Derived.Orders
import Derived.Tactics
import Derived.Below
import Derived.KernelRfl
import Derived.Test.YtbpeemhfjgcnaaaGreatC1
import Derived.Test.YtbpeemhfjgcnaaaGreatC17
import Derived.Test.YtbpeemhfjgcnaaaGreatC18
import Derived.Test.YtbpeemhfjgcnaaaGreatC19
import Derived.Test.YtbpeemhfjgcnaaaGreatC20
import Derived.Test.YtbpeemhfjgcnaaaGreatC24
import Derived.Test.YtbpeemhfjgcnaaaGreatC25
import Derived.Test.YtbpeemhfjgcnaaaGreatC31
import Derived.Test.YtbpeemhfjgcnaaaGreatC32
import Derived.Test.YtbpeemhfjgcnaaaGreatC33
import Derived.Test.YtbpeemhfjgcnaaaGreatC28
import Derived.Test.YtbpeemhfjgcnaaaGreatC34
import Derived.Test.YtbpeemhfjgcnaaaGreatC35
import Derived.Test.YtbpeemhfjgcnaaaGreatC42
import Derived.Test.YtbpeemhfjgcnaaaGreatC23
import Derived.Test.YtbpeemhfjgcnaaaGreatC38
import Derived.LaidMore
import Derived.Stop.Joined
import Derived.MakeChecks
import Derived.WalkKit
import Derived.ProofKit
import Derived.WideShapes
import Derived.OpenShut
import Derived.ShutString
import Derived.ChangeOld
import Derived.Test.YtbpeemhfjgcnaaaGreatC43
namespace Go.Proofs.YtbpeemhfjgcnaaaGreat
open Go Go.RowKit
section
variable {P : Program} {ops : Array Oper} {R : World → World → Prop} {C : World → Prop} {safe : Nat → Bool} {Q : Act → World → Prop}
section
variable {l : List Oper}
end
theorem qUpon_value {w w' : World} {v : Value} (h : R w w') : qUpon P R w v (.ok (.value v) w') := ⟨rfl,h⟩
end
end Go.Proofs.YtbpeemhfjgcnaaaGreat
namespace Go.Proofs.YtbpeemhfjgcnaaaGreat
open Go Go.RowKit Go.Shelf
section
variable {b : Nat} {L : List Cl} {Rs : List Rw} {W W' : World}
end
section
variable {wf : World} {T0 : List Nat} {w W W' : World} {ds : List Deferred} {L L' : List Cl} {Rs Rs' : List Rw}
end
section
variable {P : Program}
end
section
variable {P : Program} {C : World → Prop} {safe : Nat → Bool} {Q : Act → World → Prop} {l : List Oper} {n i : Nat} {o : Oper} {listed : Array Bool} {a : Act} {W w' : World} {v : Value}
end
section
variable {α : Type} {enc : α → List Value} {T ST : TypeId} {kk byt : Nat} {C : World → Prop} {safe : Nat → Bool} {Q : Act → World → Prop} {l : List Oper} {n i : Nat} {o : Oper} {s x : Operand} {listed : Array Bool} {a : Act} {W : World}
end
section
variable {P : Program} {wf : World} {T0 : List Nat} {w W : World} {ds : List Deferred} {L : List Cl} {Rs : List Rw} {l : List Oper} {K : Act → World → Prop} {r : List Oper} {o : Oper} {a : Act}
variable {C : World → Prop} {safe : Nat → Bool} {Q : Act → World → Prop} {n j : Nat} {listed : Array Bool} {S : List Nat} {w1 : World}
end
section
variable {α : Type} {enc : α → List Value} {T ST : TypeId} {kk byt : Nat} {l : List Oper} {s x : Operand} {o : Oper} {a : Act} {W w wf : World} {T0 : List Nat} {ds : List Deferred} {L : List Cl} {Rs : List Rw}
end
theorem slat_one {w : World} {b : Nat} {t : TypeId} {x : Int} (h : Blk w b t #[.int .i64 x]) : SlAt encI 1 w (some ⟨b,0,none⟩) [x] := fun _ => ⟨b,0,rfl,h.lt,fun i y hy j u hu => by
 match i,hy with
 | 0,hy =>
  simp at hy
  subst hy
  rw [show 0 + 0 * 1 + j = j by omega,h.cell j]
  simpa [encI] using hu⟩
theorem Sp.toRow {wf : World} {T0 : List Nat} {w W : World} {ds : List Deferred} {L : List Cl} {Rs : List Rw} {b t n : Nat} {cs : Array Value} (h : Sp wf T0 w ds (L ++ [(b,t,cs)]) Rs W) (hn : cs.size = n) (h0 : n ≤ 100) : Sp wf T0 w ds L (Rs ++ [(t,1, .slice (some ⟨b,0,none⟩) n n,n,cs.toList)]) W := by
 have hT : (stT L (Rs ++ [(t,1, .slice (some ⟨b,0,none⟩) n n,n,cs.toList)])).Perm (stT (L ++ [(b,t,cs)]) Rs) := by
  unfold stT rwT
  rw [List.flatMap_append,List.map_append,List.append_assoc]
  refine List.Perm.append_left _ ?_
  simp only [List.flatMap_cons,List.flatMap_nil,List.append_nil,rwB_slice (show (1 : Nat) ≠ 0 by decide),Value.ownBlock,Option.toList,List.map_cons,List.map_nil]
  exact List.perm_append_comm
 have hb : Blk W b t cs := h.st.cells (b,t,cs) (by simp)
 refine h.step (Keep.refl [] W) (by simp) ⟨fun e he => h.st.cells e (by simp [he]),fun r hr => ?_,hT.nodup_iff.2 h.st.nd,fun x hx => h.st.ge x (hT.mem_iff.1 hx)⟩ (fun x hx => .inl (hT.mem_iff.1 hx))
 rcases List.mem_append.1 hr with hr | hr
 ·exact h.st.rows r hr
 ·rw [List.mem_singleton] at hr
  subst hr
  refine (RowIs.slice (by decide)).2 ?_
  exact ⟨by simp [hn], .inr ⟨b,n,cs,rfl,h.st.ge b (by unfold stT; simp),hb,Nat.le_refl _,by unfold maxLen; omega,by simpa using hn,by rw [Nat.mul_one, ← hn]; exact List.take_of_length_le (by simp)⟩⟩
theorem slat_two {w : World} {b : Nat} {t : TypeId} {x y : Int} (h : Blk w b t #[.int .i64 x, .int .i64 y]) : SlAt encI 1 w (some ⟨b,0,none⟩) [x,y] := fun _ => ⟨b,0,rfl,h.lt,fun i z hz j u hu => by
 rw [show 0 + i * 1 + j = i + j by omega,h.cell]
 match i,hz with
 | 0,hz =>
  simp at hz
  subst hz
  match j,hu with
  | 0,hu => simp [encI] at hu; subst hu; rfl
  | j + 1,hu => simp [encI] at hu
 | 1,hz =>
  simp at hz
  subst hz
  match j,hu with
  | 0,hu => simp [encI] at hu; subst hu; rfl
  | j + 1,hu => simp [encI] at hu⟩
end Go.Proofs.YtbpeemhfjgcnaaaGreat
namespace Go.Proofs.YtbpeemhfjgcnaaaGreat
open Go Go.RowKit Go.Shelf
section
variable {κ τ : Type} {ek : κ → Value} {ev : τ → Value} {ok : κ → Prop}
end
section
variable {κ τ : Type} {ek : κ → Value} {ev : τ → Value} {ok : κ → Prop} {P : Program} {kt et t T : TypeId} {wf : World} {T0 : List Nat} {w W : World} {ds : List Deferred} {L : List Cl} {Rs : List Rw} {l : List Oper} {K : Act → World → Prop} {r : List Oper} {o : Oper} {a : Act} {mb n : Nat} {m : List (κ × τ)}
variable [DecidableEq κ]
end
section
variable {α : Type} {enc : α → List Value} {T ST : TypeId} {kk byt : Nat} {l : List Oper} {s x : Operand} {o : Oper} {a : Act} {W w wf : World} {T0 : List Nat} {ds : List Deferred} {L : List Cl} {Rs : List Rw}
variable {S : List Nat} {w1 : World} {safe : Nat → Bool} {q : Prop} {Q : Act → World → Prop} {n : Nat} {li : Array Bool}
theorem Sp.apAL (h : Sp wf T0 w ds L Rs W) (hK : Keep S w1 W) (i : Nat) {v : Value} {m : Nat} {xs : List α} (hi : Rs[i]? = some (T,kk,v,m,xs.flatMap enc)) (hS : ∀ z ∈ v.ownBlock.toList,z ∈ S ∨ w1.heap.size ≤ z)
  (hi0 : (Tryz.prog.info? T).map (fun i => (i.zero.map (·.cells.size),i.size,i.bytes)) = some (some kk,kk,byt)) (hu : Tryz.prog.underlying ST = some (.slice T)) (hone : ∀ x, ∀ v ∈ enc x,v.oneCell' = true) (hlen : ∀ x,(enc x).length = kk) (hk : 0 < kk) (hby : byt ≤ 1000)
  (ho : o.op = .call { callee := .builtin .append,args := #[s,x],argTypes := #[ST,ST] }) (ys : List α) {my c : Nat} {A : Option Addr} (hs : a.eval s = v) (hx : a.eval x = .slice A my c) (hm : ys.length = my) (hsrc : SlAt enc kk W A ys) (hl : m + my ≤ 100000000)
  (hk2 : ∀ A' c' W',Sp wf T0 w ds L (Rs.set i (T,kk, .slice A' (m + my) c',m + my,(xs ++ ys).flatMap enc)) W' → Keep S w1 W' → (∀ z ∈ (Value.slice A' (m + my) c').ownBlock.toList,z ∈ S ∨ w1.heap.size ≤ z) → wpX Tryz.prog l.toArray Ext (Keep S w1) safe Q n li (a.put o.dst (.slice A' (m + my) c')) W') :
  lUpon Tryz.prog (fun v w' => (q → Keep S w1 w') ∧ ∀ w'',Ext w' w'' → wpX Tryz.prog l.toArray Ext (Keep S w1) safe Q n li (a.put o.dst v) w'') ((execOp a.eval o).run Tryz.prog W) := by
 obtain ⟨A',c',w',h1,h2,h3,h4⟩ := run_apA hi0 hu hone hlen hk hby ho ys hs hx hm hsrc (h.row i hi (by omega)) hl h.size
 rw [h1]
 have hK2 : Keep S w1 w' := hK.of_new (Keep.of_grown h3) hS
 exact ⟨fun _ => hK2,fun W' hx' => hk2 A' c' W' ((h.push i (by omega) hi (Ext.refl W) h2 h3 h4).ext hx') (hK2.trans (hx'.keep S)) (off_new h4 hK.size hS)⟩
end
section
variable {P : Program} {l : List Oper} {o : Oper} {a : Act} {W w wf : World} {T0 : List Nat} {ds : List Deferred} {L : List Cl} {Rs : List Rw} {S : List Nat} {w1 : World} {safe : Nat → Bool} {q : Prop} {Q : Act → World → Prop} {n : Nat} {li : Array Bool}
end
section
variable {P : Program} {C : World → Prop} {safe : Nat → Bool} {Q : Act → World → Prop}
end
section
variable {P : Program} {C : World → Prop} {safe : Nat → Bool} {Q : Act → World → Prop} {l : List Oper} {r : List Oper} {K : Act → World → Prop} {o : Oper} {a : Act} {W w wf : World} {T0 : List Nat} {ds : List Deferred} {L : List Cl} {Rs : List Rw} {n j : Nat} {li : Array Bool}
end
end Go.Proofs.YtbpeemhfjgcnaaaGreat
namespace Go.Proofs.YtbpeemhfjgcnaaaGreat
theorem firstP_snoc (key : List Int → List Int) (a : List Int) (l : List (List Int)) (x : List Int) : firstP key a (l ++ [x]) = if lcmp (key x) (key (firstP key a l)) < 0 then x else firstP key a l := by
 unfold firstP
 rw [List.foldl_append]
 rfl
end Go.Proofs.YtbpeemhfjgcnaaaGreat
namespace Go.Proofs.YtbpeemhfjgcnaaaGreat
open Go Go.RowKit Go.Shelf
theorem atSl {w : World} {A : Option Addr} {ps : List Sl} (h : SlAt encSl 1 w A ps) {i : Nat} (hi : i < ps.length) : ∃ b off,A = some ⟨b,off,none⟩ ∧ b < w.heap.size ∧ ∀ S W,Keep S w W → b ∉ S → W.cell? ⟨b,off + i,none⟩ = some (.slice ps[i].1 ps[i].2.1 ps[i].2.2) := by
 obtain ⟨b,off,hA,hlt,hc⟩ := h (fun e => by rw [e] at hi; simp at hi)
 refine ⟨b,off,hA,hlt,fun S W hk hn => ?_⟩
 rw [World.cell?_of_block (hk.block b hlt hn)]
 have := hc i _ (List.getElem?_eq_getElem hi) 0 (.slice ps[i].1 ps[i].2.1 ps[i].2.2) rfl
 rw [show off + i * 1 + 0 = off + i by omega] at this
 exact this
end Go.Proofs.YtbpeemhfjgcnaaaGreat
namespace Go.Proofs.YtbpeemhfjgcnaaaGreat
open Go Go.RowKit Go.Shelf
theorem get_tail {α : Type} (a x : α) (l : List α) : (a :: (l ++ [x]))[l.length + 1]? = some x := by simp
theorem set_tail {α : Type} (a x y : α) (l : List α) : (a :: (l ++ [x])).set (l.length + 1) y = a :: (l ++ [y]) := by simp
section
variable {wf w W : World} {T0 : List Nat} {ds : List Deferred} {L : List Cl} {v : Value} {n : Nat} {J : List (Sl × List Int)} {tl : List Rw} {T : TypeId}
end
end Go.Proofs.YtbpeemhfjgcnaaaGreat
namespace Go.Proofs.YtbpeemhfjgcnaaaGreat
open Go Go.RowKit
section
variable {P : Program} {ρ : Operand → Value} {o : Oper} {T : TypeId} {p q : Operand} {w : World} {A : Option Addr} {n c k s : Nat}
end
theorem SlAt.upto {α : Type} {enc : α → List Value} {kk : Nat} {w : World} {A : Option Addr} {xs : List α} (h : SlAt enc kk w A xs) (n : Nat) : SlAt enc kk w A (xs.take n) := fun hne => by
 obtain ⟨b,off,hA,hlt,hc⟩ := h (by rintro rfl; simp at hne)
 refine ⟨b,off,hA,hlt,fun i x hx j u hu => hc i x ?_ j u hu⟩
 rw [List.getElem?_take] at hx
 split at hx
 ·exact hx
 ·cases hx
end Go.Proofs.YtbpeemhfjgcnaaaGreat
namespace Go.Proofs.YtbpeemhfjgcnaaaGreat
open Go Go.RowKit Go.Shelf
attribute [local go_sem] qUpon lUpon
attribute [local irreducible] wpO wpX wpQL
theorem slPt2 {w : World} {b : Nat} {p q : Option Addr} (h : Blk w b 24 #[.pointer p, .pointer q]) : SlAt encPt 1 w (some ⟨b,0,none⟩) [p,q] := slat_blk [p,q] h rfl (fun _ => rfl) (by simp)
theorem asked2 (b : Nat) (p q : Option Addr) (e f : Nat) (z : Int) (w : World) (h : Blk w b 24 #[.pointer p, .pointer q]) (hk : AskIs w p e) (hq : AskIs w q f) (hz : z = ((if e = 0 then f else e : Nat) : Int)) : Calls Tryz.prog 39 #[.slice (some ⟨b,0,none⟩) 2 2] w fun e' w' => e' = .returned (.int .i64 z) ∧ Ext w w' := by
 have h1 := asked_any (some ⟨b,0,none⟩) [p,q] [e,f] 2 2 w (slPt2 h) rfl rfl (by decide) (fun i h1 h2 => by
  rcases i with _ | _ | i
  ·exact hk
  ·exact hq
  ·simp at h1; omega)
 rw [show ((askL [e,f] : Nat) : Int) = z by rw [hz]; by_cases he : e = 0 <;> by_cases hf : f = 0 <;> simp [askL,he,hf]] at h1
 exact h1
end Go.Proofs.YtbpeemhfjgcnaaaGreat
namespace Go.Proofs.YtbpeemhfjgcnaaaGreat
open Go Go.RowKit Go.Shelf
attribute [local go_sem] qUpon lUpon
attribute [local irreducible] wpO wpX wpQL
theorem posE_find {u v : Int} {E : List ((Int × Int) × Thing)} : (posI (isE u v) E = -1 ∧ betE E u v = none) ∨ ∃ k, ∃ h : k < E.length,posI (isE u v) E = (k : Int) ∧ betE E u v = some E[k].2 := by
 unfold posI betE
 cases hf : E.findIdx? (isE u v) with
 | none =>
  refine .inl ⟨rfl, ?_⟩
  rw [List.findIdx?_eq_none_iff] at hf
  rw [List.find?_eq_none.2 fun x hx => by rw [hf x hx]; simp]
  rfl
 | some k =>
  rw [List.findIdx?_eq_some_iff_getElem] at hf
  obtain ⟨h1,h2,h3⟩ := hf
  refine .inr ⟨k,h1,rfl, ?_⟩
  rw [List.find?_eq_some_iff_getElem.2 ⟨h2,k,h1,rfl,fun j hj => by simpa using h3 j hj⟩]
  rfl
theorem code_le {V : List (Int × Thing)} {E : List ((Int × Int) × Thing)} {L : List Int} (h : L.length ≤ 8) : (codeR V E L).length ≤ 300 := by
 unfold codeR
 rw [List.length_append,codeT_len,List.length_map]
 have h1 := codeP_le E 8 L h
 have h2 : 3 * 8 * L.length ≤ 3 * 8 * 8 := Nat.mul_le_mul_left _ h
 omega
theorem codeT_step {V : List (Int × Thing)} {L : List Int} {i : Nat} (h : i < L.length) : codeT ((L.take (i + 1)).map (thV V)) = codeT ((L.take i).map (thV V)) ++ [(thV V L[i]).1,(thV V L[i]).2] := by
 rw [List.take_succ_eq_append_getElem h,List.map_append]
 have key : ∀ (a : List Thing) (t : Thing),codeT (a ++ [t]) = codeT a ++ [t.1,t.2] := by
  intro a t
  induction a with
  | nil => rfl
  | cons x r ih => rw [List.cons_append]; show x.1 :: x.2 :: codeT (r ++ [t]) = x.1 :: x.2 :: (codeT r) ++ [t.1,t.2]; rw [ih]; rfl
 exact key _ _
theorem drop_flat {L : List Int} (f : Int → List Int) {k : Nat} (h : k < L.length) : (L.drop k).flatMap f = f L[k] ++ (L.drop (k + 1)).flatMap f := flat_step f L h
theorem thV_pos {V : List (Int × Thing)} {E : List ((Int × Int) × Thing)} (hi : GInv V E) {x : Int} {j : Nat} (hj : j < V.length) (h : V[j].1 = x) : thV V x = V[j].2 := by rw [← h]; exact th_at hi hj
theorem pos_at {V : List (Int × Thing)} {x : Int} (h : x ∈ idsV V) : ∃ j : Nat, ∃ hj : j < V.length,posI (fun p : Int × Thing => p.1 == x) V = (j : Int) ∧ V[j].1 = x := by
 obtain ⟨j,hj,hp,hx,_⟩ := pos_ids h
 refine ⟨j,hj,hp, ?_⟩
 have h1 : (idsV V).idxOf x < (idsV V).length := List.idxOf_lt_length_of_mem h
 have h2 : (idsV V)[(idsV V).idxOf x] = x := List.getElem_idxOf h1
 have h3 : (idsV V)[(idsV V).idxOf x] = V[(idsV V).idxOf x].1 := List.getElem_map _
 rw [h3] at h2
 simp only [hx] at h2
 exact h2
theorem slAt_lt {α : Type} {enc : α → List Value} {k : Nat} {w : World} {A : Option Addr} {xs : List α} (h : SlAt enc k w A xs) (hne : xs ≠ []) : ∃ b off,A = some ⟨b,off,none⟩ ∧ b < w.heap.size := by
 obtain ⟨b,off,hA,hlt,_⟩ := h hne
 exact ⟨b,off,hA,hlt⟩
theorem redge8 (A B : Option Addr) (E : List ((Int × Int) × Thing)) (nV nE cV cE : Nat) (u v z : Int) (w : World) (hE : SlAt encE 4 w B E) (hn : nE = E.length) (hl : E.length ≤ 4096) (hz : posI (isE u v) E = z) : Calls Tryz.prog 61 #[.agg #[.slice A nV cV, .slice B nE cE], .int .i64 u, .int .i64 v] w fun e w' => e = .returned (.int .i64 z) ∧ Ext w w' := by
 subst hn
 subst hz
 exact redge_any A B E nV cV cE u v w hE hl
set_option maxRecDepth 100000 in
set_option maxHeartbeats 16000000 in
theorem code08_any (A1 B1 : Option Addr) (V : List (Int × Thing)) (E : List ((Int × Int) × Thing)) (nV nE cA cB : Nat) (A : Option Addr) (L : List Int) (n cC : Nat) (w : World) (hsV : SlAt encV 3 w A1 V) (hsE : SlAt encE 4 w B1 E) (hi : GInv V E) (hlb : LabB V E) (hnV : nV = V.length) (hnE : nE = E.length) (hA : SlAt encI 1 w A L) (hn : n = L.length) (hl : n ≤ 8) (hm : ∀ x ∈ L,x ∈ idsV V) :
  Calls Tryz.prog 50 #[.agg #[.slice A1 nV cA, .slice B1 nE cB], .slice A n cC] w (OwJ w (codeR V E L)) := by
 have hsV' := hide hsV
 have hsE' := hide hsE
 have hi' := hide hi
 have hlb' := hide hlb
 have hnV' := hide hnV
 have hnE' := hide hnE
 have hA' := hide hA
 have hn' := hide hn
 have hl' := hide hl
 have hm' := hide hm
 have hv4 := hide hi.nv
 have he4 := hide hi.ne
 have hcl := hide (code_le (V := V) (E := E) (L := L) (by omega))
 clear hsV hsE hi hlb hnV hnE hA hn hl hm
 have hP := hide (Sp.new w)
 refine callsIn_wide.1 (callsIn_of_wp_marks (n := 0) Tryz.func50 rfl trivial (wpIn_wide.2 ?_))
 simp only [Tryz.ntmps50,List.size_toArray,List.length_cons,List.length_nil,Nat.reduceAdd,Nat.reduceSub,Array.replicate_succ,Array.replicate_zero,List.push_toArray,List.append_toArray,List.nil_append,List.cons_append]
 try dsimp only
 repeat ((fail_if_success (with_reducible refine wp_reg (id := 0) ?_)); (first | go_values | go_skip | go_step | go_guarded | go_upon | go_in | go_back | fail))
 with_reducible refine wp_reg (id := 0) ?_
 refine (unhide hP).allocO 28 #[.slice A1 nV cA, .slice B1 nE cB] rfl (run_box (v := .agg #[.slice A1 nV cA, .slice B1 nE cB]) rfl rfl) ?_
 intro r2 y1 hQ
 replace hP : Hid (Sp w [] w [] [(r2,28, #[.slice A1 nV cA, .slice B1 nE cB])] [] y1) := hide hQ
 clear hQ
 refine wpO_want rfl ?_
 go_simp
 refine wpO_done ?_
 try go_frame
 replace hP : Hid (Sp w [] w [] [(r2,28, #[.slice A1 nV cA, .slice B1 nE cB])] [(3,1, .slice none 0 0,0,([] : List Int).flatMap encI)] y1) := hide ((unhide hP).nil 3 1)
 go_wp2_with fail
 obtain ⟨I1_2,hI1_20⟩ : ∃ I : Nat → Act → World → Prop,I = fun fi a' wr => ∃ (i : Nat), ∃ (Ax : Option Addr), ∃ (m : Nat), ∃ (cx : Nat), ∃ (xs : List Int),a'.tmps.size = 81 ∧ a'.tmps.getD 1 undef = .slice A n cC ∧ a'.tmps.getD 2 undef = .pointer (some ⟨r2,0,none⟩) ∧ a'.tmps.getD 5 undef = .slice Ax m cx ∧ a'.tmps.getD 6 undef = .int .i64 (i : Nat) ∧ a'.defers = [] ∧ i ≤ n ∧ xs = codeT ((L.take i).map (thV V)) ∧ m = xs.length ∧ Sp w [] w [] [(r2,28, #[.slice A1 nV cA, .slice B1 nE cB])] [(3,1, .slice Ax m cx,m,xs.flatMap encI)] wr ∧ fi = n - i := ⟨_,rfl⟩
 have hI1_2 := hide hI1_20
 clear hI1_20
 refine wp_loop_ix I1_2 (n - 0) ?_ ?_
 ·rw [unhide hI1_2]; exact ⟨0,none,0,0,[],rfl,rfl,rfl,rfl,rfl,rfl,Nat.zero_le _,rfl,rfl,unhide hP,rfl⟩
 ·rintro fi ⟨tm,dfs⟩ wr hrel
  rw [unhide hI1_2] at hrel
  obtain ⟨i,Ax,m,cx,xs,hsz,e1,e2,e5,e6,hdf,hin,hxs0,hml0,hPr,hfm⟩ := hrel
  obtain ⟨us,rfl⟩ : ∃ us : Nat → Value,tm = #[us 0,us 1,us 2,us 3,us 4,us 5,us 6,us 7,us 8,us 9,us 10,us 11,us 12,us 13,us 14,us 15,us 16,us 17,us 18,us 19,us 20,us 21,us 22,us 23,us 24,us 25,us 26,us 27,us 28,us 29,us 30,us 31,us 32,us 33,us 34,us 35,us 36,us 37,us 38,us 39,us 40,us 41,us 42,us 43,us 44,us 45,us 46,us 47,us 48,us 49,us 50,us 51,us 52,us 53,us 54,us 55,us 56,us 57,us 58,us 59,us 60,us 61,us 62,us 63,us 64,us 65,us 66,us 67,us 68,us 69,us 70,us 71,us 72,us 73,us 74,us 75,us 76,us 77,us 78,us 79,us 80] := ⟨fun i => tm.getD i undef,arr_fn hsz⟩
  have h1 : us 1 = .slice A n cC := e1
  have h2 : us 2 = .pointer (some ⟨r2,0,none⟩) := e2
  have h5 : us 5 = .slice Ax m cx := e5
  have h6 : us 6 = .int .i64 (i : Nat) := e6
  have hdf2 : dfs = [] := hdf
  subst hdf2
  clear hdf hsz e1 e2 e5 e6
  simp only [h1,h2,h5,h6]
  clear h1 h2 h5 h6
  clear hP
  have hP := hide hPr
  have hfm' := hide hfm
  have hxs := hide hxs0
  have hml := hide hml0
  clear hPr hfm hxs0 hml0
  by_cases hlt : i < n
  ·skip
   have hil : (i : Int) < (n : Int) := by omega
   have hlt' := hide hlt
   have hiL : i < L.length := by have := unhide hn'; omega
   have hib : (i : Int) ≤ 8 := by have := unhide hl'; omega
   have hst := hide (codeT_step (V := V) hiL)
   have hmb := hide (show m ≤ 300 by rw [unhide hml,unhide hxs,codeT_len,List.length_map,List.length_take]; omega)
   obtain ⟨jx,hjx,hpx,hjx2⟩ := pos_at (unhide hm' _ (List.getElem_mem hiL))
   obtain ⟨b,off,rfl,t0⟩ := atI ((unhide hA').ext (unhide hP).extf) hiL
   obtain ⟨bv,ov,rfl,g0,g1,g2⟩ := atV ((unhide hsV').ext (unhide hP).extf) hjx
   have hth := thV_pos (unhide hi') hjx hjx2
   have hlb2 := hide ((unhide hlb').1 _ (List.getElem_mem hjx))
   obtain ⟨x,hx0⟩ : ∃ x,x = L[i] := ⟨_,rfl⟩
   obtain ⟨⟨v0,lab,wt⟩,hp0⟩ : ∃ p,p = V[jx] := ⟨_,rfl⟩
   rw [← hp0] at hth g0 g1 g2 hlb2
   rw [← hx0] at hst t0 hth hpx
   rw [hth] at hst
   dsimp only at hst g0 g1 g2 hlb2
   have hwl : IntKind.i64.wrap lab = lab := wrap_byte (unhide hlb2)
   have hpx' := hide hpx
   have hjv : (jx : Int) < (nV : Int) := by have := unhide hnV'; omega
   have hself := Ext.refl wr
   clear hx0 hp0 hlt hpx hth hjx2
   have q0 := (unhide hP).cell 0 0 (v := .slice (some ⟨bv,ov,none⟩) nV cA) rfl rfl
   have q1 := (unhide hP).cell 0 1 (v := .slice B1 nE cB) rfl rfl
   try dsimp only
   repeat ((fail_if_success (with_reducible refine wp_reg (id := 3) ?_)); (first | go_values | go_skip | go_step | go_guarded | go_upon | go_in | go_back | fail))
   with_reducible refine wp_reg (id := 3) ?_
   iterate 4
    refine wpO_want rfl ?_
    go_simp
   refine wpO_done ?_
   try go_frame
   go_wp2_with fail
   have hc1 := hide (show ∀ W,Ext wr W → Calls Tryz.prog 19 #[.agg #[.slice (some ⟨bv,ov,none⟩) nV cA, .slice B1 nE cB], .int .i64 x] W fun e w' => e = .returned (.int .i64 (jx : Nat)) ∧ Ext W w' from fun W hW => find8 _ B1 V nV cA nE cB x jx W ((unhide hsV').ext ((unhide hP).extf.trans hW)) (unhide hnV') (by have := unhide hv4; omega) (unhide hpx'))
   replace q0 := fun (W : World) (hW : Keep [] wr W) => q0 W (Ext.of_keep0 hW)
   replace q1 := fun (W : World) (hW : Keep [] wr W) => q1 W (Ext.of_keep0 hW)
   replace t0 := fun (W : World) (hW : Keep [] wr W) => t0 W (Ext.of_keep0 hW)
   replace g0 := fun (W : World) (hW : Keep [] wr W) => g0 W (Ext.of_keep0 hW)
   replace g1 := fun (W : World) (hW : Keep [] wr W) => g1 W (Ext.of_keep0 hW)
   replace g2 := fun (W : World) (hW : Keep [] wr W) => g2 W (Ext.of_keep0 hW)
   have hself := Keep.refl [] wr
   refine wp_regionK (P := Tryz.prog) [] [0,1,2,3,4,5,6,7,8,9] [] 2 #[true,true,true,true,true,true,true,true,true,true,false,false] (by kernel_rfl) (by kernel_rfl) rfl (by rfl) ?_
   iterate 7
    first
    | (refine ql_skip rfl (by rfl) ?_)
    | (refine ql_want (v := ?_) rfl (by rfl) (fun W hW => ?_) ?_; rotate_left; (go_simp; (first | done | rfl)))
    try go_frame
   refine ql_want (v := .int .i64 (jx : Nat)) rfl (by rfl) (fun W hW => ?_) ?_
   ·go_simp
    refine (unhide hc1 W (Ext.of_keep0 hW)).mono ?_
    rintro _ _ ⟨h1,h2⟩
    exact ⟨_,h1,rfl,h2⟩
   go_frame
   iterate 2
    first
    | (refine ql_skip rfl (by rfl) ?_)
    | (refine ql_want (v := ?_) rfl (by rfl) (fun W hW => ?_) ?_; rotate_left; (go_simp; (first | done | rfl)))
    try go_frame
   refine wpQL_nil (fun y2 hxq => ?_)
   have hK := hide (hxq.keep [])
   replace hP : Hid (Sp w [] w [] [(r2,28, #[.slice (some ⟨bv,ov,none⟩) nV cA, .slice B1 nE cB])] [(3,1, .slice Ax m cx,m,xs.flatMap encI)] y2) := hide ((unhide hP).ext hxq)
   clear hxq
   clear q0 q1 t0 g0 g1 g2 hself hc1 hjv
   refine lx_one (i := 10) (by kernel_rfl) rfl (by rfl) #[true,true,true,true,true,true,true,true,true,true,true,false] (by rfl) ?_
   refine (unhide hP).allocL (unhide hK) (v := fun b => .pointer (some ⟨b,0,none⟩)) 73 #[.int .i64 0, .int .u8 0, .int .i64 0] ?_ ?_
   ·go_simp
   intro r7 y3 hQ hK2 hg2
   replace hP : Hid (Sp w [] w [] [(r2,28, #[.slice (some ⟨bv,ov,none⟩) nV cA, .slice B1 nE cB]),(r7,73, #[.int .i64 0, .int .u8 0, .int .i64 0])] [(3,1, .slice Ax m cx,m,xs.flatMap encI)] y3) := hide hQ
   replace hK := hide hK2
   have hge_r7 := hide hg2
   clear hQ hK2 hg2
   try go_frame
   refine lx_one (i := 11) (by kernel_rfl) rfl (by rfl) #[true,true,true,true,true,true,true,true,true,true,true,true] (by rfl) ?_
   refine (unhide hP).setNL (unhide hK) 1 #[.int .i64 v0, .int .u8 lab, .int .i64 wt] rfl (unhide hge_r7) (fun hb => run_store_row (v := .agg #[.int .i64 v0, .int .u8 lab, .int .i64 wt]) rfl (by rfl) (by rfl) (by simp [go_sem]) hb rfl (fun u hu => by simp [Value.cells] at hu; rcases hu with rfl | rfl | rfl <;> rfl)) ?_
   intro y4 hQ hK2
   replace hP : Hid (Sp w [] w [] [(r2,28, #[.slice (some ⟨bv,ov,none⟩) nV cA, .slice B1 nE cB]),(r7,73, #[.int .i64 v0, .int .u8 lab, .int .i64 wt])] [(3,1, .slice Ax m cx,m,xs.flatMap encI)] y4) := hide hQ
   replace hK := hide hK2
   clear hQ hK2
   try go_frame
   refine wpX_done (by kernel_rfl) ?_
   try go_frame
   clear hK
   have d1 := (unhide hP).cell 1 1 (v := .int .u8 lab) rfl rfl
   have d2 := (unhide hP).cell 1 2 (v := .int .i64 wt) rfl rfl
   have hself := Ext.refl y4
   try dsimp only
   repeat ((fail_if_success (with_reducible refine wp_reg (id := 6) ?_)); (first | go_values | go_skip | go_step | go_guarded | go_upon | go_in | go_back | fail))
   with_reducible refine wp_reg (id := 6) ?_
   iterate 6
    refine wpO_want rfl ?_
    go_simp
   clear d1 d2 hself hwl
   refine (unhide hP).buildO 2 3 #[.int .i64 lab, .int .i64 wt] rfl (by go_simp) ?_
   intro bs y5 hQ
   replace hP : Hid (Sp w [] w [] [(r2,28, #[.slice (some ⟨bv,ov,none⟩) nV cA, .slice B1 nE cB]),(r7,73, #[.int .i64 v0, .int .u8 lab, .int .i64 wt]),(bs,3, #[.int .i64 lab, .int .i64 wt])] [(3,1, .slice Ax m cx,m,xs.flatMap encI)] y5) := hide hQ
   clear hQ
   try go_frame
   refine (unhide hP).apAO (enc := encI) (T := 3) (ST := 31) 0 (v := .slice Ax m cx) (m := m) (xs := xs) rfl rfl infoI Tryz.underlying31 one_encI (fun _ => rfl) (by decide) (by decide) rfl [lab,wt] rfl rfl (rfl) (slat_two ((unhide hP).get 2 rfl)) (by have := unhide hmb; omega) ?_
   intro Az cAz y6 hQ
   replace hP : Hid (Sp w [] w [] [(r2,28, #[.slice (some ⟨bv,ov,none⟩) nV cA, .slice B1 nE cB]),(r7,73, #[.int .i64 v0, .int .u8 lab, .int .i64 wt]),(bs,3, #[.int .i64 lab, .int .i64 wt])] [(3,1, .slice Az (m + 2) cAz,m + 2,(xs ++ [lab,wt]).flatMap encI)] y6) := hide hQ
   clear hQ
   try go_frame
   refine wpO_want rfl ?_
   go_simp
   refine wpO_done ?_
   try go_frame
   replace hP : Hid (Sp w [] w [] [(r2,28, #[.slice (some ⟨bv,ov,none⟩) nV cA, .slice B1 nE cB]),(r7,73, #[.int .i64 v0, .int .u8 lab, .int .i64 wt])] [(3,1, .slice Az (m + 2) cAz,m + 2,(xs ++ [lab,wt]).flatMap encI)] y6) := hide ((unhide hP).sub (List.sublist_append_left _ ([(bs,3, #[.int .i64 lab, .int .i64 wt])] : List Cl)) (List.Sublist.refl _))
   replace hP : Hid (Sp w [] w [] [(r2,28, #[.slice (some ⟨bv,ov,none⟩) nV cA, .slice B1 nE cB])] [(3,1, .slice Az (m + 2) cAz,m + 2,(xs ++ [lab,wt]).flatMap encI)] y6) := hide ((unhide hP).sub (List.sublist_append_left _ ([(r7,73, #[.int .i64 v0, .int .u8 lab, .int .i64 wt])] : List Cl)) (List.Sublist.refl _))
   go_wp2_with fail
   refine ⟨n - (i + 1), ?_,by have := unhide hfm'; have := unhide hlt'; omega⟩
   rw [unhide hI1_2]
   exact ⟨i + 1,Az,m + 2,cAz,xs ++ [lab,wt],(by first | rfl | trivial),(by first | rfl | trivial),(by first | rfl | trivial),(by first | rfl | trivial),(by first | rfl | (show _ = Value.int _ _; go_num) | go_num),(by first | rfl | trivial),by have := unhide hlt'; omega,(by rw [unhide hst, ← unhide hxs]),(by rw [List.length_append, ← unhide hml]; rfl),unhide hP,rfl⟩
  ·skip
   have hil : ¬ (i : Int) < (n : Int) := by omega
   have hin' := hide hin
   have hxc0 := hide (show xs ++ codeP E (L.drop 0) = codeR V E L by
    rw [unhide hxs,List.take_of_length_le (by have := unhide hn'; omega)]
    rfl)
   clear hlt hin hxs
   try dsimp only
   repeat ((fail_if_success (with_reducible refine wp_reg (id := 3) ?_)); (first | go_values | go_skip | go_step | go_guarded | go_upon | go_in | go_back | fail))
   with_reducible refine wp_reg (id := 3) ?_
   iterate 4
    refine wpO_want rfl ?_
    go_simp
   refine wpO_done ?_
   try go_frame
   clear hil
   go_wp2_with fail
   obtain ⟨wo,hwo⟩ : ∃ wo,wo = wr := ⟨_,rfl⟩
   subst hwo
   obtain ⟨I1_6,hI1_60⟩ : ∃ I : Nat → Act → World → Prop,I = fun fj a' wr => ∃ (j : Nat), ∃ (Ax : Option Addr), ∃ (m : Nat), ∃ (cx : Nat), ∃ (xs : List Int),a'.tmps.size = 81 ∧ a'.tmps.getD 1 undef = .slice A n cC ∧ a'.tmps.getD 2 undef = .pointer (some ⟨r2,0,none⟩) ∧ a'.tmps.getD 5 undef = .slice Ax m cx ∧ a'.tmps.getD 8 undef = .int .i64 (j : Nat) ∧ a'.defers = [] ∧ j ≤ n ∧ xs ++ codeP E (L.drop j) = codeR V E L ∧ m = xs.length ∧ Sp w [] w [] [(r2,28, #[.slice A1 nV cA, .slice B1 nE cB])] [(3,1, .slice Ax m cx,m,xs.flatMap encI)] wr ∧ fj = n - j := ⟨_,rfl⟩
   have hI1_6 := hide hI1_60
   clear hI1_60
   refine wp_loop_ix I1_6 (n - 0) ?_ ?_
   ·rw [unhide hI1_6]; exact ⟨0,Ax,m,cx,xs,rfl,rfl,rfl,rfl,rfl,rfl,Nat.zero_le _,unhide hxc0,unhide hml,unhide hP,rfl⟩
   ·rintro fj ⟨tm,dfs⟩ wr hrel
    rw [unhide hI1_6] at hrel
    obtain ⟨j,Ax,m,cx,xs,hsz,e1,e2,e5,e8,hdf,hjn,hxs0,hml0,hPs,hgm⟩ := hrel
    obtain ⟨us,rfl⟩ : ∃ us : Nat → Value,tm = #[us 0,us 1,us 2,us 3,us 4,us 5,us 6,us 7,us 8,us 9,us 10,us 11,us 12,us 13,us 14,us 15,us 16,us 17,us 18,us 19,us 20,us 21,us 22,us 23,us 24,us 25,us 26,us 27,us 28,us 29,us 30,us 31,us 32,us 33,us 34,us 35,us 36,us 37,us 38,us 39,us 40,us 41,us 42,us 43,us 44,us 45,us 46,us 47,us 48,us 49,us 50,us 51,us 52,us 53,us 54,us 55,us 56,us 57,us 58,us 59,us 60,us 61,us 62,us 63,us 64,us 65,us 66,us 67,us 68,us 69,us 70,us 71,us 72,us 73,us 74,us 75,us 76,us 77,us 78,us 79,us 80] := ⟨fun i => tm.getD i undef,arr_fn hsz⟩
    have h1 : us 1 = .slice A n cC := e1
    have h2 : us 2 = .pointer (some ⟨r2,0,none⟩) := e2
    have h5 : us 5 = .slice Ax m cx := e5
    have h8 : us 8 = .int .i64 (j : Nat) := e8
    have hdf2 : dfs = [] := hdf
    subst hdf2
    clear hdf hsz e1 e2 e5 e8
    simp only [h1,h2,h5,h8]
    clear h1 h2 h5 h8
    clear hP hxc0 hml
    have hP := hide hPs
    have hgm' := hide hgm
    have hxs := hide hxs0
    have hml := hide hml0
    clear hPs hgm hxs0 hml0
    by_cases hlt : j < n
    ·skip
     have hil : (j : Int) < (n : Int) := by omega
     have hlt' := hide hlt
     have hjL : j < L.length := by have := unhide hn'; omega
     have hjb : (j : Int) ≤ 8 := by have := unhide hl'; omega
     have hxk := hide (show xs ++ ((L.drop (j + 1)).flatMap (fun v => pairO (betE E L[j] v)) ++ codeP E (L.drop (j + 1))) = codeR V E L by rw [← codeP_step E L hjL]; exact unhide hxs)
     obtain ⟨x,hx0⟩ : ∃ x,x = L[j] := ⟨_,rfl⟩
     rw [← hx0] at hxk
     have hxj := hide hx0
     obtain ⟨j1,hj10⟩ : ∃ j1,j1 = j + 1 := ⟨_,rfl⟩
     have hj1 := hide hj10
     have hjw : IntKind.i64.wrap ((j : Int) + 1) = (j1 : Int) := by rw [IntKind.wrap_i64]; omega
     rw [← hj10] at hxk
     clear hx0 hlt hxs hj10
     try dsimp only
     repeat ((fail_if_success (with_reducible refine wp_reg (id := 8) ?_)); (first | go_values | go_skip | go_step | go_guarded | go_upon | go_in | go_back | fail))
     with_reducible refine wp_reg (id := 8) ?_
     iterate 4
      refine wpO_want rfl ?_
      go_simp
     refine wpO_done ?_
     try go_frame
     try dsimp only
     repeat ((fail_if_success (with_reducible refine wp_reg (id := 10) ?_)); (first | go_values | go_skip | go_step | go_guarded | go_upon | go_in | go_back | fail))
     with_reducible refine wp_reg (id := 10) ?_
     iterate 3
      refine wpO_want rfl ?_
      go_simp
     refine wpO_done ?_
     try go_frame
     clear hjw
     go_wp2_with fail
     obtain ⟨wo2,hwo⟩ : ∃ wo,wo = wr := ⟨_,rfl⟩
     subst hwo
     obtain ⟨I1_10,hI1_100⟩ : ∃ I : Nat → Act → World → Prop,I = fun fk a' wr => ∃ (k : Nat), ∃ (Ax : Option Addr), ∃ (m : Nat), ∃ (cx : Nat), ∃ (xs : List Int),a'.tmps.size = 81 ∧ a'.tmps.getD 1 undef = .slice A n cC ∧ a'.tmps.getD 2 undef = .pointer (some ⟨r2,0,none⟩) ∧ a'.tmps.getD 5 undef = .slice Ax m cx ∧ a'.tmps.getD 8 undef = .int .i64 (j : Nat) ∧ a'.tmps.getD 9 undef = .int .i64 (k : Nat) ∧ a'.defers = [] ∧ k ≤ n ∧ j < k ∧ (xs ++ ((L.drop k).flatMap (fun v => pairO (betE E x v)) ++ codeP E (L.drop j1)) = codeR V E L) ∧ m = xs.length ∧ Sp w [] w [] [(r2,28, #[.slice A1 nV cA, .slice B1 nE cB])] [(3,1, .slice Ax m cx,m,xs.flatMap encI)] wr ∧ fk = n - k := ⟨_,rfl⟩
     have hI1_10 := hide hI1_100
     clear hI1_100
     refine wp_loop_ix I1_10 (n - j1) ?_ ?_
     ·rw [unhide hI1_10]; exact ⟨j1,Ax,m,cx,xs,rfl,rfl,rfl,rfl,rfl,rfl,rfl,by have := unhide hlt'; have := unhide hj1; omega,by have := unhide hj1; omega,unhide hxk,unhide hml,unhide hP,rfl⟩
     ·rintro fk ⟨tm,dfs⟩ wr hrel
      rw [unhide hI1_10] at hrel
      obtain ⟨k,Ax,m,cx,xs,hsz,e1,e2,e5,e8,e9,hdf,hkn,hjk0,hxs0,hml0,hPt,hhm⟩ := hrel
      obtain ⟨us,rfl⟩ : ∃ us : Nat → Value,tm = #[us 0,us 1,us 2,us 3,us 4,us 5,us 6,us 7,us 8,us 9,us 10,us 11,us 12,us 13,us 14,us 15,us 16,us 17,us 18,us 19,us 20,us 21,us 22,us 23,us 24,us 25,us 26,us 27,us 28,us 29,us 30,us 31,us 32,us 33,us 34,us 35,us 36,us 37,us 38,us 39,us 40,us 41,us 42,us 43,us 44,us 45,us 46,us 47,us 48,us 49,us 50,us 51,us 52,us 53,us 54,us 55,us 56,us 57,us 58,us 59,us 60,us 61,us 62,us 63,us 64,us 65,us 66,us 67,us 68,us 69,us 70,us 71,us 72,us 73,us 74,us 75,us 76,us 77,us 78,us 79,us 80] := ⟨fun i => tm.getD i undef,arr_fn hsz⟩
      have h1 : us 1 = .slice A n cC := e1
      have h2 : us 2 = .pointer (some ⟨r2,0,none⟩) := e2
      have h5 : us 5 = .slice Ax m cx := e5
      have h8 : us 8 = .int .i64 (j : Nat) := e8
      have h9 : us 9 = .int .i64 (k : Nat) := e9
      have hdf2 : dfs = [] := hdf
      subst hdf2
      clear hdf hsz e1 e2 e5 e8 e9
      simp only [h1,h2,h5,h8,h9]
      clear h1 h2 h5 h8 h9
      clear hP hxk hml
      have hP := hide hPt
      have hhm' := hide hhm
      have hxs := hide hxs0
      have hml := hide hml0
      have hjk := hide hjk0
      clear hPt hhm hxs0 hml0 hjk0
      by_cases hkt : k < n
      ·skip
       have hil : (k : Int) < (n : Int) := by omega
       have hkt' := hide hkt
       have hkL : k < L.length := by have := unhide hn'; omega
       have hjL : j < L.length := by have := unhide hn'; have := unhide hlt'; omega
       have hkb : (k : Int) ≤ 8 := by have := unhide hl'; omega
       have hjn2 : (j : Int) < (n : Int) := by have := unhide hlt'; omega
       have hmb := hide (show m ≤ 300 by
        have h1 := congrArg List.length (unhide hxs)
        rw [List.length_append] at h1
        have := unhide hcl
        have := unhide hml
        omega)
       have hx2 := hide (show xs ++ (pairO (betE E x L[k]) ++ ((L.drop (k + 1)).flatMap (fun v => pairO (betE E x v)) ++ codeP E (L.drop j1))) = codeR V E L by
        rw [← List.append_assoc (pairO _), ← drop_flat (fun v => pairO (betE E x v)) hkL]
        exact unhide hxs)
       obtain ⟨b,off,rfl,t0⟩ := atI ((unhide hA').ext (unhide hP).extf) hjL
       obtain ⟨b2,off2,hb2,t1⟩ := atI ((unhide hA').ext (unhide hP).extf) hkL
       cases hb2
       rw [← unhide hxj] at t0
       obtain ⟨y,hy0⟩ : ∃ y,y = L[k] := ⟨_,rfl⟩
       rw [← hy0] at hx2 t1
       have hself := Ext.refl wr
       obtain ⟨pz,hpz0⟩ : ∃ z,z = posI (isE x y) E := ⟨_,rfl⟩
       have hpz := hide hpz0
       clear hy0 hpz0 hkt hxs
       have q0 := (unhide hP).cell 0 0 (v := .slice A1 nV cA) rfl rfl
       have q1 := (unhide hP).cell 0 1 (v := .slice B1 nE cB) rfl rfl
       try dsimp only
       repeat ((fail_if_success (with_reducible refine wp_reg (id := 11) ?_)); (first | go_values | go_skip | go_step | go_guarded | go_upon | go_in | go_back | fail))
       with_reducible refine wp_reg (id := 11) ?_
       iterate 4
        refine wpO_want rfl ?_
        go_simp
       refine wpO_done ?_
       try go_frame
       go_wp2_with fail
       have hc1 := hide (show ∀ W,Ext wr W → Calls Tryz.prog 61 #[.agg #[.slice A1 nV cA, .slice B1 nE cB], .int .i64 x, .int .i64 y] W fun e w' => e = .returned (.int .i64 pz) ∧ Ext W w' from fun W hW => redge8 A1 B1 E nV nE cA cB x y pz W ((unhide hsE').ext ((unhide hP).extf.trans hW)) (unhide hnE') (by have := unhide he4; omega) (unhide hpz).symm)
       refine wp_region_ext (P := Tryz.prog) [0,1,2,3,4,5,6,7,8,9,10] [] 0 #[true,true,true,true,true,true,true,true,true,true,true] (by kernel_rfl) (by kernel_rfl) rfl (by rfl) ?_
       iterate 9
        first
        | (refine ql_skip rfl (by rfl) ?_)
        | (refine ql_want (v := ?_) rfl (by rfl) (fun W hW => ?_) ?_; rotate_left; (go_simp; (first | done | rfl)))
        try go_frame
       refine ql_want (v := .int .i64 pz) rfl (by rfl) (fun W hW => ?_) ?_
       ·go_simp
        refine (unhide hc1 W hW).mono ?_
        rintro _ _ ⟨h1,h2⟩
        exact ⟨_,h1,rfl,h2⟩
       go_frame
       iterate 1
        first
        | (refine ql_skip rfl (by rfl) ?_)
        | (refine ql_want (v := ?_) rfl (by rfl) (fun W hW => ?_) ?_; rotate_left; (go_simp; (first | done | rfl)))
        try go_frame
       refine wpQL_nil (fun y2 hxq => ?_)
       replace hP : Hid (Sp w [] w [] [(r2,28, #[.slice A1 nV cA, .slice B1 nE cB])] [(3,1, .slice Ax m cx,m,xs.flatMap encI)] y2) := hide ((unhide hP).ext hxq)
       clear q0 q1 t0 t1 hself hc1 hjn2 hxq
       refine wpX_done (by kernel_rfl) ?_
       try go_frame
       rcases posE_find (u := x) (v := y) (E := E) with ⟨hp1,hbe⟩ | ⟨kk,hkk,hp1,hbe⟩
       ·skip
        rw [← unhide hpz] at hp1
        subst hp1
        rw [hbe] at hx2
        clear hbe hil
        try dsimp only
        repeat ((fail_if_success (with_reducible refine wp_reg (id := 14) ?_)); (first | go_values | go_skip | go_step | go_guarded | go_upon | go_in | go_back | fail))
        with_reducible refine wp_reg (id := 14) ?_
        iterate 2
         refine wpO_want rfl ?_
         go_simp
        refine wpO_done ?_
        try go_frame
        try dsimp only
        repeat ((fail_if_success (with_reducible refine wp_reg (id := 15) ?_)); (first | go_values | go_skip | go_step | go_guarded | go_upon | go_in | go_back | fail))
        with_reducible refine wp_reg (id := 15) ?_
        refine wpO_want rfl ?_
        go_simp
        refine (unhide hP).buildO 1 3 #[.int .i64 0] rfl (by go_simp) ?_
        intro bs y3 hQ
        replace hP : Hid (Sp w [] w [] [(r2,28, #[.slice A1 nV cA, .slice B1 nE cB]),(bs,3, #[.int .i64 0])] [(3,1, .slice Ax m cx,m,xs.flatMap encI)] y3) := hide hQ
        clear hQ
        try go_frame
        refine (unhide hP).apAO (enc := encI) (T := 3) (ST := 31) 0 (v := .slice Ax m cx) (m := m) (xs := xs) rfl rfl infoI Tryz.underlying31 one_encI (fun _ => rfl) (by decide) (by decide) rfl [0] rfl rfl (rfl) (slat_one ((unhide hP).get 1 rfl)) (by have := unhide hmb; omega) ?_
        intro Az cAz y4 hQ
        replace hP : Hid (Sp w [] w [] [(r2,28, #[.slice A1 nV cA, .slice B1 nE cB]),(bs,3, #[.int .i64 0])] [(3,1, .slice Az (m + 1) cAz,m + 1,(xs ++ [0]).flatMap encI)] y4) := hide hQ
        clear hQ
        try go_frame
        refine wpO_want rfl ?_
        go_simp
        refine wpO_done ?_
        try go_frame
        replace hP : Hid (Sp w [] w [] [(r2,28, #[.slice A1 nV cA, .slice B1 nE cB])] [(3,1, .slice Az (m + 1) cAz,m + 1,(xs ++ [0]).flatMap encI)] y4) := hide ((unhide hP).sub (List.sublist_append_left _ ([(bs,3, #[.int .i64 0])] : List Cl)) (List.Sublist.refl _))
        go_wp2_with fail
        refine ⟨n - (k + 1), ?_,by have := unhide hhm'; have := unhide hkt'; omega⟩
        rw [unhide hI1_10]
        exact ⟨k + 1,Az,m + 1,cAz,xs ++ [0],(by first | rfl | trivial),(by first | rfl | trivial),(by first | rfl | trivial),(by first | rfl | trivial),(by first | rfl | trivial),(by first | rfl | (show _ = Value.int _ _; go_num) | go_num),(by first | rfl | trivial),by have := unhide hkt'; omega,by have := unhide hjk; omega,(by rw [List.append_assoc]; exact unhide hx2),(by rw [List.length_append, ← unhide hml]; rfl),unhide hP,rfl⟩
       ·skip
        rw [← unhide hpz] at hp1
        subst hp1
        rw [hbe] at hx2
        obtain ⟨be,oe,rfl,g0,g1,g2,g3⟩ := atE ((unhide hsE').ext (unhide hP).extf) hkk
        have hlb2 := hide ((unhide hlb').2 _ (List.getElem_mem hkk))
        obtain ⟨⟨⟨eu,ev⟩,⟨lab,wt⟩⟩,hp0⟩ : ∃ p,p = E[kk] := ⟨_,rfl⟩
        rw [← hp0] at hx2 g2 g3 hlb2
        dsimp only at hx2 g2 g3 hlb2
        have hwl : IntKind.i64.wrap lab = lab := wrap_byte (unhide hlb2)
        have hke : (kk : Int) < (nE : Int) := by have := unhide hnE'; omega
        have hkz : ¬ ((kk : Int) < 0) := by omega
        obtain ⟨S,hS0⟩ : ∃ S,S = (Value.slice Ax m cx).ownBlock.toList := ⟨_,rfl⟩
        have hS := hide hS0
        have hrS := hide (show r2 ∉ S from fun hm9 => by rw [hS0] at hm9; exact (unhide hP).ne_row 0 0 rfl rfl (by decide) hm9)
        have heS := hide (show be ∉ S from fun hm9 => by
         rw [hS0] at hm9
         have h1 := (own_base ((unhide hP).row 0 rfl) (by simpa using hm9)).1
         obtain ⟨b7,o7,h7,h8⟩ := slAt_lt (unhide hsE') (by intro e9; rw [e9] at hkk; simp at hkk)
         cases h7
         omega)
        clear g0 g1 hbe hp0 hil hS0
        try dsimp only
        repeat ((fail_if_success (with_reducible refine wp_reg (id := 14) ?_)); (first | go_values | go_skip | go_step | go_guarded | go_upon | go_in | go_back | fail))
        with_reducible refine wp_reg (id := 14) ?_
        iterate 2
         refine wpO_want rfl ?_
         go_simp
        refine wpO_done ?_
        try go_frame
        clear hkz
        go_wp2_with fail
        have q1 := (unhide hP).cellK 0 1 (v := .slice (some ⟨be,oe,none⟩) nE cB) rfl rfl (unhide hrS)
        have k2 : ∀ W,Keep S y2 W → W.cell? ⟨be,oe + kk * 4 + 2,none⟩ = some (.int .u8 lab) := fun W hW => by rw [World.cell?_of_block (hW.block be (by obtain ⟨b7,o7,h7,h8⟩ := slAt_lt ((unhide hsE').ext (unhide hP).extf) (by intro e9; rw [e9] at hkk; simp at hkk); cases h7; exact h8) (unhide heS))]; exact g2 _ (Ext.refl _)
        have k3 : ∀ W,Keep S y2 W → W.cell? ⟨be,oe + kk * 4 + 3,none⟩ = some (.int .i64 wt) := fun W hW => by rw [World.cell?_of_block (hW.block be (by obtain ⟨b7,o7,h7,h8⟩ := slAt_lt ((unhide hsE').ext (unhide hP).extf) (by intro e9; rw [e9] at hkk; simp at hkk); cases h7; exact h8) (unhide heS))]; exact g3 _ (Ext.refl _)
        have hself := Keep.refl S y2
        clear g2 g3
        refine wp_regionK (P := Tryz.prog) S [0,1,2,3,4,5,6,7,8,9,10,11,12,13] [] 3 #[true,true,true,true,true,true,true,true,true,true,true,true,true,true,false,false,false] (by kernel_rfl) (by kernel_rfl) rfl (by rfl) ?_
        iterate 14
         first
         | (refine ql_skip rfl (by rfl) ?_)
         | (refine ql_want (v := ?_) rfl (by rfl) (fun W hW => ?_) ?_; rotate_left; (go_simp; (first | done | rfl)))
         try go_frame
        refine wpQL_nil (fun y3 hxq => ?_)
        have hK := hide (hxq.keep S)
        replace hP : Hid (Sp w [] w [] [(r2,28, #[.slice A1 nV cA, .slice (some ⟨be,oe,none⟩) nE cB])] [(3,1, .slice Ax m cx,m,xs.flatMap encI)] y3) := hide ((unhide hP).ext hxq)
        clear hxq
        clear q1 k2 k3 hself hwl hke
        refine lx_one (i := 14) (by kernel_rfl) rfl (by rfl) #[true,true,true,true,true,true,true,true,true,true,true,true,true,true,true,false,false] (by rfl) ?_
        refine (unhide hP).allocL (unhide hK) (v := fun b => .slice (some ⟨b,0,none⟩) 3 3) 3 #[.int .i64 1, .int .i64 lab, .int .i64 wt] ?_ ?_
        ·go_simp
        intro bs y4 hQ hK2 hg2
        replace hP : Hid (Sp w [] w [] [(r2,28, #[.slice A1 nV cA, .slice (some ⟨be,oe,none⟩) nE cB]),(bs,3, #[.int .i64 1, .int .i64 lab, .int .i64 wt])] [(3,1, .slice Ax m cx,m,xs.flatMap encI)] y4) := hide hQ
        replace hK := hide hK2
        have hge_bs := hide hg2
        clear hQ hK2 hg2
        try go_frame
        refine lx_one (i := 15) (by kernel_rfl) rfl (by rfl) #[true,true,true,true,true,true,true,true,true,true,true,true,true,true,true,true,false] (by rfl) ?_
        refine (unhide hP).apAL (unhide hK) (enc := encI) (T := 3) (ST := 31) 0 (v := .slice Ax m cx) (m := m) (xs := xs) rfl (fun z hz => .inl (by rw [unhide hS]; exact hz)) infoI Tryz.underlying31 one_encI (fun _ => rfl) (by decide) (by decide) rfl [1,lab,wt] rfl rfl (rfl) (slat_blk (enc := encI) (k := 1) [1,lab,wt] ((unhide hP).get 1 rfl) rfl (fun _ => rfl) (by simp)) (by have := unhide hmb; omega) ?_
        intro Az cAz y5 hQ hK2 hg2
        replace hP : Hid (Sp w [] w [] [(r2,28, #[.slice A1 nV cA, .slice (some ⟨be,oe,none⟩) nE cB]),(bs,3, #[.int .i64 1, .int .i64 lab, .int .i64 wt])] [(3,1, .slice Az (m + 3) cAz,m + 3,(xs ++ [1,lab,wt]).flatMap encI)] y5) := hide hQ
        replace hK := hide hK2
        have hge_Az := hide hg2
        clear hQ hK2 hg2
        try go_frame
        refine lx_one (i := 16) (by kernel_rfl) rfl (by rfl) #[true,true,true,true,true,true,true,true,true,true,true,true,true,true,true,true,true] (by rfl) ?_
        refine (unhide hP).valL (unhide hK) (v := .slice Az (m + 3) cAz) ?_ ?_
        ·go_simp
        intro y6 hQ hK2
        replace hP : Hid (Sp w [] w [] [(r2,28, #[.slice A1 nV cA, .slice (some ⟨be,oe,none⟩) nE cB]),(bs,3, #[.int .i64 1, .int .i64 lab, .int .i64 wt])] [(3,1, .slice Az (m + 3) cAz,m + 3,(xs ++ [1,lab,wt]).flatMap encI)] y6) := hide hQ
        replace hK := hide hK2
        clear hQ hK2
        try go_frame
        refine wpX_done (by kernel_rfl) ?_
        try go_frame
        clear hK
        replace hP : Hid (Sp w [] w [] [(r2,28, #[.slice A1 nV cA, .slice (some ⟨be,oe,none⟩) nE cB])] [(3,1, .slice Az (m + 3) cAz,m + 3,(xs ++ [1,lab,wt]).flatMap encI)] y6) := hide ((unhide hP).sub (List.sublist_append_left _ ([(bs,3, #[.int .i64 1, .int .i64 lab, .int .i64 wt])] : List Cl)) (List.Sublist.refl _))
        go_wp2_with fail
        refine ⟨n - (k + 1), ?_,by have := unhide hhm'; have := unhide hkt'; omega⟩
        rw [unhide hI1_10]
        exact ⟨k + 1,Az,m + 3,cAz,xs ++ [1,lab,wt],(by first | rfl | trivial),(by first | rfl | trivial),(by first | rfl | trivial),(by first | rfl | trivial),(by first | rfl | trivial),(by first | rfl | (show _ = Value.int _ _; go_num) | go_num),(by first | rfl | trivial),by have := unhide hkt'; omega,by have := unhide hjk; omega,(by rw [List.append_assoc]; exact unhide hx2),(by rw [List.length_append, ← unhide hml]; rfl),unhide hP,rfl⟩
      ·skip
       have hil : ¬ (k : Int) < (n : Int) := by omega
       have hx3 := hide (show xs ++ codeP E (L.drop (j + 1)) = codeR V E L by
        have h := unhide hxs
        rw [unhide hj1] at h
        rw [show L.drop k = [] from List.drop_eq_nil_of_le (by have := unhide hn'; omega)] at h
        exact h)
       clear hkt hkn
       try dsimp only
       repeat ((fail_if_success (with_reducible refine wp_reg (id := 11) ?_)); (first | go_values | go_skip | go_step | go_guarded | go_upon | go_in | go_back | fail))
       with_reducible refine wp_reg (id := 11) ?_
       iterate 4
        refine wpO_want rfl ?_
        go_simp
       refine wpO_done ?_
       try go_frame
       clear hil
       go_wp2_with fail
       refine ⟨n - (j + 1), ?_,by have := unhide hgm'; have := unhide hlt'; omega⟩
       rw [unhide hI1_6]
       exact ⟨j + 1,Ax,m,cx,xs,(by first | rfl | trivial),(by first | rfl | trivial),(by first | rfl | trivial),(by first | rfl | trivial),(by first | rfl | (show _ = Value.int _ _; go_num) | go_num),(by first | rfl | trivial),by have := unhide hlt'; omega,unhide hx3,unhide hml,unhide hP,rfl⟩
    ·skip
     have hil : ¬ (j : Int) < (n : Int) := by omega
     have hxe := hide (show xs = codeR V E L by
      have h := unhide hxs
      rw [show L.drop j = [] from List.drop_eq_nil_of_le (by have := unhide hn'; omega)] at h
      exact (List.append_nil xs).symm.trans h)
     clear hlt hjn
     try dsimp only
     repeat ((fail_if_success (with_reducible refine wp_reg (id := 8) ?_)); (first | go_values | go_skip | go_step | go_guarded | go_upon | go_in | go_back | fail))
     with_reducible refine wp_reg (id := 8) ?_
     iterate 4
      refine wpO_want rfl ?_
      go_simp
     refine wpO_done ?_
     try go_frame
     clear hil
     try dsimp only
     repeat ((fail_if_success (with_reducible refine wp_reg (id := 17) ?_)); (first | go_values | go_skip | go_step | go_guarded | go_upon | go_in | go_back | fail))
     with_reducible refine wp_reg (id := 17) ?_
     iterate 2
      refine wpO_want rfl ?_
      go_simp
     refine wpO_done ?_
     try go_frame
     go_wp2_with fail
     refine Sp.leaves0 ?_
     refine ⟨_,results_tmp (t := 4) rfl _ _ _, ?_⟩
     have ho := (unhide hP).row 0 rfl
     rw [unhide hxe] at ho
     exact OwJ.mk (by rw [← unhide hxe]; exact unhide hml) ho (unhide hP).extf
end Go.Proofs.YtbpeemhfjgcnaaaGreat
namespace Go.Proofs.YtbpeemhfjgcnaaaGreat
open Go Go.RowKit Go.Shelf
attribute [local go_sem] qUpon lUpon
attribute [local irreducible] wpO wpX wpQL
theorem Sp.permR {wf w W : World} {T0 : List Nat} {ds : List Deferred} {L : List Cl} {Rs Rs' : List Rw} (h : Sp wf T0 w ds L Rs W) (hp : Rs.Perm Rs') : Sp wf T0 w ds L Rs' W := by
 have h2 : (stT L Rs).Perm (stT L Rs') := List.Perm.append_left _ (hp.flatMap_right _)
 exact h.step (Keep.refl [] W) (by simp) ⟨h.st.cells,fun r hr => h.st.rows r (hp.mem_iff.2 hr),h2.nodup_iff.1 h.st.nd,fun x hx => h.st.ge x (h2.mem_iff.2 hx)⟩ (fun x hx => .inl (h2.mem_iff.2 hx))
theorem Sp.addSt {wf w W W' : World} {T0 : List Nat} {ds : List Deferred} {L : List Cl} {Rs Rs' : List Rw} (h : Sp wf T0 w ds L Rs W) (hx : Ext W W') (hs : St W.heap.size [] Rs' W') : Sp wf T0 w ds L (Rs ++ Rs') W' := by
 have h1 := h.ext hx
 have hsz := h.size
 have he : stT L (Rs ++ Rs') = stT L Rs ++ stT [] Rs' := by
  unfold stT rwT
  rw [List.flatMap_append,List.map_nil,List.nil_append,List.append_assoc]
 refine h.step (hx.keep []) (by simp) ⟨h1.st.cells,fun r hr => ?_, ?_,fun x hx2 => ?_⟩ (fun x hx2 => ?_)
 ·rcases List.mem_append.1 hr with hr | hr
  ·exact h1.st.rows r hr
  ·exact (hs.rows r hr).le hsz
 ·rw [he,List.nodup_append]
  refine ⟨h1.st.nd,hs.nd,fun a ha b hb e => ?_⟩
  have h2 := h.lt a ha
  have h3 := hs.ge b hb
  omega
 ·rw [he] at hx2
  rcases List.mem_append.1 hx2 with h2 | h2
  ·exact h1.st.ge x h2
  ·have := hs.ge x h2
   omega
 ·rw [he] at hx2
  rcases List.mem_append.1 hx2 with h2 | h2
  ·exact .inl h2
  ·exact .inr (hs.ge x h2)
theorem Sp.first_ne {wf w W : World} {T0 : List Nat} {ds : List Deferred} {L : List Cl} {T k n : Nat} {v : Value} {xs : List Value} {Z : List Rw} (h : Sp wf T0 w ds L ((T,k,v,n,xs) :: Z) W) (hk : k ≠ 0) {r : Rw} (hr : r ∈ Z) {g : Nat} (hg : rwB r = some g) : g ∉ v.ownBlock.toList := by
 intro hm
 have hnd := h.st.nd
 unfold stT at hnd
 have h1 := (List.nodup_append.1 hnd).2.1
 rw [show rwT ((T,k,v,n,xs) :: Z) = (rwB (T,k,v,n,xs)).toList ++ rwT Z from rfl,rwB_slice hk] at h1
 exact (List.nodup_append.1 h1).2.2 g hm g (mem_rwT.2 ⟨r,hr,hg⟩) rfl
theorem ss_get {w : World} {A : Option Addr} {n c : Nat} {J : List (Sl × List Int)} (h : St 0 [] (ssR A n c J) w) (hn : n = J.length) (hl : ∀ p ∈ J,p.1.2.1 = p.2.length) {k : Nat} (hk : k < J.length) : ∃ b off,A = some ⟨b,off,none⟩ ∧ b < w.heap.size ∧ (∀ S W,Keep S w W → b ∉ S → W.cell? ⟨b,off + k,none⟩ = some (.slice J[k].1.1 J[k].1.2.1 J[k].1.2.2)) ∧ SlAt encI 1 w J[k].1.1 J[k].2 := by
 have hP := Sp.bare h
 have h0 : SlAt encSl 1 w A (J.map (·.1)) := by
  have h1 := hP.row 0 rfl
  rw [hn, ← List.length_map (f := fun p : Sl × List Int => p.1)] at h1
  exact own_at (enc := encSl) h1 (fun _ => rfl)
 obtain ⟨b,off,hA,hlt,hc⟩ := atSl h0 (i := k) (by rw [List.length_map]; exact hk)
 simp only [List.getElem_map] at hc
 refine ⟨b,off,hA,hlt,hc, ?_⟩
 have h2 : Sp (bare w) (stT [] (ssR A n c J)) w [] [] ((31,1, .slice A n c,n,(J.map (·.1)).flatMap encSl) :: (J.map rowJ ++ [])) w := by rw [List.append_nil]; exact hP
 exact Sp.atJ h2 hk (hl _ (List.getElem_mem hk))
def allT (n : Nat) (L : List Int) (i : Nat) : List (List Int) := (List.range i).flatMap fun i => (allN n (L.eraseIdx i)).map fun r => L.getD i 0 :: r
theorem allT_full {n : Nat} {L : List Int} : allT n L L.length = allN (n + 1) L := rfl
theorem allT_step {n : Nat} {L : List Int} (i : Nat) : allT n L (i + 1) = allT n L i ++ (allN n (L.eraseIdx i)).map fun r => L.getD i 0 :: r := by
 unfold allT
 rw [List.range_succ,List.flatMap_append]
 simp
theorem allT_len {n : Nat} {L : List Int} (hL : L.length = n + 1) : ∀ i,i ≤ n + 1 → (allT n L i).length = i * fact n
 | 0,_ => by simp [allT]
 | i + 1,h => by
  rw [allT_step,List.length_append,List.length_map,allT_len hL i (by omega),allN_len n (L.eraseIdx i) (by rw [List.length_eraseIdx,if_pos (by omega)]; omega),Nat.add_mul,Nat.one_mul]
theorem fact7 : ∀ n,n ≤ 7 → fact n ≤ 5040 := by
 intro n h
 rcases n with _ | _ | _ | _ | _ | _ | _ | _ | n
 all_goals first | decide | omega
def SsO (w : World) (KK : List (List Int)) (e : Ending) (w' : World) : Prop := ∃ A n c J,e = .returned (.slice A n c) ∧ OwSS w.heap.size KK A n c J w' ∧ Ext w w'
theorem map_next8 {α β : Type} (f : α → β) (P : List α) {k : Nat} (h : k < P.length) : (P.take (k + 1)).map f = (P.take k).map f ++ [f P[k]] := by
 rw [List.take_succ_eq_append_getElem h,List.map_append]; rfl
theorem perm_join {hd : Rw} {X M : List Rw} {r : Rw} : (hd :: ((X ++ M) ++ [r])).Perm (hd :: ((X ++ [r]) ++ M)) := by
 refine List.Perm.cons _ ?_
 rw [List.append_assoc,List.append_assoc]
 exact List.Perm.append_left _ (List.perm_append_comm)
set_option maxRecDepth 100000 in
set_option maxHeartbeats 16000000 in
theorem all08_zero (A : Option Addr) (c : Nat) (L : List Int) (w : World) (hL : L = []) :
  Calls Tryz.prog 48 #[.slice A 0 c] w (SsO w (allN 0 L)) := by
 subst hL
 have hP := hide (Sp.new w)
 refine callsIn_wide.1 (callsIn_of_wp_marks (n := 0) Tryz.func48 rfl trivial (wpIn_wide.2 ?_))
 simp only [Tryz.ntmps48,List.size_toArray,List.length_cons,List.length_nil,Nat.reduceAdd,Nat.reduceSub,Array.replicate_succ,Array.replicate_zero,List.push_toArray,List.append_toArray,List.nil_append,List.cons_append]
 try dsimp only
 repeat ((fail_if_success (with_reducible refine wp_reg (id := 1) ?_)); (first | go_values | go_skip | go_step | go_guarded | go_upon | go_in | go_back | fail))
 with_reducible refine wp_reg (id := 1) ?_
 iterate 3
  refine wpO_want rfl ?_
  go_simp
 refine wpO_done ?_
 try go_frame
 try dsimp only
 repeat ((fail_if_success (with_reducible refine wp_reg (id := 2) ?_)); (first | go_values | go_skip | go_step | go_guarded | go_upon | go_in | go_back | fail))
 with_reducible refine wp_reg (id := 2) ?_
 refine (unhide hP).buildO 1 31 #[.slice none 0 0] rfl (by go_simp) ?_
 intro bo y1 hQ
 replace hP : Hid (Sp w [] w [] [(bo,31, #[.slice none 0 0])] [] y1) := hide hQ
 clear hQ
 try go_frame
 refine wpO_want rfl ?_
 go_simp
 refine wpO_done ?_
 try go_frame
 go_wp2_with fail
 replace hP : Hid (Sp w [] w [] [] [(31,1, .slice (some ⟨bo,0,none⟩) 1 1,1,[.slice none 0 0])] y1) := hide (Sp.toRow (L := []) (b := bo) (t := 31) (n := 1) (cs := #[.slice none 0 0]) (unhide hP) rfl (by decide))
 have hst : St w.heap.size [] (ssR (some ⟨bo,0,none⟩) 1 1 [((none,0,0),[])]) y1 := (unhide hP).st.nil 3 1
 refine Sp.leaves0 ?_
 exact ⟨_,results_tmp (t := 2) rfl _ _ _,some ⟨bo,0,none⟩,1,1,[((none,0,0),[])],rfl,⟨rfl,rfl,(fun p hp => by rw [List.mem_singleton] at hp; subst hp; rfl),hst⟩,(unhide hP).extf⟩
set_option maxRecDepth 100000 in
set_option maxHeartbeats 16000000 in
theorem all08_level (n : Nat) (hn7 : n ≤ 7) (ih : ∀ (A : Option Addr) (L : List Int) (c : Nat) (w : World),SlAt encI 1 w A L → n = L.length → n ≤ c → Calls Tryz.prog 48 #[.slice A n c] w (SsO w (allN n L))) (A : Option Addr) (L : List Int) (nl c : Nat) (w : World) (hA : SlAt encI 1 w A L) (hnl : nl = n + 1) (hn : nl = L.length) (hc : nl ≤ c) :
  Calls Tryz.prog 48 #[.slice A nl c] w (SsO w (allN (n + 1) L)) := by
 have hn7' := hide hn7
 have ih' := hide ih
 have hA' := hide hA
 have hnl' := hide hnl
 have hn' := hide hn
 have hc' := hide hc
 have hz : ((nl : Int) == 0) = false := by simp; omega
 have hf7 := hide (fact7 n hn7)
 clear hn7 ih hA hnl hn hc
 have hP := hide (Sp.new w)
 refine callsIn_wide.1 (callsIn_of_wp_marks (n := 0) Tryz.func48 rfl trivial (wpIn_wide.2 ?_))
 simp only [Tryz.ntmps48,List.size_toArray,List.length_cons,List.length_nil,Nat.reduceAdd,Nat.reduceSub,Array.replicate_succ,Array.replicate_zero,List.push_toArray,List.append_toArray,List.nil_append,List.cons_append]
 try dsimp only
 repeat ((fail_if_success (with_reducible refine wp_reg (id := 1) ?_)); (first | go_values | go_skip | go_step | go_guarded | go_upon | go_in | go_back | fail))
 with_reducible refine wp_reg (id := 1) ?_
 iterate 3
  refine wpO_want rfl ?_
  go_simp
 refine wpO_done ?_
 try go_frame
 clear hz
 replace hP : Hid (Sp w [] w [] [] [(31,1, .slice none 0 0,0,([] : List Sl).flatMap encSl)] w) := hide ((unhide hP).nil 31 1)
 go_wp2_with fail
 obtain ⟨I0_2,hI0_20⟩ : ∃ I : Nat → Act → World → Prop,I = fun fi a' wr => ∃ (i : Nat), ∃ (Ax : Option Addr), ∃ (m : Nat), ∃ (cx : Nat), ∃ (Jn : List (Sl × List Int)),a'.tmps.size = 48 ∧ a'.tmps.getD 0 undef = .slice A nl c ∧ a'.tmps.getD 3 undef = .slice Ax m cx ∧ a'.tmps.getD 4 undef = .int .i64 (i : Nat) ∧ a'.defers = [] ∧ i ≤ nl ∧ m = Jn.length ∧ Jn.map (·.2) = allT n L i ∧ (∀ p ∈ Jn,p.1.2.1 = p.2.length) ∧ Sp w [] w [] [] ((31,1, .slice Ax m cx,m,(Jn.map (·.1)).flatMap encSl) :: (Jn.map rowJ)) wr ∧ fi = nl - i := ⟨_,rfl⟩
 have hI0_2 := hide hI0_20
 clear hI0_20
 refine wp_loop_ix I0_2 (nl - 0) ?_ ?_
 ·rw [unhide hI0_2]; exact ⟨0,none,0,0,[],rfl,rfl,rfl,rfl,rfl,Nat.zero_le _,rfl,rfl,(fun p hp => by cases hp),unhide hP,rfl⟩
 ·rintro fi ⟨tm,dfs⟩ wr hrel
  rw [unhide hI0_2] at hrel
  obtain ⟨i,Ax,m,cx,Jn,hsz,e0,e3,e4,hdf,hin,hm0,hJ0,hJl0,hPr,hfm⟩ := hrel
  obtain ⟨us,rfl⟩ : ∃ us : Nat → Value,tm = #[us 0,us 1,us 2,us 3,us 4,us 5,us 6,us 7,us 8,us 9,us 10,us 11,us 12,us 13,us 14,us 15,us 16,us 17,us 18,us 19,us 20,us 21,us 22,us 23,us 24,us 25,us 26,us 27,us 28,us 29,us 30,us 31,us 32,us 33,us 34,us 35,us 36,us 37,us 38,us 39,us 40,us 41,us 42,us 43,us 44,us 45,us 46,us 47] := ⟨fun i => tm.getD i undef,arr_fn hsz⟩
  have h0 : us 0 = .slice A nl c := e0
  have h3 : us 3 = .slice Ax m cx := e3
  have h4 : us 4 = .int .i64 (i : Nat) := e4
  have hdf2 : dfs = [] := hdf
  subst hdf2
  clear hdf hsz e0 e3 e4
  simp only [h0,h3,h4]
  clear h0 h3 h4
  clear hP
  have hP := hide hPr
  have hfm' := hide hfm
  have hm := hide hm0
  have hJ := hide hJ0
  have hJl := hide hJl0
  clear hPr hfm hm0 hJ0 hJl0
  by_cases hlt : i < nl
  ·skip
   have hil : (i : Int) < (nl : Int) := by omega
   have hlt' := hide hlt
   have hiL : i < L.length := by have := unhide hn'; omega
   have hib : (i : Int) ≤ 8 := by have := unhide hn7'; have := unhide hnl'; omega
   have hmb := hide (show m ≤ 35280 by
    rw [unhide hm, ← List.length_map (f := fun p : Sl × List Int => p.2),unhide hJ,allT_len (by rw [← unhide hn',unhide hnl']) i (by have := unhide hnl'; omega)]
    have h1 : i * fact n ≤ 7 * 5040 := Nat.mul_le_mul (by have := unhide hn7'; have := unhide hnl'; omega) (unhide hf7)
    omega)
   have hst := hide (allT_step (n := n) (L := L) i)
   have hel := hide (show n = (L.eraseIdx i).length by rw [List.length_eraseIdx,if_pos hiL]; have := unhide hn'; have := unhide hnl'; omega)
   obtain ⟨b,off,rfl,c0⟩ := atI ((unhide hA').ext (unhide hP).extf) hiL
   obtain ⟨x,hx0⟩ : ∃ x,x = L.getD i 0 := ⟨_,rfl⟩
   rw [← getD_at hiL, ← hx0] at c0
   rw [← hx0] at hst
   have hxd9 := hide hx0
   have hbw := hide (show b < w.heap.size by
    obtain ⟨b7,o7,h7,h8⟩ := slAt_lt (unhide hA') (by intro e9; rw [e9] at hiL; simp at hiL)
    cases h7
    exact h8)
   have hself := Ext.refl wr
   clear hx0 hlt c0
   try dsimp only
   repeat ((fail_if_success (with_reducible refine wp_reg (id := 5) ?_)); (first | go_values | go_skip | go_step | go_guarded | go_upon | go_in | go_back | fail))
   with_reducible refine wp_reg (id := 5) ?_
   iterate 4
    refine wpO_want rfl ?_
    go_simp
   refine wpO_done ?_
   try go_frame
   clear hself
   go_wp2_with fail
   have hi1w : IntKind.i64.wrap ((i : Int) + 1) = ((i + 1 : Nat) : Int) := by rw [IntKind.wrap_i64]; omega
   refine wp_regionK (P := Tryz.prog) [] [1,2,3,5,6,7,8] [] 5 #[false,true,true,true,false,true,true,true,true,false,false,false] (by kernel_rfl) (by kernel_rfl) rfl (by rfl) ?_
   iterate 2
    refine ql_want (v := ?_) rfl (by rfl) (fun W hW => ?_) ?_
    rotate_left
    ·go_simp
     first | done | rfl
    go_frame
   refine ql_want (v := .slice (some ⟨b,off,none⟩) i c) rfl (by rfl) (fun W hW => by rw [run_sl_to (k := i) rfl rfl (by rfl) Tryz.underlying31 (Tryz.sizeOf3 W) (by have := unhide hlt'; have := unhide hc'; omega)]; exact qUpon_value (Ext.refl _)) ?_
   go_frame
   iterate 2
    refine ql_want (v := ?_) rfl (by rfl) (fun W hW => ?_) ?_
    rotate_left
    ·go_simp
     first | done | rfl
    go_frame
   refine ql_want (v := .int .i64 ((i + 1 : Nat) : Int)) rfl (by rfl) (fun W hW => ?_) ?_
   ·go_simp
    first | done | rfl
   go_frame
   obtain ⟨AM,hAM⟩ : ∃ A,A = restA (some ⟨b,off,none⟩) (i + 1) c 1 := ⟨_,rfl⟩
   obtain ⟨cM,hcM⟩ : ∃ m,m = c - (i + 1) := ⟨_,rfl⟩
   obtain ⟨ni,hni⟩ : ∃ m,m = nl - (i + 1) := ⟨_,rfl⟩
   refine ql_want (v := .slice AM ni cM) rfl (by rfl) (fun W hW => by rw [run_sl_from (k := i + 1) rfl rfl (by rfl) Tryz.underlying31 (Tryz.sizeOf3 W) (by have := unhide hlt'; omega),hAM,hcM,hni]; exact qUpon_value (Ext.refl _)) ?_
   go_frame
   have hsM := hide (fun (W : World) (hW : Ext w W) => show SlAt encI 1 W AM (L.drop (i + 1)) from by rw [hAM]; exact SlAt.rest ((unhide hA').ext hW) (i + 1) c (by rw [← unhide hn']; exact unhide hc'))
   have hni' := hide hni
   clear hAM hcM hni
   refine wpQL_nil (fun y1 hxq => ?_)
   have hK := hide (hxq.keep [])
   replace hP : Hid (Sp w [] w [] [] ((31,1, .slice Ax m cx,m,(Jn.map (·.1)).flatMap encSl) :: (Jn.map rowJ)) y1) := hide ((unhide hP).ext hxq)
   clear hxq
   clear hi1w
   refine lx_one (i := 0) (by kernel_rfl) rfl (by rfl) #[true,true,true,true,false,true,true,true,true,false,false,false] (by rfl) ?_
   refine (unhide hP).allocL (unhide hK) (v := fun b => .slice (some ⟨b,0,none⟩) 0 0) 3 #[] ?_ ?_
   ·go_simp
   intro be y2 hQ hK2 hg2
   replace hP : Hid (Sp w [] w [] [(be,3, #[])] ((31,1, .slice Ax m cx,m,(Jn.map (·.1)).flatMap encSl) :: (Jn.map rowJ)) y2) := hide hQ
   replace hK := hide hK2
   have hge_be := hide hg2
   clear hQ hK2 hg2
   try go_frame
   replace hP : Hid (Sp w [] w [] [(be,3, #[])] ((31,1, .slice Ax m cx,m,(Jn.map (·.1)).flatMap encSl) :: ((Jn.map rowJ ++ ([] : List Rw)))) y2) := hide (by have h := unhide hP; rw [← List.append_nil (Jn.map rowJ)] at h; exact h)
   replace hP : Hid (Sp w [] w [] [] ((31,1, .slice Ax m cx,m,(Jn.map (·.1)).flatMap encSl) :: ((Jn.map rowJ ++ ([] : List Rw)) ++ [(3,1, .slice (some ⟨be,0,none⟩) 0 0,0,([] : List Int).flatMap encI)])) y2) := hide (Sp.toRow (L := []) (b := be) (t := 3) (n := 0) (cs := #[]) (unhide hP) rfl (by decide))
   refine lx_one (i := 4) (by kernel_rfl) rfl (by rfl) #[true,true,true,true,true,true,true,true,true,false,false,false] (by rfl) ?_
   refine (unhide hP).apAL (unhide hK) (enc := encI) (T := 3) (ST := 31) ((Jn.map rowJ ++ ([] : List Rw)).length + 1) (v := .slice (some ⟨be,0,none⟩) 0 0) (m := 0) (xs := ([] : List Int)) (get_tail _ _ _) (fun z hz => by simp [Value.ownBlock] at hz; subst hz; exact .inr (unhide hge_be)) infoI Tryz.underlying31 one_encI (fun _ => rfl) (by decide) (by decide) rfl (L.take i) rfl rfl (by rw [List.length_take]; have := unhide hlt'; have := unhide hn'; omega) (((unhide hA').ext (unhide hP).extf).upto i) (by omega) ?_
   intro A7 cA7 y3 hQ hK2 hg2
   rw [set_tail] at hQ
   obtain ⟨n7,hnv⟩ : ∃ nz9,nz9 = 0 + i := ⟨_,rfl⟩
   rw [← hnv] at hQ hg2 ⊢
   have hn7 := hide hnv
   have hge_A7 := hide hg2
   clear hnv
   replace hP : Hid (Sp w [] w [] [] ((31,1, .slice Ax m cx,m,(Jn.map (·.1)).flatMap encSl) :: ((Jn.map rowJ ++ ([] : List Rw)) ++ [(3,1, .slice A7 n7 cA7,n7,(([] : List Int) ++ (L.take i)).flatMap encI)])) y3) := hide hQ
   replace hK := hide hK2
   clear hQ hK2 hg2
   try go_frame
   refine lx_one (i := 9) (by kernel_rfl) rfl (by rfl) #[true,true,true,true,true,true,true,true,true,true,false,false] (by rfl) ?_
   refine (unhide hP).apAL (unhide hK) (enc := encI) (T := 3) (ST := 31) ((Jn.map rowJ ++ ([] : List Rw)).length + 1) (v := .slice A7 n7 cA7) (m := n7) (xs := ([] ++ L.take i)) (get_tail _ _ _) (unhide hge_A7) infoI Tryz.underlying31 one_encI (fun _ => rfl) (by decide) (by decide) rfl (L.drop (i + 1)) rfl rfl (by rw [List.length_drop,unhide hni',unhide hn']) (unhide hsM _ (unhide hP).extf) (by have := unhide hn7; have := unhide hni'; have := unhide hn'; have := unhide hnl'; have := unhide hn7'; omega) ?_
   intro A8 cA8 y4 hQ hK2 hg2
   rw [set_tail] at hQ
   obtain ⟨n8,hnv⟩ : ∃ nz9,nz9 = n7 + ni := ⟨_,rfl⟩
   rw [← hnv] at hQ hg2 ⊢
   have hn8 := hide hnv
   have hge_A8 := hide hg2
   clear hnv
   replace hP : Hid (Sp w [] w [] [] ((31,1, .slice Ax m cx,m,(Jn.map (·.1)).flatMap encSl) :: ((Jn.map rowJ ++ ([] : List Rw)) ++ [(3,1, .slice A8 n8 cA8,n8,(([] ++ L.take i) ++ (L.drop (i + 1))).flatMap encI)])) y4) := hide hQ
   replace hK := hide hK2
   clear hQ hK2 hg2
   try go_frame
   refine lx_one (i := 10) (by kernel_rfl) rfl (by rfl) #[true,true,true,true,true,true,true,true,true,true,true,false] (by rfl) ?_
   have hel2 : ([] ++ L.take i) ++ L.drop (i + 1) = L.eraseIdx i := by rw [List.nil_append,List.eraseIdx_eq_take_drop_succ]
   rw [hel2] at hP
   have hn8b : n8 = (L.eraseIdx i).length := by
    rw [← hel2,List.length_append,List.nil_append,List.length_take,List.length_drop]
    have := unhide hn8
    have := unhide hn7
    have := unhide hni'
    have := unhide hn'
    have := unhide hlt'
    omega
   obtain rfl : n = n8 := by rw [hn8b]; exact unhide hel
   clear hel2 hn8b
   go_simp
   have hca := unhide ih' A8 (L.eraseIdx i) cA8 y4 (own_at (enc := encI) (by have h := (unhide hP).row ((Jn.map rowJ ++ ([] : List Rw)).length + 1) (get_tail _ _ _); rw [unhide hel] at h; exact h) (fun _ => rfl)) (unhide hel) (own_cap ((unhide hP).row ((Jn.map rowJ ++ ([] : List Rw)).length + 1) (get_tail _ _ _)))
   refine hca.mono ?_
   clear hca
   rintro _ zy5 ⟨A5,q,c5,J5,rfl,hos,hxc⟩
   obtain ⟨KK,hKK0⟩ : ∃ K,K = allN n (L.eraseIdx i) := ⟨_,rfl⟩
   rw [← hKK0] at hos hst
   have hKl := hide (show KK.length ≤ 5040 by rw [hKK0,allN_len n _ (unhide hel).symm]; exact unhide hf7)
   have hKm := hide (show ∀ K ∈ KK,K.length = n from fun K hK => by rw [hKK0] at hK; rw [((mem_allN n _ (unhide hel).symm K).1 hK).length_eq]; exact (unhide hel).symm)
   have hqn := hide hos.at.2
   have hq1 := hide hos.1
   have hq2 := hide hos.2.1
   have hq3 := hide hos.2.2.1
   have hst5 := hos.2.2.2
   refine ⟨_,rfl,(unhide hK).trans (hxc.keep _),fun y5 hxd => ?_⟩
   have hP5 := ((unhide hP).addSt hxc hst5).ext hxd
   replace hP : Hid (Sp w [] w [] [] ((31,1, .slice Ax m cx,m,(Jn.map (·.1)).flatMap encSl) :: ((Jn.map rowJ ++ ssR A5 q c5 J5))) y5) := hide (hP5.sub (List.Sublist.refl _) (List.Sublist.cons_cons _ (by
    rw [List.append_nil]
    exact List.Sublist.append (List.sublist_append_left _ _) (List.Sublist.refl _))))
   replace hK := hide ((unhide hK).trans ((hxc.trans hxd).keep _))
   clear hP5 hst5 hos hxc hxd hKK0 hel hsM hge_be hge_A7 hge_A8
   try go_frame
   refine lx_one (i := 11) (by kernel_rfl) rfl (by rfl) #[true,true,true,true,true,true,true,true,true,true,true,true] (by rfl) ?_
   refine (unhide hP).valL (unhide hK) (v := .slice A5 q c5) ?_ ?_
   ·go_simp
   intro y6 hQ hK2
   replace hP : Hid (Sp w [] w [] [] ((31,1, .slice Ax m cx,m,(Jn.map (·.1)).flatMap encSl) :: ((Jn.map rowJ ++ ssR A5 q c5 J5))) y6) := hide hQ
   replace hK := hide hK2
   clear hQ hK2
   try go_frame
   refine wpX_done (by kernel_rfl) ?_
   try go_frame
   clear hK
   go_wp2_with fail
   obtain ⟨PP,hPP0⟩ : ∃ P,P = allT n L i := ⟨_,rfl⟩
   rw [← hPP0] at hJ hst
   clear hPP0
   obtain ⟨wo,hwo⟩ : ∃ wo,wo = wr := ⟨_,rfl⟩
   subst hwo
   obtain ⟨I6_6,hI6_60⟩ : ∃ I : Nat → Act → World → Prop,I = fun fk a' wr => ∃ (k : Nat), ∃ (Ax : Option Addr), ∃ (m : Nat), ∃ (cx : Nat), ∃ (Jn : List (Sl × List Int)),a'.tmps.size = 48 ∧ a'.tmps.getD 0 undef = .slice (some ⟨b,off,none⟩) nl c ∧ a'.tmps.getD 3 undef = .slice Ax m cx ∧ a'.tmps.getD 4 undef = .int .i64 (i : Nat) ∧ a'.tmps.getD 5 undef = .slice A5 q c5 ∧ a'.tmps.getD 6 undef = .int .i64 (k : Nat) ∧ a'.defers = [] ∧ k ≤ q ∧ m = Jn.length ∧ (Jn.map (·.2) = PP ++ (KK.take k).map (fun r => x :: r)) ∧ (∀ p ∈ Jn,p.1.2.1 = p.2.length) ∧ Sp w [] w [] [] ((31,1, .slice Ax m cx,m,(Jn.map (·.1)).flatMap encSl) :: ((Jn.map rowJ ++ ssR A5 q c5 J5))) wr ∧ fk = q - k := ⟨_,rfl⟩
   have hI6_6 := hide hI6_60
   clear hI6_60
   refine wp_loop_ix I6_6 (q - 0) ?_ ?_
   ·rw [unhide hI6_6]; exact ⟨0,Ax,m,cx,Jn,rfl,rfl,rfl,rfl,rfl,rfl,rfl,Nat.zero_le _,unhide hm,by rw [unhide hJ]; simp,unhide hJl,unhide hP,rfl⟩
   ·rintro fk ⟨tm,dfs⟩ wr hrel
    rw [unhide hI6_6] at hrel
    obtain ⟨k,Ax,m,cx,Jn,hsz,e0,e3,e4,e5,e6,hdf,hkq,hm0,hJ0,hJl0,hPs,hgm⟩ := hrel
    obtain ⟨us,rfl⟩ : ∃ us : Nat → Value,tm = #[us 0,us 1,us 2,us 3,us 4,us 5,us 6,us 7,us 8,us 9,us 10,us 11,us 12,us 13,us 14,us 15,us 16,us 17,us 18,us 19,us 20,us 21,us 22,us 23,us 24,us 25,us 26,us 27,us 28,us 29,us 30,us 31,us 32,us 33,us 34,us 35,us 36,us 37,us 38,us 39,us 40,us 41,us 42,us 43,us 44,us 45,us 46,us 47] := ⟨fun i => tm.getD i undef,arr_fn hsz⟩
    have h0 : us 0 = .slice (some ⟨b,off,none⟩) nl c := e0
    have h3 : us 3 = .slice Ax m cx := e3
    have h4 : us 4 = .int .i64 (i : Nat) := e4
    have h5 : us 5 = .slice A5 q c5 := e5
    have h6 : us 6 = .int .i64 (k : Nat) := e6
    have hdf2 : dfs = [] := hdf
    subst hdf2
    clear hdf hsz e0 e3 e4 e5 e6
    simp only [h0,h3,h4,h5,h6]
    clear h0 h3 h4 h5 h6
    have hPb := hide (show PP.length ≤ 35280 by rw [← unhide hJ,List.length_map, ← unhide hm]; exact unhide hmb)
    clear hP hm hJ hJl hmb
    have hP := hide hPs
    have hgm' := hide hgm
    have hm := hide hm0
    have hJ := hide hJ0
    have hJl := hide hJl0
    clear hPs hgm hm0 hJ0 hJl0
    by_cases hkt : k < q
    ·skip
     have hil : (k : Int) < (q : Int) := by omega
     have hkt' := hide hkt
     have hkK : k < KK.length := by rw [← unhide hqn]; exact hkt
     have hkb : (k : Int) ≤ 5040 := by have := unhide hKl; have := unhide hqn; omega
     have hmb := hide (show m ≤ 40320 by
      rw [unhide hm, ← List.length_map (f := fun p : Sl × List Int => p.2),unhide hJ,List.length_append,List.length_map,List.length_take]
      have := unhide hKl
      have := unhide hPb
      omega)
     have hmn := hide (map_next8 (fun r => x :: r) KK hkK)
     obtain ⟨S,hS0⟩ : ∃ S,S = (Value.slice Ax m cx).ownBlock.toList := ⟨_,rfl⟩
     have hS := hide hS0
     have hkJ : k < J5.length := by rw [← unhide hq1]; exact hkt
     obtain ⟨b5,o5,rfl,_,hcell,hKs0⟩ := ss_get (((unhide hP).st.sub (List.Sublist.refl _) (show (ssR A5 q c5 J5).Sublist _ from (List.sublist_append_right _ _).trans (List.sublist_cons_self _ _))).down) (unhide hq1) (unhide hq3) hkJ
     have hbS := hide (show b5 ∉ S from by
      rw [hS0]
      refine Sp.first_ne (unhide hP) (by decide) (r := (31,1, .slice (some ⟨b5,o5,none⟩) q c5,q,(J5.map (·.1)).flatMap encSl)) (List.mem_append.2 (.inr (List.mem_cons_self ..))) ?_
      rfl)
     have hKq := hide (show J5[k].2 = KK[k] from by
      have h := congrArg (fun l : List (List Int) => l[k]?) (unhide hq2)
      change (J5.map (·.2))[k]? = KK[k]? at h
      rw [List.getElem?_map,List.getElem?_eq_getElem hkJ,List.getElem?_eq_getElem hkK] at h
      exact Option.some.inj h)
     have hlq := unhide hq3 _ (List.getElem_mem hkJ)
     have hakS := hide (show ∀ b0 o0,J5[k].1.1 = some ⟨b0,o0,none⟩ → b0 ∉ S from fun b0 o0 e0 => by
      rw [hS0]
      refine Sp.first_ne (unhide hP) (by decide) (r := rowJ J5[k]) (List.mem_append.2 (.inr (List.mem_cons_of_mem _ (List.mem_map.2 ⟨_,List.getElem_mem hkJ,rfl⟩)))) ?_
      unfold rowJ
      rw [e0]
      rfl)
     have hbS2 := hide (show b ∉ S from fun hm9 => by
      rw [hS0] at hm9
      have h1 := (own_base ((unhide hP).row 0 rfl) (by simpa using hm9)).1
      have := unhide hbw
      omega)
     have hKn0 : KK[k].length = n := unhide hKm _ (List.getElem_mem hkK)
     obtain ⟨⟨⟨ak,nk,ck⟩,K⟩,hp5⟩ : ∃ p,p = J5[k] := ⟨_,rfl⟩
     have hKe := unhide hKq
     rw [← hp5] at hcell hKs0 hakS hKe hlq
     dsimp only at hcell hKs0 hakS hKe hlq
     rw [← hKe] at hmn hKn0
     obtain rfl : n = nk := by rw [hlq,hKn0]
     have hKn := hide hKn0
     have hKs := hide hKs0
     have q5 : ∀ W,Keep S wr W → W.cell? ⟨b5,o5 + k,none⟩ = some (.slice ak n ck) := fun W hW => hcell S W hW (unhide hbS)
     have c0 : ∀ W,Keep S wr W → W.cell? ⟨b,off + i,none⟩ = some (.int .i64 x) := fun W hW => by
      obtain ⟨b9,o9,h9,h8⟩ := atI ((unhide hA').ext (unhide hP).extf) hiL
      cases h9
      have h7 := h8 wr (Ext.refl _)
      rw [World.cell?_of_block (hW.block b (Nat.lt_of_lt_of_le (unhide hbw) (unhide hP).size) (unhide hbS2)),h7, ← getD_at hiL, ← unhide hxd9]
     have hself := Keep.refl S wr
     have hiln : (i : Int) < (nl : Int) := by have := unhide hlt'; omega
     clear hcell hKs0 hKn0 hKe hlq hp5 hKq hkt hS0
     try dsimp only
     repeat ((fail_if_success (with_reducible refine wp_reg (id := 9) ?_)); (first | go_values | go_skip | go_step | go_guarded | go_upon | go_in | go_back | fail))
     with_reducible refine wp_reg (id := 9) ?_
     iterate 4
      refine wpO_want rfl ?_
      go_simp
     refine wpO_done ?_
     try go_frame
     go_wp2_with fail
     refine wp_regionK (P := Tryz.prog) S [0,1,2,3,4,6,7,8,9] [] 5 #[true,true,true,true,true,false,true,true,true,true,false,false,false,false] (by kernel_rfl) (by kernel_rfl) rfl (by rfl) ?_
     iterate 9
      first
      | (refine ql_skip rfl (by rfl) ?_)
      | (refine ql_want (v := ?_) rfl (by rfl) (fun W hW => ?_) ?_; rotate_left; (go_simp; (first | done | rfl)))
      try go_frame
     refine wpQL_nil (fun y7 hxq => ?_)
     have hK := hide (hxq.keep S)
     replace hP : Hid (Sp w [] w [] [] ((31,1, .slice Ax m cx,m,(Jn.map (·.1)).flatMap encSl) :: ((Jn.map rowJ ++ ssR (some ⟨b5,o5,none⟩) q c5 J5))) y7) := hide ((unhide hP).ext hxq)
     clear hxq
     clear q5 c0 hself hiln hil
     refine lx_one (i := 5) (by kernel_rfl) rfl (by rfl) #[true,true,true,true,true,true,true,true,true,true,false,false,false,false] (by rfl) ?_
     refine (unhide hP).allocL (unhide hK) (v := fun b => .slice (some ⟨b,0,none⟩) 1 1) 3 #[.int .i64 x] ?_ ?_
     ·exact run_build1 rfl rfl
     intro bt y8 hQ hK2 hg2
     replace hP : Hid (Sp w [] w [] [(bt,3, #[.int .i64 x])] ((31,1, .slice Ax m cx,m,(Jn.map (·.1)).flatMap encSl) :: ((Jn.map rowJ ++ ssR (some ⟨b5,o5,none⟩) q c5 J5))) y8) := hide hQ
     replace hK := hide hK2
     have hge_bt := hide hg2
     clear hQ hK2 hg2
     try go_frame
     replace hP : Hid (Sp w [] w [] [] ((31,1, .slice Ax m cx,m,(Jn.map (·.1)).flatMap encSl) :: ((Jn.map rowJ ++ ssR (some ⟨b5,o5,none⟩) q c5 J5) ++ [(3,1, .slice (some ⟨bt,0,none⟩) 1 1,1,[x].flatMap encI)])) y8) := hide (Sp.toRow (L := []) (b := bt) (t := 3) (n := 1) (cs := #[.int .i64 x]) (unhide hP) rfl (by decide))
     refine lx_one (i := 10) (by kernel_rfl) rfl (by rfl) #[true,true,true,true,true,true,true,true,true,true,true,false,false,false] (by rfl) ?_
     refine (unhide hP).apAL (unhide hK) (enc := encI) (T := 3) (ST := 31) ((Jn.map rowJ ++ ssR (some ⟨b5,o5,none⟩) q c5 J5).length + 1) (v := .slice (some ⟨bt,0,none⟩) 1 1) (m := 1) (xs := [x]) (get_tail _ _ _) (fun z hz => by simp [Value.ownBlock] at hz; subst hz; exact .inr (unhide hge_bt)) infoI Tryz.underlying31 one_encI (fun _ => rfl) (by decide) (by decide) rfl K rfl rfl (unhide hKn) ((unhide hKs).keepS (unhide hK) (fun b0 o0 e0 => unhide hakS b0 o0 e0)) (by have := unhide hn7'; omega) ?_
     intro A9 cA9 y9 hQ hK2 hg2
     rw [set_tail] at hQ
     obtain ⟨n9,hnv⟩ : ∃ nz9,nz9 = 1 + n := ⟨_,rfl⟩
     rw [← hnv] at hQ hg2 ⊢
     have hn9 := hide hnv
     have hge_A9 := hide hg2
     clear hnv
     replace hP : Hid (Sp w [] w [] [] ((31,1, .slice Ax m cx,m,(Jn.map (·.1)).flatMap encSl) :: ((Jn.map rowJ ++ ssR (some ⟨b5,o5,none⟩) q c5 J5) ++ [(3,1, .slice A9 n9 cA9,n9,([x] ++ K).flatMap encI)])) y9) := hide hQ
     replace hK := hide hK2
     clear hQ hK2 hg2
     try go_frame
     refine lx_one (i := 11) (by kernel_rfl) rfl (by rfl) #[true,true,true,true,true,true,true,true,true,true,true,true,false,false] (by rfl) ?_
     refine (unhide hP).allocL (unhide hK) (v := fun b => .slice (some ⟨b,0,none⟩) 1 1) 31 #[.slice A9 n9 cA9] ?_ ?_
     ·exact run_buildSl rfl rfl
     intro bs y10 hQ hK2 hg2
     replace hP : Hid (Sp w [] w [] [(bs,31, #[.slice A9 n9 cA9])] ((31,1, .slice Ax m cx,m,(Jn.map (·.1)).flatMap encSl) :: ((Jn.map rowJ ++ ssR (some ⟨b5,o5,none⟩) q c5 J5) ++ [(3,1, .slice A9 n9 cA9,n9,([x] ++ K).flatMap encI)])) y10) := hide hQ
     replace hK := hide hK2
     have hge_bs := hide hg2
     clear hQ hK2 hg2
     try go_frame
     refine lx_one (i := 12) (by kernel_rfl) rfl (by rfl) #[true,true,true,true,true,true,true,true,true,true,true,true,true,false] (by rfl) ?_
     refine (unhide hP).ap1L (unhide hK) (enc := encSl) (T := 31) (ST := 42) 0 (v := .slice Ax m cx) (m := m) (xs := Jn.map (·.1)) rfl (fun z hz => .inl (by rw [unhide hS]; exact hz)) infoSl Tryz.underlying42 one_encSl (fun _ => rfl) (by decide) (by decide) rfl (A9,n9,cA9) rfl rfl ((unhide hP).get 0 rfl) (by have := unhide hmb; omega) ?_
     intro A4 cA4 y11 hQ hK2 hg2
     replace hP : Hid (Sp w [] w [] [(bs,31, #[.slice A9 n9 cA9])] ((31,1, .slice A4 (m + 1) cA4,m + 1,((Jn.map fun p : Sl × List Int => p.1) ++ [((A9,n9,cA9) : Sl)]).flatMap encSl) :: ((Jn.map rowJ ++ ssR (some ⟨b5,o5,none⟩) q c5 J5) ++ [(3,1, .slice A9 n9 cA9,n9,([x] ++ K).flatMap encI)])) y11) := hide hQ
     replace hK := hide hK2
     clear hQ hK2 hg2
     try go_frame
     replace hP : Hid (Sp w [] w [] [] ((31,1, .slice A4 (m + 1) cA4,m + 1,((Jn.map fun p : Sl × List Int => p.1) ++ [((A9,n9,cA9) : Sl)]).flatMap encSl) :: ((Jn.map rowJ ++ ssR (some ⟨b5,o5,none⟩) q c5 J5) ++ [(3,1, .slice A9 n9 cA9,n9,([x] ++ K).flatMap encI)])) y11) := hide ((unhide hP).sub (List.sublist_append_left _ ([(bs,31, #[.slice A9 n9 cA9])] : List Cl)) (List.Sublist.refl _))
     refine lx_one (i := 13) (by kernel_rfl) rfl (by rfl) #[true,true,true,true,true,true,true,true,true,true,true,true,true,true] (by rfl) ?_
     refine (unhide hP).valL (unhide hK) (v := .slice A4 (m + 1) cA4) ?_ ?_
     ·go_simp
     intro y12 hQ hK2
     replace hP : Hid (Sp w [] w [] [] ((31,1, .slice A4 (m + 1) cA4,m + 1,((Jn.map fun p : Sl × List Int => p.1) ++ [((A9,n9,cA9) : Sl)]).flatMap encSl) :: ((Jn.map rowJ ++ ssR (some ⟨b5,o5,none⟩) q c5 J5) ++ [(3,1, .slice A9 n9 cA9,n9,([x] ++ K).flatMap encI)])) y12) := hide hQ
     replace hK := hide hK2
     clear hQ hK2
     try go_frame
     refine wpX_done (by kernel_rfl) ?_
     try go_frame
     clear hK
     go_wp2_with fail
     replace hP : Hid (Sp w [] w [] [] ((31,1, .slice A4 (m + 1) cA4,m + 1,((Jn ++ [(((A9,n9,cA9),x :: K) : Sl × List Int)]).map (·.1)).flatMap encSl) :: (((Jn ++ [(((A9,n9,cA9),x :: K) : Sl × List Int)]).map rowJ ++ ssR (some ⟨b5,o5,none⟩) q c5 J5))) y12) := hide (by
      have h := (unhide hP).permR perm_join
      rw [List.map_append,List.map_append]
      exact h)
     refine ⟨q - (k + 1), ?_,by have := unhide hgm'; have := unhide hkt'; omega⟩
     rw [unhide hI6_6]
     exact ⟨k + 1,A4,m + 1,cA4,Jn ++ [((A9,n9,cA9),x :: K)],(by first | rfl | trivial),(by first | rfl | trivial),(by first | rfl | trivial),(by first | rfl | trivial),(by first | rfl | trivial),(by first | rfl | (show _ = Value.int _ _; go_num) | go_num),(by first | rfl | trivial),by have := unhide hkt'; omega,(by rw [List.length_append, ← unhide hm]; rfl),(by rw [List.map_append,unhide hJ,unhide hmn,List.append_assoc]; rfl),(fun p hp => by
      rcases List.mem_append.1 hp with hp | hp
      ·exact unhide hJl p hp
      ·rw [List.mem_singleton] at hp; subst hp; show n9 = _; rw [unhide hn9,List.length_cons,unhide hKn]; omega),unhide hP,rfl⟩
    ·skip
     have hil : ¬ (k : Int) < (q : Int) := by omega
     have hJn := hide (show Jn.map (·.2) = allT n L (i + 1) by rw [unhide hJ,unhide hst,List.take_of_length_le (by have := unhide hqn; omega)])
     clear hkt hkq
     try dsimp only
     repeat ((fail_if_success (with_reducible refine wp_reg (id := 9) ?_)); (first | go_values | go_skip | go_step | go_guarded | go_upon | go_in | go_back | fail))
     with_reducible refine wp_reg (id := 9) ?_
     iterate 4
      refine wpO_want rfl ?_
      go_simp
     refine wpO_done ?_
     try go_frame
     clear hil
     go_wp2_with fail
     have hp9 := (unhide hP).sub (List.Sublist.refl _) (List.Sublist.cons_cons _ (List.sublist_append_left (Jn.map rowJ) (ssR A5 q c5 J5)))
     refine ⟨nl - (i + 1), ?_,by have := unhide hfm'; have := unhide hlt'; omega⟩
     rw [unhide hI0_2]
     exact ⟨i + 1,Ax,m,cx,Jn,(by first | rfl | trivial),(by first | rfl | trivial),(by first | rfl | trivial),(by first | rfl | (show _ = Value.int _ _; go_num) | go_num),(by first | rfl | trivial),by have := unhide hlt'; omega,unhide hm,unhide hJn,unhide hJl,hp9,rfl⟩
  ·skip
   have hil : ¬ (i : Int) < (nl : Int) := by omega
   have hJe := hide (show Jn.map (·.2) = allN (n + 1) L by rw [unhide hJ, ← allT_full,show i = L.length by have := unhide hn'; omega])
   clear hlt hin
   try dsimp only
   repeat ((fail_if_success (with_reducible refine wp_reg (id := 5) ?_)); (first | go_values | go_skip | go_step | go_guarded | go_upon | go_in | go_back | fail))
   with_reducible refine wp_reg (id := 5) ?_
   iterate 4
    refine wpO_want rfl ?_
    go_simp
   refine wpO_done ?_
   try go_frame
   clear hil
   try dsimp only
   repeat ((fail_if_success (with_reducible refine wp_reg (id := 12) ?_)); (first | go_values | go_skip | go_step | go_guarded | go_upon | go_in | go_back | fail))
   with_reducible refine wp_reg (id := 12) ?_
   iterate 2
    refine wpO_want rfl ?_
    go_simp
   refine wpO_done ?_
   try go_frame
   go_wp2_with fail
   refine Sp.leaves0 ?_
   exact ⟨_,results_tmp (t := 2) rfl _ _ _,Ax,m,cx,Jn,rfl,⟨unhide hm,unhide hJe,unhide hJl,(unhide hP).st⟩,(unhide hP).extf⟩
theorem all08_any : ∀ (n : Nat),n ≤ 8 → ∀ (A : Option Addr) (L : List Int) (c : Nat) (w : World),SlAt encI 1 w A L → n = L.length → n ≤ c → Calls Tryz.prog 48 #[.slice A n c] w (SsO w (allN n L)) := by
 intro n
 induction n with
 | zero => intro _ A L c w _ hn _; exact all08_zero A c L w (List.eq_nil_of_length_eq_zero hn.symm)
 | succ n ih => intro h8 A L c w hA hn hc; exact all08_level n (by omega) (ih (by omega)) A L (n + 1) c w hA rfl hn hc
end Go.Proofs.YtbpeemhfjgcnaaaGreat
namespace Go.Proofs.YtbpeemhfjgcnaaaGreat
open Go Go.RowKit Go.Shelf
attribute [local go_sem] qUpon lUpon
attribute [local irreducible] wpO wpX wpQL
set_option maxRecDepth 100000 in
set_option maxHeartbeats 16000000 in
theorem ids08_any (A B : Option Addr) (V : List (Int × Thing)) (n m cA cB : Nat) (w : World) (hV : SlAt encV 3 w A V) (hn : n = V.length) (hl : n ≤ 100000) :
  Calls Tryz.prog 49 #[.agg #[.slice A n cA, .slice B m cB]] w (OwJ w (idsV V)) := by
 have hV' := hide hV
 have hn' := hide hn
 have hl' := hide hl
 have hil0 := hide (show n = (idsV V).length by rw [idsV_len,hn])
 clear hV hn hl
 have hP := hide (Sp.new w)
 refine callsIn_wide.1 (callsIn_of_wp_marks (n := 0) Tryz.func49 rfl trivial (wpIn_wide.2 ?_))
 simp only [Tryz.ntmps49,List.size_toArray,List.length_cons,List.length_nil,Nat.reduceAdd,Nat.reduceSub,Array.replicate_succ,Array.replicate_zero,List.push_toArray,List.append_toArray,List.nil_append,List.cons_append]
 try dsimp only
 repeat ((fail_if_success (with_reducible refine wp_reg (id := 0) ?_)); (first | go_values | go_skip | go_step | go_guarded | go_upon | go_in | go_back | fail))
 with_reducible refine wp_reg (id := 0) ?_
 refine (unhide hP).allocO 28 #[.slice A n cA, .slice B m cB] rfl (run_box (v := .agg #[.slice A n cA, .slice B m cB]) rfl rfl) ?_
 intro r1 y1 hQ
 replace hP : Hid (Sp w [] w [] [(r1,28, #[.slice A n cA, .slice B m cB])] [] y1) := hide hQ
 clear hQ
 refine wpO_want rfl ?_
 go_simp
 refine wpO_done ?_
 try go_frame
 replace hP : Hid (Sp w [] w [] [(r1,28, #[.slice A n cA, .slice B m cB])] [(3,1, .slice none 0 0,0,([] : List Int).flatMap encI)] y1) := hide ((unhide hP).nil 3 1)
 try dsimp only
 repeat ((fail_if_success (with_reducible refine wp_reg (id := 1) ?_)); (first | go_values | go_skip | go_step | go_guarded | go_upon | go_in | go_back | fail))
 with_reducible refine wp_reg (id := 1) ?_
 refine wpO_want rfl ?_
 go_simp
 refine wpO_done ?_
 try go_frame
 try dsimp only
 repeat ((fail_if_success (with_reducible refine wp_reg (id := 2) ?_)); (first | go_values | go_skip | go_step | go_guarded | go_upon | go_in | go_back | fail))
 with_reducible refine wp_reg (id := 2) ?_
 refine wpO_want rfl ?_
 go_simp
 refine wpO_done ?_
 try go_frame
 go_wp2_with fail
 obtain ⟨I1_2,hI1_20⟩ : ∃ I : Nat → Act → World → Prop,I = fun fi a' wr => ∃ (i : Nat), ∃ (Ax : Option Addr), ∃ (cx : Nat),a'.tmps.size = 22 ∧ a'.tmps.getD 1 undef = .pointer (some ⟨r1,0,none⟩) ∧ a'.tmps.getD 3 undef = .slice Ax i cx ∧ a'.tmps.getD 4 undef = .int .i64 (i : Nat) ∧ a'.defers = [] ∧ i ≤ n ∧ Sp w [] w [] [(r1,28, #[.slice A n cA, .slice B m cB])] [(3,1, .slice Ax i cx,i,((idsV V).take i).flatMap encI)] wr ∧ fi = n - i := ⟨_,rfl⟩
 have hI1_2 := hide hI1_20
 clear hI1_20
 refine wp_loop_ix I1_2 (n - 0) ?_ ?_
 ·rw [unhide hI1_2]; exact ⟨0,none,0,rfl,rfl,rfl,rfl,rfl,Nat.zero_le _,unhide hP,rfl⟩
 ·rintro fi ⟨tm,dfs⟩ wr hrel
  rw [unhide hI1_2] at hrel
  obtain ⟨i,Ax,cx,hsz,e1,e3,e4,hdf,hin,hPr,hfm⟩ := hrel
  obtain ⟨us,rfl⟩ : ∃ us : Nat → Value,tm = #[us 0,us 1,us 2,us 3,us 4,us 5,us 6,us 7,us 8,us 9,us 10,us 11,us 12,us 13,us 14,us 15,us 16,us 17,us 18,us 19,us 20,us 21] := ⟨fun i => tm.getD i undef,arr_fn hsz⟩
  have h1 : us 1 = .pointer (some ⟨r1,0,none⟩) := e1
  have h3 : us 3 = .slice Ax i cx := e3
  have h4 : us 4 = .int .i64 (i : Nat) := e4
  have hdf2 : dfs = [] := hdf
  subst hdf2
  clear hdf hsz e1 e3 e4
  simp only [h1,h3,h4]
  clear h1 h3 h4
  clear hP
  have hP := hide hPr
  have hfm' := hide hfm
  clear hPr hfm
  by_cases hlt : i < n
  ·skip
   have hil : (i : Int) < (n : Int) := by omega
   have hiV : i < V.length := by have := unhide hn'; omega
   have hii : i < (idsV V).length := by have := unhide hil0; omega
   have hib : (i : Int) ≤ 100000 := by have := unhide hl'; omega
   have htk := hide (List.take_succ_eq_append_getElem hii)
   obtain ⟨x,hx0⟩ : ∃ x,x = V[i].1 := ⟨_,rfl⟩
   rw [show (idsV V)[i] = x by rw [hx0]; simp [idsV]] at htk
   obtain ⟨b,off,rfl,g0,g1,g2⟩ := atV ((unhide hV').ext (unhide hP).extf) hiV
   rw [← hx0] at g0
   have hself := Ext.refl wr
   clear g1 g2 hx0
   have q0 := (unhide hP).cell 0 0 (v := .slice (some ⟨b,off,none⟩) n cA) rfl rfl
   try dsimp only
   repeat ((fail_if_success (with_reducible refine wp_reg (id := 3) ?_)); (first | go_values | go_skip | go_step | go_guarded | go_upon | go_in | go_back | fail))
   with_reducible refine wp_reg (id := 3) ?_
   iterate 5
    refine wpO_want rfl ?_
    go_simp
   refine wpO_done ?_
   try go_frame
   try dsimp only
   repeat ((fail_if_success (with_reducible refine wp_reg (id := 5) ?_)); (first | go_values | go_skip | go_step | go_guarded | go_upon | go_in | go_back | fail))
   with_reducible refine wp_reg (id := 5) ?_
   iterate 7
    refine wpO_want rfl ?_
    go_simp
   clear g0 q0 hself
   refine (unhide hP).buildO 1 3 #[.int .i64 x] rfl (by go_simp) ?_
   intro bt y2 hQ
   replace hP : Hid (Sp w [] w [] [(r1,28, #[.slice (some ⟨b,off,none⟩) n cA, .slice B m cB]),(bt,3, #[.int .i64 x])] [(3,1, .slice Ax i cx,i,((idsV V).take i).flatMap encI)] y2) := hide hQ
   clear hQ
   try go_frame
   refine (unhide hP).ap1O (enc := encI) (T := 3) (ST := 31) 0 (v := .slice Ax i cx) (m := i) (xs := (idsV V).take i) rfl rfl infoI Tryz.underlying31 one_encI (fun _ => rfl) (by decide) (by decide) rfl x rfl rfl ((unhide hP).get 1 rfl) (by omega) ?_
   intro Az cAz y3 hQ
   replace hP : Hid (Sp w [] w [] [(r1,28, #[.slice (some ⟨b,off,none⟩) n cA, .slice B m cB]),(bt,3, #[.int .i64 x])] [(3,1, .slice Az (i + 1) cAz,i + 1,((idsV V).take i ++ [x]).flatMap encI)] y3) := hide hQ
   clear hQ
   try go_frame
   refine wpO_want rfl ?_
   go_simp
   refine wpO_done ?_
   try go_frame
   replace hP : Hid (Sp w [] w [] [(r1,28, #[.slice (some ⟨b,off,none⟩) n cA, .slice B m cB])] [(3,1, .slice Az (i + 1) cAz,i + 1,((idsV V).take i ++ [x]).flatMap encI)] y3) := hide ((unhide hP).sub (List.sublist_append_left _ ([(bt,3, #[.int .i64 x])] : List Cl)) (List.Sublist.refl _))
   go_wp2_with fail
   have hp9 := unhide hP
   rw [← unhide htk] at hp9
   refine ⟨n - (i + 1), ?_,by have := unhide hfm'; omega⟩
   rw [unhide hI1_2]
   exact ⟨i + 1,Az,cAz,(by first | rfl | trivial),(by first | rfl | trivial),(by first | rfl | trivial),(by first | rfl | (show _ = Value.int _ _; go_num) | go_num),(by first | rfl | trivial),by omega,hp9,rfl⟩
  ·skip
   have hil : ¬ (i : Int) < (n : Int) := by omega
   obtain rfl : n = i := by omega
   clear hlt hin
   have q0 := (unhide hP).cell 0 0 (v := .slice A n cA) rfl rfl
   have hself := Ext.refl wr
   try dsimp only
   repeat ((fail_if_success (with_reducible refine wp_reg (id := 3) ?_)); (first | go_values | go_skip | go_step | go_guarded | go_upon | go_in | go_back | fail))
   with_reducible refine wp_reg (id := 3) ?_
   iterate 5
    refine wpO_want rfl ?_
    go_simp
   refine wpO_done ?_
   try go_frame
   clear q0 hself
   try dsimp only
   repeat ((fail_if_success (with_reducible refine wp_reg (id := 6) ?_)); (first | go_values | go_skip | go_step | go_guarded | go_upon | go_in | go_back | fail))
   with_reducible refine wp_reg (id := 6) ?_
   iterate 2
    refine wpO_want rfl ?_
    go_simp
   refine wpO_done ?_
   try go_frame
   go_wp2_with fail
   refine Sp.leaves0 ?_
   refine ⟨_,results_tmp rfl _ _ _, ?_⟩
   have ho := (unhide hP).row 0 rfl
   rw [List.take_of_length_le (by rw [← unhide hil0]; exact Nat.le_refl _)] at ho
   exact OwJ.mk (unhide hil0) ho (unhide hP).extf
end Go.Proofs.YtbpeemhfjgcnaaaGreat
namespace Go.Proofs.YtbpeemhfjgcnaaaGreat
open Go Go.RowKit Go.Shelf
attribute [local go_sem] qUpon lUpon
attribute [local irreducible] wpO wpX wpQL
theorem ret_ct {P : Program} {fn : Func} {c T u : Nat} {tmps : Array Value} {p : Addr} {W : World} {v : Value} (h : fn.results = #[.cell c T, .tmp u]) (hp : tmps.getD c undef = .pointer (some p)) (hl : (loadVar T p).run P W = .ok v W) :
  (results fn tmps).run P W = .ok (.tuple #[v,tmps.getD u undef]) W := by
 simp only [Array.getD_eq_getD_getElem?] at hp
 simp [results,h,hp,asAddr,hl]
structure ToI (ids best : List Int) (i : Nat) (C : List Int) : Prop where
 len : C.length = ids.length
 at_ : ∀ p (h : p < ids.length),best.idxOf ids[p] < i → C.getD p 0 = (best.idxOf ids[p] : Int)
theorem ToI.zero {ids best : List Int} {n : Nat} (h : n = ids.length) : ToI ids best 0 (List.replicate n 0) := ⟨by rw [List.length_replicate,h],fun p _ h => by omega⟩
theorem ToI.step {ids best C : List Int} {i j : Nat} (h : ToI ids best i C) (hb : best.Nodup) (hn : ids.Nodup) (hi : i < best.length) (hj : j < ids.length) (he : ids[j] = best[i]) : ToI ids best (i + 1) (C.set j (i : Int)) := by
 refine ⟨by rw [List.length_set]; exact h.len,fun p hp hlt => ?_⟩
 rw [List.getD_eq_getElem?_getD,List.getElem?_set]
 by_cases e : j = p
 ·subst e
  rw [if_pos rfl,if_pos (by rw [h.len]; exact hj),Option.getD_some,he,hb.idxOf_getElem i hi]
 ·rw [if_neg e, ← List.getD_eq_getElem?_getD]
  refine h.at_ p hp ?_
  have h1 : best.idxOf ids[p] ≠ i := fun e2 => by
   have h2 : best.idxOf ids[p] < best.length := by omega
   have h3 : best[best.idxOf ids[p]] = ids[p] := List.getElem_idxOf h2
   simp only [e2] at h3
   rw [← he] at h3
   exact e ((List.getElem_inj hn).1 h3)
  omega
theorem ToI.full {ids best C : List Int} {i : Nat} (h : ToI ids best i C) (hp : best.Perm ids) (hi : i = best.length) : C = atP best ids := by
 unfold atP
 apply List.ext_getElem
 ·rw [h.len,List.length_map]
 ·intro p h1 h2
  have h3 : p < ids.length := by rw [← h.len]; exact h1
  have h4 := h.at_ p h3 (by rw [hi]; exact List.idxOf_lt_length_of_mem (hp.mem_iff.2 (List.getElem_mem h3)))
  rw [getD_at h1] at h4
  rw [List.getElem_map,h4]
def FmPost (V : List (Int × Thing)) (E : List ((Int × Int) × Thing)) (w : World) (e : Ending) (w' : World) : Prop := ∃ V2 E2 A2 cA2 B2 cB2 Ab nb cb,IsCan V E V2 E2 ∧ e = .returned (.tuple #[.agg #[.slice A2 V2.length cA2, .slice B2 E2.length cB2], .slice Ab nb cb]) ∧ SlAt encV 3 w' A2 V2 ∧ SlAt encE 4 w' B2 E2 ∧ nb = V.length ∧ SlAt encI 1 w' Ab (formP V E (idsV V)) ∧ Ext w w'
theorem all_ne (n : Nat) (L : List Int) (h : L.length = n) : 0 < (allN n L).length := by rw [allN_len n L h]; exact fact_pos n
theorem form_all {V : List (Int × Thing)} {E : List ((Int × Int) × Thing)} {ids : List Int} {K : List (List Int)} (hK : K = allN ids.length ids) (h0 : 0 < K.length) : formP V E ids = firstP (codeR V E) K[0] (K.drop 1) := by
 subst hK
 unfold formP
 generalize allN ids.length ids = l at *
 cases l with
 | nil => simp at h0
 | cons a l => rfl
theorem first_step {key : List Int → List Int} {K : List (List Int)} {a : List Int} {i : Nat} (hi : i < K.length) (h1 : 1 ≤ i) : firstP key a ((K.take (i + 1)).drop 1) = if lcmp (key K[i]) (key (firstP key a ((K.take i).drop 1))) < 0 then K[i] else firstP key a ((K.take i).drop 1) := by
 rw [List.take_succ_eq_append_getElem hi,List.drop_append_of_le_length (by rw [List.length_take]; omega),firstP_snoc]
theorem St.down2 {b : Nat} {L : List Cl} {Rs : List Rw} {W : World} (h : St b L Rs W) : St 0 [] Rs W := (h.sub (List.nil_sublist _) (List.Sublist.refl _)).down
theorem ss_get2 {w : World} {A a : Option Addr} {n c m c2 : Nat} {K : List Int} {J : List (Sl × List Int)} (h : St 0 [] (ssR A n c J) w) (hn : n = J.length) (hl : ∀ p ∈ J,p.1.2.1 = p.2.length) {k : Nat} (hk : J[k]? = some ((a,m,c2),K)) : ∃ b off,A = some ⟨b,off,none⟩ ∧ (∀ W,Ext w W → W.cell? ⟨b,off + k,none⟩ = some (.slice a m c2)) ∧ SlAt encI 1 w a K ∧ m = K.length := by
 obtain ⟨hlt,he⟩ := List.getElem?_eq_some_iff.1 hk
 obtain ⟨b,off,h1,_,h3,h4⟩ := ss_get h hn hl hlt
 have h5 := hl _ (List.getElem_mem hlt)
 rw [he] at h3 h4 h5
 exact ⟨b,off,h1,fun W hW => h3 [] W (hW.keep []) (by simp),h4,h5⟩
set_option maxRecDepth 100000 in
set_option maxHeartbeats 16000000 in
theorem form08_any (A1 B1 : Option Addr) (V : List (Int × Thing)) (E : List ((Int × Int) × Thing)) (nV nE cA cB : Nat) (w : World) (hsV : SlAt encV 3 w A1 V) (hsE : SlAt encE 4 w B1 E) (hi : GInv V E) (hlb : LabB V E) (hnV : nV = V.length) (hnE : nE = E.length) (hl : nV ≤ 8) :
  Calls Tryz.prog 14 #[.agg #[.slice A1 nV cA, .slice B1 nE cB]] w (FmPost V E w) := by
 have hsV' := hide hsV
 have hsE' := hide hsE
 have hi' := hide hi
 have hlb' := hide hlb
 have hnV' := hide hnV
 have hnE' := hide hnE
 have hl' := hide hl
 obtain ⟨ids,hids0⟩ : ∃ l,l = idsV V := ⟨_,rfl⟩
 have hids := hide hids0
 have hil0 := hide (show nV = ids.length by rw [hids0,idsV_len,hnV])
 have hin := hide (show ids.Nodup by rw [hids0]; exact hi.idsN)
 clear hsV hsE hi hlb hnV hnE hl hids0
 have hP := hide (Sp.new w)
 refine callsIn_wide.1 (callsIn_of_wp_marks (n := 0) Tryz.func14 rfl trivial (wpIn_wide.2 ?_))
 simp only [Tryz.ntmps14,List.size_toArray,List.length_cons,List.length_nil,Nat.reduceAdd,Nat.reduceSub,Array.replicate_succ,Array.replicate_zero,List.push_toArray,List.append_toArray,List.nil_append,List.cons_append]
 try dsimp only
 repeat ((fail_if_success (with_reducible refine wp_reg (id := 0) ?_)); (first | go_values | go_skip | go_step | go_guarded | go_upon | go_in | go_back | fail))
 with_reducible refine wp_reg (id := 0) ?_
 refine (unhide hP).allocO 28 #[.slice A1 nV cA, .slice B1 nE cB] rfl (run_box (v := .agg #[.slice A1 nV cA, .slice B1 nE cB]) rfl rfl) ?_
 intro r1 y1 hQ
 replace hP : Hid (Sp w [] w [] [(r1,28, #[.slice A1 nV cA, .slice B1 nE cB])] [] y1) := hide hQ
 clear hQ
 refine (unhide hP).allocO 28 #[.slice none 0 0, .slice none 0 0] rfl (by go_simp) ?_
 intro r2 y2 hQ
 replace hP : Hid (Sp w [] w [] [(r1,28, #[.slice A1 nV cA, .slice B1 nE cB]),(r2,28, #[.slice none 0 0, .slice none 0 0])] [] y2) := hide hQ
 clear hQ
 refine wpO_want rfl ?_
 go_simp
 refine wpO_done ?_
 try go_frame
 have q0 := (unhide hP).cell 0 0 (v := .slice A1 nV cA) rfl rfl
 have q1 := (unhide hP).cell 0 1 (v := .slice B1 nE cB) rfl rfl
 have hself := Ext.refl y2
 try dsimp only
 repeat ((fail_if_success (with_reducible refine wp_reg (id := 1) ?_)); (first | go_values | go_skip | go_step | go_guarded | go_upon | go_in | go_back | fail))
 with_reducible refine wp_reg (id := 1) ?_
 refine wpO_want rfl ?_
 go_simp
 clear q0 q1 hself
 refine wpO_want rfl ?_
 go_simp
 have hca := ids08_any A1 B1 V nV nE cA cB y2 ((unhide hsV').ext (unhide hP).extf) (unhide hnV') (by have := unhide hl'; omega)
 rw [← unhide hids] at hca
 refine hca.mono ?_
 clear hca
 rintro _ y3 ⟨Ai,ni,ci,rfl,hni0,ho1,hxc⟩
 obtain rfl : nV = ni := by rw [hni0]; exact unhide hil0
 have hsi := hide (own_at (enc := encI) (by rw [hni0] at ho1; exact ho1) (fun _ => rfl))
 have hcap := hide (own_cap ho1)
 refine ⟨_,rfl, ?_⟩
 replace hP : Hid (Sp w [] w [] [(r1,28, #[.slice A1 nV cA, .slice B1 nE cB]),(r2,28, #[.slice none 0 0, .slice none 0 0])] [] y3) := hide ((unhide hP).ext hxc)
 clear hxc ho1 hni0
 refine wpO_want rfl ?_
 go_simp
 have hca := all08_any nV (unhide hl') Ai ids ci y3 (unhide hsi) (unhide hil0) (unhide hcap)
 refine hca.mono ?_
 clear hca
 rintro _ y4 ⟨A5,q,c5,J5,rfl,hos,hxc⟩
 obtain ⟨KK,hKK0⟩ : ∃ K,K = allN nV ids := ⟨_,rfl⟩
 rw [← hKK0] at hos
 have hKK := hide hKK0
 have hq0 := hide (show 0 < q by rw [hos.at.2,hKK0]; exact all_ne nV ids (unhide hil0).symm)
 have hqb := hide (show q ≤ 40320 by
  rw [hos.at.2,hKK0,allN_len nV ids (unhide hil0).symm]
  have h8 := unhide hl'
  rcases nV with _ | _ | _ | _ | _ | _ | _ | _ | _ | nV
  all_goals first | decide | omega)
 have hqn := hide hos.at.2
 have hq1 := hide hos.1
 have hq2 := hide hos.2.1
 have hq3 := hide hos.2.2.1
 have hst5 := hos.2.2.2
 have hKm := hide (show ∀ K ∈ KK,K.Perm ids from fun K hK => by rw [hKK0] at hK; exact (mem_allN nV ids (unhide hil0).symm K).1 hK)
 have hJK := hide (show ∀ k (p : Sl × List Int),J5[k]? = some p → KK[k]? = some p.2 from fun k p hk => by rw [← hos.2.1,List.getElem?_map,hk]; rfl)
 refine ⟨_,rfl, ?_⟩
 replace hP : Hid (Sp w [] w [] [(r1,28, #[.slice A1 nV cA, .slice B1 nE cB]),(r2,28, #[.slice none 0 0, .slice none 0 0])] (ssR A5 q c5 J5) y4) := hide ((unhide hP).addSt hxc hst5)
 clear hst5 hos hxc hKK0 hsi hcap
 refine wpO_want rfl ?_
 go_simp
 refine wpO_done ?_
 try go_frame
 obtain ⟨⟨⟨a0,n0,c0⟩,K0⟩,hp0⟩ : ∃ p,J5[0]? = some p := ⟨_,List.getElem?_eq_getElem (by have := unhide hq1; have := unhide hq0; omega)⟩
 have hK0 := unhide hJK 0 _ hp0
 obtain ⟨hlt0,hK0e⟩ := List.getElem?_eq_some_iff.1 hK0
 dsimp only at hK0e
 obtain ⟨b5,o5,rfl,k00,hx8,hn0⟩ := ss_get2 (unhide hP).st.down2 (unhide hq1) (unhide hq3) hp0
 obtain rfl : nV = n0 := by rw [hn0,(unhide hKm K0 (by rw [← hK0e]; exact List.getElem_mem _)).length_eq]; exact unhide hil0
 have hfirst := hide (show firstP (codeR V E) K0 ((KK.take 1).drop 1) = K0 by rw [List.drop_eq_nil_of_le (by rw [List.length_take]; omega)]; rfl)
 have hform := hide (show formP V E ids = firstP (codeR V E) K0 (KK.drop 1) by rw [← hK0e]; exact form_all (by rw [unhide hKK, ← unhide hil0]) hlt0)
 have hp0' := hide hp0
 have hq00 : (0 : Int) < (q : Int) := by have := unhide hq0; omega
 have hq01 : 0 < q := unhide hq0
 have k0 : ∀ W,Ext y4 W → W.cell? ⟨b5,o5,none⟩ = some (.slice a0 nV c0) := fun W hW => by have h9 := k00 W hW; rwa [Nat.add_zero] at h9
 have hself := Ext.refl y4
 clear hx8 k00 hK0 hn0 hp0 hK0e hlt0
 try dsimp only
 repeat ((fail_if_success (with_reducible refine wp_reg (id := 2) ?_)); (first | go_values | go_skip | go_step | go_guarded | go_upon | go_in | go_back | fail))
 with_reducible refine wp_reg (id := 2) ?_
 iterate 4
  refine wpO_want rfl ?_
  go_simp
 refine wpO_done ?_
 try go_frame
 clear k0 hself hq00 hq01
 go_wp2_with fail
 obtain ⟨I4_2,hI4_20⟩ : ∃ I : Nat → Act → World → Prop,I = fun fi a' wr => ∃ (i : Nat), ∃ (k0 : Nat), ∃ (ab : Option Addr), ∃ (cb : Nat), ∃ (bst : List Int),a'.tmps.size = 58 ∧ a'.tmps.getD 1 undef = .pointer (some ⟨r1,0,none⟩) ∧ a'.tmps.getD 2 undef = .pointer (some ⟨r2,0,none⟩) ∧ a'.tmps.getD 4 undef = .slice (some ⟨b5,o5,none⟩) q c5 ∧ a'.tmps.getD 5 undef = .slice ab nV cb ∧ a'.tmps.getD 6 undef = .int .i64 (i : Nat) ∧ a'.defers = [] ∧ 1 ≤ i ∧ i ≤ q ∧ J5[k0]? = some ((ab,nV,cb),bst) ∧ firstP (codeR V E) K0 ((KK.take i).drop 1) = bst ∧ Sp w [] w [] [(r1,28, #[.slice A1 nV cA, .slice B1 nE cB]),(r2,28, #[.slice none 0 0, .slice none 0 0])] (ssR (some ⟨b5,o5,none⟩) q c5 J5) wr ∧ fi = q - i := ⟨_,rfl⟩
 have hI4_2 := hide hI4_20
 clear hI4_20
 refine wp_loop_ix I4_2 (q - 1) ?_ ?_
 ·rw [unhide hI4_2]; exact ⟨1,0,a0,c0,K0,rfl,rfl,rfl,rfl,rfl,rfl,rfl,Nat.le_refl _,by have := unhide hq0; omega,unhide hp0',unhide hfirst,unhide hP,rfl⟩
 ·rintro fi ⟨tm,dfs⟩ wr hrel
  rw [unhide hI4_2] at hrel
  obtain ⟨i,k0,ab,cb,bst,hsz,e1,e2,e4,e5,e6,hdf,hi10,hiq,hpb0,hfp0,hPr,hfm⟩ := hrel
  obtain ⟨us,rfl⟩ : ∃ us : Nat → Value,tm = #[us 0,us 1,us 2,us 3,us 4,us 5,us 6,us 7,us 8,us 9,us 10,us 11,us 12,us 13,us 14,us 15,us 16,us 17,us 18,us 19,us 20,us 21,us 22,us 23,us 24,us 25,us 26,us 27,us 28,us 29,us 30,us 31,us 32,us 33,us 34,us 35,us 36,us 37,us 38,us 39,us 40,us 41,us 42,us 43,us 44,us 45,us 46,us 47,us 48,us 49,us 50,us 51,us 52,us 53,us 54,us 55,us 56,us 57] := ⟨fun i => tm.getD i undef,arr_fn hsz⟩
  have h1 : us 1 = .pointer (some ⟨r1,0,none⟩) := e1
  have h2 : us 2 = .pointer (some ⟨r2,0,none⟩) := e2
  have h4 : us 4 = .slice (some ⟨b5,o5,none⟩) q c5 := e4
  have h5 : us 5 = .slice ab nV cb := e5
  have h6 : us 6 = .int .i64 (i : Nat) := e6
  have hdf2 : dfs = [] := hdf
  subst hdf2
  clear hdf hsz e1 e2 e4 e5 e6
  simp only [h1,h2,h4,h5,h6]
  clear h1 h2 h4 h5 h6
  clear hP hp0' hfirst
  have hP := hide hPr
  have hfm' := hide hfm
  have hpb := hide hpb0
  have hfp := hide hfp0
  have hi1 := hide hi10
  clear hPr hfm hpb0 hfp0 hi10
  by_cases hlt : i < q
  ·skip
   have hil : (i : Int) < (q : Int) := by omega
   have hlt' := hide hlt
   have hib : (i : Int) ≤ 40320 := by have := unhide hqb; omega
   have hiK : i < KK.length := by rw [← unhide hqn]; exact hlt
   have hfs := hide (first_step (key := codeR V E) (a := K0) hiK (unhide hi1))
   rw [unhide hfp] at hfs
   obtain ⟨⟨⟨ai,ni,ci⟩,Ki⟩,hpi0⟩ : ∃ p,J5[i]? = some p := ⟨_,List.getElem?_eq_getElem (by have := unhide hq1; omega)⟩
   have hKi := unhide hJK i _ hpi0
   rw [List.getElem?_eq_getElem hiK] at hKi
   have hKi2 : KK[i] = Ki := Option.some.inj hKi
   rw [hKi2] at hfs
   have hKip := hide (show Ki.Perm ids by rw [← hKi2]; exact unhide hKm _ (List.getElem_mem _))
   obtain ⟨b6,o6,hb6,k1,hsi0,hni0⟩ := ss_get2 (unhide hP).st.down2 (unhide hq1) (unhide hq3) hpi0
   cases hb6
   obtain rfl : nV = ni := by rw [hni0,(unhide hKip).length_eq]; exact unhide hil0
   have hpi := hide hpi0
   have hsi := hide hsi0
   have hni := hide hni0
   have hKb := unhide hJK k0 _ (unhide hpb)
   obtain ⟨hltb,hKb2⟩ := List.getElem?_eq_some_iff.1 hKb
   dsimp only at hKb2
   have hKbp := hide (show bst.Perm ids by rw [← hKb2]; exact unhide hKm _ (List.getElem_mem _))
   obtain ⟨b6,o6,hb6,hx8,hsb0,hnb0⟩ := ss_get2 (unhide hP).st.down2 (unhide hq1) (unhide hq3) (unhide hpb)
   have hsb := hide hsb0
   have hnb := hide hnb0
   obtain ⟨z,hz0⟩ : ∃ z,z = lcmp (codeR V E Ki) (codeR V E bst) := ⟨_,rfl⟩
   rw [← hz0] at hfs
   have hz := hide hz0
   have hcl1 := hide (code_le (V := V) (E := E) (L := Ki) (by rw [← hni0]; exact unhide hl'))
   have hcl2 := hide (code_le (V := V) (E := E) (L := bst) (by rw [← hnb0]; exact unhide hl'))
   have hsVr := hide ((unhide hsV').ext (unhide hP).extf)
   have hsEr := hide ((unhide hsE').ext (unhide hP).extf)
   clear hx8 hKi hKi2 hpi0 hsi0 hni0 hKb hltb hKb2 hb6 hsb0 hnb0 hz0 hlt
   try dsimp only
   repeat ((fail_if_success (with_reducible refine wp_reg (id := 4) ?_)); (first | go_values | go_skip | go_step | go_guarded | go_upon | go_in | go_back | fail))
   with_reducible refine wp_reg (id := 4) ?_
   iterate 4
    refine wpO_want rfl ?_
    go_simp
   refine wpO_done ?_
   try go_frame
   go_wp2_with fail
   replace k1 := fun (W : World) (hW : Keep [] wr W) => k1 W (Ext.of_keep0 hW)
   have q0 := (unhide hP).cellK (S := []) 0 0 (v := .slice A1 nV cA) rfl rfl (by simp)
   have q1 := (unhide hP).cellK (S := []) 0 1 (v := .slice B1 nE cB) rfl rfl (by simp)
   have hself := Keep.refl [] wr
   refine wp_regionK (P := Tryz.prog) [] [0,1,2,3,4,6,7] [] 4 #[true,true,true,true,true,false,true,true,false,false,false] (by kernel_rfl) (by kernel_rfl) rfl (by rfl) ?_
   iterate 7
    first
    | (refine ql_skip rfl (by rfl) ?_)
    | (refine ql_want (v := ?_) rfl (by rfl) (fun W hW => ?_) ?_; rotate_left; (go_simp; (first | done | rfl)))
    try go_frame
   refine wpQL_nil (fun y5 hxq => ?_)
   have hK := hide (hxq.keep [])
   replace hP : Hid (Sp w [] w [] [(r1,28, #[.slice A1 nV cA, .slice B1 nE cB]),(r2,28, #[.slice none 0 0, .slice none 0 0])] (ssR (some ⟨b5,o5,none⟩) q c5 J5) y5) := hide ((unhide hP).ext hxq)
   replace hsi := hide ((unhide hsi).ext hxq)
   replace hsb := hide ((unhide hsb).ext hxq)
   replace hsVr := hide ((unhide hsVr).ext hxq)
   replace hsEr := hide ((unhide hsEr).ext hxq)
   clear hxq
   clear q0 q1 k1 hself hil
   refine lx_one (i := 5) (by kernel_rfl) rfl (by rfl) #[true,true,true,true,true,true,true,true,false,false,false] (by rfl) ?_
   go_simp
   have hca := code08_any A1 B1 V E nV nE cA cB ai Ki nV ci y5 (unhide hsVr) (unhide hsEr) (unhide hi') (unhide hlb') (unhide hnV') (unhide hnE') (unhide hsi) (unhide hni) (unhide hl') (fun x hx => by rw [← unhide hids]; exact (unhide hKip).mem_iff.1 hx)
   refine hca.mono ?_
   clear hca
   rintro _ zy6 ⟨Ac,nc,cc,rfl,hnc0,ho1,hxc⟩
   have hs1 := hide (own_at (enc := encI) (by rw [hnc0] at ho1; exact ho1) (fun _ => rfl))
   have hnc := hide hnc0
   clear hnc0 ho1
   refine ⟨_,rfl,(unhide hK).trans (hxc.keep _),fun y6 hxd => ?_⟩
   replace hP : Hid (Sp w [] w [] [(r1,28, #[.slice A1 nV cA, .slice B1 nE cB]),(r2,28, #[.slice none 0 0, .slice none 0 0])] (ssR (some ⟨b5,o5,none⟩) q c5 J5) y6) := hide ((unhide hP).ext (hxc.trans hxd))
   replace hK := hide ((unhide hK).trans ((hxc.trans hxd).keep _))
   replace hsi := hide ((unhide hsi).ext (hxc.trans hxd))
   replace hsb := hide ((unhide hsb).ext (hxc.trans hxd))
   replace hsVr := hide ((unhide hsVr).ext (hxc.trans hxd))
   replace hsEr := hide ((unhide hsEr).ext (hxc.trans hxd))
   replace hs1 := hide ((unhide hs1).ext hxd)
   clear hxc hxd
   try go_frame
   refine lx_one (i := 8) (by kernel_rfl) rfl (by rfl) #[true,true,true,true,true,true,true,true,true,false,false] (by rfl) ?_
   go_simp
   have hca := code08_any A1 B1 V E nV nE cA cB ab bst nV cb y6 (unhide hsVr) (unhide hsEr) (unhide hi') (unhide hlb') (unhide hnV') (unhide hnE') (unhide hsb) (unhide hnb) (unhide hl') (fun x hx => by rw [← unhide hids]; exact (unhide hKbp).mem_iff.1 hx)
   refine hca.mono ?_
   clear hca
   rintro _ zy7 ⟨Ad,nd,cd,rfl,hnd0,ho1,hxc⟩
   have hs2 := hide (own_at (enc := encI) (by rw [hnd0] at ho1; exact ho1) (fun _ => rfl))
   have hnd := hide hnd0
   clear hnd0 ho1
   refine ⟨_,rfl,(unhide hK).trans (hxc.keep _),fun y7 hxd => ?_⟩
   replace hP : Hid (Sp w [] w [] [(r1,28, #[.slice A1 nV cA, .slice B1 nE cB]),(r2,28, #[.slice none 0 0, .slice none 0 0])] (ssR (some ⟨b5,o5,none⟩) q c5 J5) y7) := hide ((unhide hP).ext (hxc.trans hxd))
   replace hK := hide ((unhide hK).trans ((hxc.trans hxd).keep _))
   replace hsi := hide ((unhide hsi).ext (hxc.trans hxd))
   replace hsb := hide ((unhide hsb).ext (hxc.trans hxd))
   replace hsVr := hide ((unhide hsVr).ext (hxc.trans hxd))
   replace hsEr := hide ((unhide hsEr).ext (hxc.trans hxd))
   replace hs1 := hide ((unhide hs1).ext (hxc.trans hxd))
   replace hs2 := hide ((unhide hs2).ext hxd)
   clear hxc hxd
   try go_frame
   refine lx_one (i := 9) (by kernel_rfl) rfl (by rfl) #[true,true,true,true,true,true,true,true,true,true,false] (by rfl) ?_
   go_simp
   have hca := cmp08_any Ac Ad (codeR V E Ki) (codeR V E bst) nc nd cc cd y7 (unhide hs1) (unhide hs2) (unhide hnc) (unhide hnd) (by have := unhide hcl1; have := unhide hnc; omega) (by have := unhide hcl2; have := unhide hnd; omega)
   rw [← unhide hz] at hca
   refine hca.mono ?_
   clear hca
   rintro _ zy8 ⟨rfl,hxc⟩
   refine ⟨_,rfl,(unhide hK).trans (hxc.keep _),fun y8 hxd => ?_⟩
   replace hP : Hid (Sp w [] w [] [(r1,28, #[.slice A1 nV cA, .slice B1 nE cB]),(r2,28, #[.slice none 0 0, .slice none 0 0])] (ssR (some ⟨b5,o5,none⟩) q c5 J5) y8) := hide ((unhide hP).ext (hxc.trans hxd))
   replace hK := hide ((unhide hK).trans ((hxc.trans hxd).keep _))
   replace hsi := hide ((unhide hsi).ext (hxc.trans hxd))
   replace hsb := hide ((unhide hsb).ext (hxc.trans hxd))
   replace hsVr := hide ((unhide hsVr).ext (hxc.trans hxd))
   replace hsEr := hide ((unhide hsEr).ext (hxc.trans hxd))
   replace hs1 := hide ((unhide hs1).ext (hxc.trans hxd))
   replace hs2 := hide ((unhide hs2).ext (hxc.trans hxd))
   clear hxc hxd
   try go_frame
   clear hs1 hs2 hsi hsb hsVr hsEr
   by_cases hzn : z < 0
   ·skip
    have hzn' := hide hzn
    clear hzn
    refine lx_one (i := 10) (by kernel_rfl) rfl (by rfl) #[true,true,true,true,true,true,true,true,true,true,true] (by rfl) ?_
    refine (unhide hP).valL (unhide hK) (v := .bool true) ?_ ?_
    ·exact run_lssB true rfl rfl rfl (decide_eq_true (unhide hzn'))
    intro y9 hQ hK2
    replace hP : Hid (Sp w [] w [] [(r1,28, #[.slice A1 nV cA, .slice B1 nE cB]),(r2,28, #[.slice none 0 0, .slice none 0 0])] (ssR (some ⟨b5,o5,none⟩) q c5 J5) y9) := hide hQ
    replace hK := hide hK2
    clear hQ hK2
    try go_frame
    refine wpX_done (by kernel_rfl) ?_
    try go_frame
    clear hK
    obtain ⟨b6,o6,hb6,k1,hx8,hx9⟩ := ss_get2 (unhide hP).st.down2 (unhide hq1) (unhide hq3) (unhide hpi)
    clear hx8 hx9
    cases hb6
    have hil : (i : Int) < (q : Int) := by have := unhide hlt'; omega
    have hself := Ext.refl y9
    try dsimp only
    repeat ((fail_if_success (with_reducible refine wp_reg (id := 7) ?_)); (first | go_values | go_skip | go_step | go_guarded | go_upon | go_in | go_back | fail))
    with_reducible refine wp_reg (id := 7) ?_
    iterate 5
     refine wpO_want rfl ?_
     go_simp
    refine wpO_done ?_
    try go_frame
    clear k1 hself hil
    go_wp2_with fail
    refine ⟨q - (i + 1), ?_,by have := unhide hfm'; have := unhide hlt'; omega⟩
    rw [unhide hI4_2]
    exact ⟨i + 1,i,ai,ci,Ki,(by first | rfl | trivial),(by first | rfl | trivial),(by first | rfl | trivial),(by first | rfl | trivial),(by first | rfl | trivial),(by first | rfl | (show _ = Value.int _ _; go_num) | go_num),(by first | rfl | trivial),by omega,by have := unhide hlt'; omega,unhide hpi,(by rw [unhide hfs,if_pos (unhide hzn')]),unhide hP,rfl⟩
   ·skip
    have hzn' := hide hzn
    clear hzn
    refine lx_one (i := 10) (by kernel_rfl) rfl (by rfl) #[true,true,true,true,true,true,true,true,true,true,true] (by rfl) ?_
    refine (unhide hP).valL (unhide hK) (v := .bool false) ?_ ?_
    ·exact run_lssB false rfl rfl rfl (decide_eq_false (by have := unhide hzn'; omega))
    intro y9 hQ hK2
    replace hP : Hid (Sp w [] w [] [(r1,28, #[.slice A1 nV cA, .slice B1 nE cB]),(r2,28, #[.slice none 0 0, .slice none 0 0])] (ssR (some ⟨b5,o5,none⟩) q c5 J5) y9) := hide hQ
    replace hK := hide hK2
    clear hQ hK2
    try go_frame
    refine wpX_done (by kernel_rfl) ?_
    try go_frame
    clear hK
    go_wp2_with fail
    refine ⟨q - (i + 1), ?_,by have := unhide hfm'; have := unhide hlt'; omega⟩
    rw [unhide hI4_2]
    exact ⟨i + 1,k0,ab,cb,bst,(by first | rfl | trivial),(by first | rfl | trivial),(by first | rfl | trivial),(by first | rfl | trivial),(by first | rfl | trivial),(by first | rfl | (show _ = Value.int _ _; go_num) | go_num),(by first | rfl | trivial),by omega,by have := unhide hlt'; omega,unhide hpb,(by rw [unhide hfs,if_neg (by have := unhide hzn'; omega)]),unhide hP,rfl⟩
  ·skip
   have hil : ¬ (i : Int) < (q : Int) := by omega
   have hbf := hide (show bst = formP V E ids by rw [unhide hform, ← unhide hfp,List.take_of_length_le (by rw [← unhide hqn]; omega)])
   have hKb := unhide hJK k0 _ (unhide hpb)
   obtain ⟨hltb,hKb2⟩ := List.getElem?_eq_some_iff.1 hKb
   dsimp only at hKb2
   have hKbp := hide (show bst.Perm ids by rw [← hKb2]; exact unhide hKm _ (List.getElem_mem _))
   have hnb := hide (show nV = bst.length by rw [(unhide hKbp).length_eq]; exact unhide hil0)
   clear hlt hiq hKb hltb hKb2 hfp
   try dsimp only
   repeat ((fail_if_success (with_reducible refine wp_reg (id := 4) ?_)); (first | go_values | go_skip | go_step | go_guarded | go_upon | go_in | go_back | fail))
   with_reducible refine wp_reg (id := 4) ?_
   iterate 4
    refine wpO_want rfl ?_
    go_simp
   refine wpO_done ?_
   try go_frame
   clear hil
   try dsimp only
   repeat ((fail_if_success (with_reducible refine wp_reg (id := 8) ?_)); (first | go_values | go_skip | go_step | go_guarded | go_upon | go_in | go_back | fail))
   with_reducible refine wp_reg (id := 8) ?_
   iterate 2
    refine wpO_want rfl ?_
    go_simp
   refine (unhide hP).buildO nV 3 (vA encI (List.replicate nV 0)) rfl (run_mkA (enc := encI) (k := 1) (z := .int .i64 0) (0 : Int) rfl rfl rfl (by have := unhide hl'; omega) Tryz.underlying31 infoIz (by decide) rfl (fun _ => rfl) (by decide) _) ?_
   intro bt y5 hQ
   replace hP : Hid (Sp w [] w [] [(r1,28, #[.slice A1 nV cA, .slice B1 nE cB]),(r2,28, #[.slice none 0 0, .slice none 0 0]),(bt,3,vA encI (List.replicate nV 0))] (ssR (some ⟨b5,o5,none⟩) q c5 J5) y5) := hide hQ
   clear hQ
   try go_frame
   refine wpO_want rfl ?_
   go_simp
   refine wpO_done ?_
   try go_frame
   go_wp2_with fail
   obtain ⟨wo,hwo⟩ : ∃ wo,wo = wr := ⟨_,rfl⟩
   subst hwo
   obtain ⟨I5_6,hI5_60⟩ : ∃ I : Nat → Act → World → Prop,I = fun fj a' wr => ∃ (j : Nat), ∃ (C : List Int),a'.tmps.size = 58 ∧ a'.tmps.getD 1 undef = .pointer (some ⟨r1,0,none⟩) ∧ a'.tmps.getD 2 undef = .pointer (some ⟨r2,0,none⟩) ∧ a'.tmps.getD 5 undef = .slice ab nV cb ∧ a'.tmps.getD 7 undef = .slice (some ⟨bt,0,none⟩) nV nV ∧ a'.tmps.getD 8 undef = .int .i64 (j : Nat) ∧ a'.defers = [] ∧ j ≤ nV ∧ ToI ids bst j C ∧ Sp w [] w [] [(r1,28, #[.slice A1 nV cA, .slice B1 nE cB]),(r2,28, #[.slice none 0 0, .slice none 0 0]),(bt,3,vA encI C)] (ssR (some ⟨b5,o5,none⟩) q c5 J5) wr ∧ fj = nV - j := ⟨_,rfl⟩
   have hI5_6 := hide hI5_60
   clear hI5_60
   refine wp_loop_ix I5_6 (nV - 0) ?_ ?_
   ·rw [unhide hI5_6]; exact ⟨0,List.replicate nV 0,rfl,rfl,rfl,rfl,rfl,rfl,rfl,Nat.zero_le _,ToI.zero (unhide hil0),unhide hP,rfl⟩
   ·rintro fj ⟨tm,dfs⟩ wr hrel
    rw [unhide hI5_6] at hrel
    obtain ⟨j,C,hsz,e1,e2,e5,e7,e8,hdf,hjn,hC0,hPs,hgm⟩ := hrel
    obtain ⟨us,rfl⟩ : ∃ us : Nat → Value,tm = #[us 0,us 1,us 2,us 3,us 4,us 5,us 6,us 7,us 8,us 9,us 10,us 11,us 12,us 13,us 14,us 15,us 16,us 17,us 18,us 19,us 20,us 21,us 22,us 23,us 24,us 25,us 26,us 27,us 28,us 29,us 30,us 31,us 32,us 33,us 34,us 35,us 36,us 37,us 38,us 39,us 40,us 41,us 42,us 43,us 44,us 45,us 46,us 47,us 48,us 49,us 50,us 51,us 52,us 53,us 54,us 55,us 56,us 57] := ⟨fun i => tm.getD i undef,arr_fn hsz⟩
    have h1 : us 1 = .pointer (some ⟨r1,0,none⟩) := e1
    have h2 : us 2 = .pointer (some ⟨r2,0,none⟩) := e2
    have h5 : us 5 = .slice ab nV cb := e5
    have h7 : us 7 = .slice (some ⟨bt,0,none⟩) nV nV := e7
    have h8 : us 8 = .int .i64 (j : Nat) := e8
    have hdf2 : dfs = [] := hdf
    subst hdf2
    clear hdf hsz e1 e2 e5 e7 e8
    simp only [h1,h2,h5,h7,h8]
    clear h1 h2 h5 h7 h8
    clear hP
    have hP := hide hPs
    have hgm' := hide hgm
    have hC := hide hC0
    clear hPs hgm hC0
    by_cases hlt : j < nV
    ·skip
     have hil : (j : Int) < (nV : Int) := by omega
     have hlt' := hide hlt
     have hjb : (j : Int) ≤ 8 := by have := unhide hl'; omega
     have hjB : j < bst.length := by rw [← unhide hnb]; exact hlt
     obtain ⟨b6,o6,hb6,hx8,hsb0,hx9⟩ := ss_get2 (unhide hP).st.down2 (unhide hq1) (unhide hq3) (unhide hpb)
     clear hx8 hx9
     obtain ⟨bb,ob,rfl,t0⟩ := atI hsb0 hjB
     obtain ⟨jx,hjx,hpx,hjx2⟩ := pos_at (V := V) (x := bst[j]) (by rw [← unhide hids]; exact (unhide hKbp).mem_iff.1 (List.getElem_mem hjB))
     have hjI : jx < ids.length := by rw [← unhide hil0,unhide hnV']; exact hjx
     have hie : ids[jx] = bst[j] := by
      simp only [unhide hids]
      rw [← hjx2]
      exact List.getElem_map _
     have hstC := hide ((unhide hC).step ((unhide hKbp).nodup_iff.2 (unhide hin)) (unhide hin) hjB hjI hie)
     have hCl := hide (show jx < C.length by rw [(unhide hC).len]; exact hjI)
     obtain ⟨x,hx0⟩ : ∃ x,x = bst[j] := ⟨_,rfl⟩
     rw [← hx0] at t0 hpx
     have hpx' := hide hpx
     have hjv : (jx : Int) < (nV : Int) := by have := unhide hnV'; omega
     have hc1 := hide (show ∀ W,Ext wr W → Calls Tryz.prog 19 #[.agg #[.slice A1 nV cA, .slice B1 nE cB], .int .i64 x] W fun e w' => e = .returned (.int .i64 (jx : Nat)) ∧ Ext W w' from fun W hW => find8 _ B1 V nV cA nE cB x jx W ((unhide hsV').ext ((unhide hP).extf.trans hW)) (unhide hnV') (by have := unhide hnV'; have := unhide hl'; omega) (unhide hpx'))
     replace t0 := fun (W : World) (hW : Keep [] wr W) => t0 W (Ext.of_keep0 hW)
     clear hb6 hsb0 hjx hpx hjx2 hjI hie hx0 hlt
     try dsimp only
     repeat ((fail_if_success (with_reducible refine wp_reg (id := 10) ?_)); (first | go_values | go_skip | go_step | go_guarded | go_upon | go_in | go_back | fail))
     with_reducible refine wp_reg (id := 10) ?_
     iterate 4
      refine wpO_want rfl ?_
      go_simp
     refine wpO_done ?_
     try go_frame
     go_wp2_with fail
     have q0 := (unhide hP).cellK (S := []) 0 0 (v := .slice A1 nV cA) rfl rfl (by simp)
     have q1 := (unhide hP).cellK (S := []) 0 1 (v := .slice B1 nE cB) rfl rfl (by simp)
     have hself := Keep.refl [] wr
     refine wp_regionK (P := Tryz.prog) [] [0,1,2,3,4,5,6,7,8] [9] 1 #[true,true,true,true,true,true,true,true,true,false] (by kernel_rfl) (by kernel_rfl) rfl (by rfl) ?_
     iterate 6
      first
      | (refine ql_skip rfl (by rfl) ?_)
      | (refine ql_want (v := ?_) rfl (by rfl) (fun W hW => ?_) ?_; rotate_left; (go_simp; (first | done | rfl)))
      try go_frame
     refine ql_want (v := .int .i64 (jx : Nat)) rfl (by rfl) (fun W hW => ?_) ?_
     ·go_simp
      refine (unhide hc1 W (Ext.of_keep0 hW)).mono ?_
      rintro _ _ ⟨h1,h2⟩
      exact ⟨_,h1,rfl,h2⟩
     go_frame
     iterate 2
      first
      | (refine ql_skip rfl (by rfl) ?_)
      | (refine ql_want (v := ?_) rfl (by rfl) (fun W hW => ?_) ?_; rotate_left; (go_simp; (first | done | rfl)))
      try go_frame
     refine wpQL_nil (fun y6 hxq => ?_)
     have hK := hide (hxq.keep [])
     replace hP : Hid (Sp w [] w [] [(r1,28, #[.slice A1 nV cA, .slice B1 nE cB]),(r2,28, #[.slice none 0 0, .slice none 0 0]),(bt,3,vA encI C)] (ssR (some ⟨b5,o5,none⟩) q c5 J5) y6) := hide ((unhide hP).ext hxq)
     clear hxq
     clear q0 q1 t0 hself hc1 hjv hil
     refine (unhide hP).setX 2 (vA encI (C.set jx (j : Int))) rfl (j := 9) (by kernel_rfl) rfl (by rfl) #[true,true,true,true,true,true,true,true,true,true] (by rfl) rfl (fun hb => run_store_elem1 (enc := encI) (C := C) (i := jx) (v := .int .i64 (j : Nat)) (j : Int) rfl (by first | rfl | (go_simp; done)) rfl rfl (fun _ => rfl) one_encI (Tryz.sizeOf3 _) hb (unhide hCl)) ?_
     intro y7 hQ
     replace hP : Hid (Sp w [] w [] [(r1,28, #[.slice A1 nV cA, .slice B1 nE cB]),(r2,28, #[.slice none 0 0, .slice none 0 0]),(bt,3,vA encI (C.set jx (j : Int)))] (ssR (some ⟨b5,o5,none⟩) q c5 J5) y7) := hide hQ
     clear hQ
     try go_frame
     refine wpX_done (by kernel_rfl) ?_
     try go_frame
     clear hK
     go_wp2_with fail
     refine ⟨nV - (j + 1), ?_,by have := unhide hgm'; have := unhide hlt'; omega⟩
     rw [unhide hI5_6]
     exact ⟨j + 1,C.set jx (j : Int),(by first | rfl | trivial),(by first | rfl | trivial),(by first | rfl | trivial),(by first | rfl | trivial),(by first | rfl | trivial),(by first | rfl | (show _ = Value.int _ _; go_num) | go_num),(by first | rfl | trivial),by have := unhide hlt'; omega,unhide hstC,unhide hP,rfl⟩
    ·skip
     have hil : ¬ (j : Int) < (nV : Int) := by omega
     have hCe := hide ((unhide hC).full (unhide hKbp) (by have := unhide hnb; omega))
     have hCl := hide (show nV = C.length by rw [(unhide hC).len]; exact unhide hil0)
     have hoT := hide (show OkTo V C by rw [unhide hCe,unhide hids]; exact atP_ok (unhide hi') (by rw [← unhide hids]; exact unhide hKbp) (by have := unhide hnV'; have := unhide hl'; omega))
     clear hlt hjn
     try dsimp only
     repeat ((fail_if_success (with_reducible refine wp_reg (id := 10) ?_)); (first | go_values | go_skip | go_step | go_guarded | go_upon | go_in | go_back | fail))
     with_reducible refine wp_reg (id := 10) ?_
     iterate 4
      refine wpO_want rfl ?_
      go_simp
     refine wpO_done ?_
     try go_frame
     clear hil
     have q0 := (unhide hP).cell 0 0 (v := .slice A1 nV cA) rfl rfl
     have q1 := (unhide hP).cell 0 1 (v := .slice B1 nE cB) rfl rfl
     have hself := Ext.refl wr
     try dsimp only
     repeat ((fail_if_success (with_reducible refine wp_reg (id := 13) ?_)); (first | go_values | go_skip | go_step | go_guarded | go_upon | go_in | go_back | fail))
     with_reducible refine wp_reg (id := 13) ?_
     refine wpO_want rfl ?_
     go_simp
     clear q0 q1 hself
     refine wpO_want rfl ?_
     go_simp
     refine wpO_want rfl ?_
     go_simp
     have hca := renamed08_any A1 B1 V E nV nE cA cB (some ⟨bt,0,none⟩) C nV nV wr ((unhide hsV').ext (unhide hP).extf) ((unhide hsE').ext (unhide hP).extf) (unhide hi') (unhide hnV') (unhide hnE') (slat_v ((unhide hP).get 2 rfl) (by have := unhide hCl; have := unhide hl'; omega)) (unhide hCl) (unhide hoT)
     refine hca.mono ?_
     clear hca
     rintro _ y6 ⟨V2,E2,A2,cA2,B2,cB2,hren0,rfl,hs1,hs2,hxc⟩
     have hren := hide hren0
     refine ⟨_,rfl, ?_⟩
     replace hP : Hid (Sp w [] w [] [(r1,28, #[.slice A1 nV cA, .slice B1 nE cB]),(r2,28, #[.slice none 0 0, .slice none 0 0]),(bt,3,vA encI C)] (ssR (some ⟨b5,o5,none⟩) q c5 J5) y6) := hide ((unhide hP).ext hxc)
     have hs1' := hide hs1
     have hs2' := hide hs2
     clear hxc hs1 hs2 hren0
     refine wpO_want rfl ?_
     go_simp
     have hs3 := hide (fun (W : World) (hW : Keep [r2] y6 W) => SlAt.keep_G (unhide hs1') ((unhide hP).get 1 rfl) ⟨_,_,_,rfl⟩ ⟨_,_,_,rfl⟩ encV_ns (fun x => ⟨_,rfl⟩) hW)
     have hs4 := hide (fun (W : World) (hW : Keep [r2] y6 W) => SlAt.keep_G (unhide hs2') ((unhide hP).get 1 rfl) ⟨_,_,_,rfl⟩ ⟨_,_,_,rfl⟩ encE_ns (fun x => ⟨_,rfl⟩) hW)
     refine (unhide hP).setT 1 #[.slice A2 V2.length cA2, .slice B2 E2.length cB2] rfl rfl (fun hb => run_store_row (v := .agg #[.slice A2 V2.length cA2, .slice B2 E2.length cB2]) rfl (by rfl) (by rfl) (by simp [go_sem]) hb rfl (fun u hu => by simp [Value.cells] at hu; rcases hu with rfl | rfl <;> rfl)) ?_
     intro y7 hQ hkq
     replace hP : Hid (Sp w [] w [] [(r1,28, #[.slice A1 nV cA, .slice B1 nE cB]),(r2,28, #[.slice A2 V2.length cA2, .slice B2 E2.length cB2]),(bt,3,vA encI C)] (ssR (some ⟨b5,o5,none⟩) q c5 J5) y7) := hide hQ
     have hs5 := hide (unhide hs3 _ hkq)
     have hs6 := hide (unhide hs4 _ hkq)
     clear hQ hkq hs3 hs4 hs1' hs2'
     try go_frame
     refine wpO_want rfl ?_
     go_simp
     refine wpO_done ?_
     try go_frame
     go_wp2_with fail
     obtain ⟨b6,o6,hb6,_,hsb0,_⟩ := ss_get2 (unhide hP).st.down2 (unhide hq1) (unhide hq3) (unhide hpb)
     have hcan : IsCan V E V2 E2 := ⟨by
      have h := unhide hren
      rw [unhide hCe,unhide hbf,unhide hids] at h
      exact h⟩
     have hbf2 := unhide hbf
     rw [unhide hids] at hbf2
     refine Sp.leaves0 ?_
     have h4 := (unhide hP).get 1 rfl
     refine ⟨_,ret_ct rfl rfl (load_G _ r2 _ _ (h4.cell 0) (h4.cell 1)), ?_⟩
     exact ⟨V2,E2,A2,cA2,B2,cB2,ab,nV,cb,hcan,rfl,unhide hs5,unhide hs6,unhide hnV',by rw [← hbf2]; exact hsb0,(unhide hP).extf⟩
end Go.Proofs.YtbpeemhfjgcnaaaGreat
namespace Go.Proofs.YtbpeemhfjgcnaaaGreat
open Go Go.RowKit Go.Shelf
attribute [local go_sem] qUpon lUpon
attribute [local irreducible] wpO wpX wpQL
def IsoPost (V : List (Int × Thing)) (E : List ((Int × Int) × Thing)) (V' : List (Int × Thing)) (E' : List ((Int × Int) × Thing)) (w : World) (e : Ending) (w' : World) : Prop := ∃ V2 E2 V3 E3,IsCan V E V2 E2 ∧ IsCan V' E' V3 E3 ∧ e = .returned (.tuple #[.bool (decide (V2 = V3) && decide (E2 = E3)), .int .i64 0]) ∧ Ext w w'
set_option maxRecDepth 100000 in
set_option maxHeartbeats 16000000 in
theorem iso_any (g bv be g' bv' be' : Nat) (V V' : List (Int × Thing)) (E E' : List ((Int × Int) × Thing)) (w : World) (hg : IsG w g bv be V E) (hg2 : IsG w g' bv' be' V' E') (hl : V.length ≤ 8) (hl2 : V'.length ≤ 8) (hlb : LabB V E) (hlb2 : LabB V' E') :
  Calls Tryz.prog 27 #[.pointer (some ⟨g,0,none⟩), .pointer (some ⟨g',0,none⟩)] w (IsoPost V E V' E' w) := by
 have hg' := hide hg
 have hg2' := hide hg2
 have hgr := hide hg
 have hgr2 := hide hg2
 have hl' := hide hl
 have hl2' := hide hl2
 have hlb' := hide hlb
 have hlb2' := hide hlb2
 obtain ⟨z,hz0⟩ : ∃ z : Int,z = ((if (0 : Nat) = 0 then 0 else 0 : Nat) : Int) := ⟨_,rfl⟩
 have hq : ((z : Int) != 0) = false := by rw [hz0]; rfl
 have hz' := hide hz0
 clear hg hg2 hl hl2 hlb hlb2 hz0
 have hP := hide (Sp.new w)
 refine callsIn_wide.1 (callsIn_of_wp_marks (n := 0) Tryz.func27 rfl trivial (wpIn_wide.2 ?_))
 simp only [Tryz.ntmps27,List.size_toArray,List.length_cons,List.length_nil,Nat.reduceAdd,Nat.reduceSub,Array.replicate_succ,Array.replicate_zero,List.push_toArray,List.append_toArray,List.nil_append,List.cons_append]
 try dsimp only
 repeat ((fail_if_success (with_reducible refine wp_reg (id := 0) ?_)); (first | go_values | go_skip | go_step | go_guarded | go_upon | go_in | go_back | fail))
 with_reducible refine wp_reg (id := 0) ?_
 iterate 2
  refine wpO_want rfl ?_
  go_simp
 refine wpO_done ?_
 try go_frame
 try dsimp only
 repeat ((fail_if_success (with_reducible refine wp_reg (id := 1) ?_)); (first | go_values | go_skip | go_step | go_guarded | go_upon | go_in | go_back | fail))
 with_reducible refine wp_reg (id := 1) ?_
 iterate 2
  refine wpO_want rfl ?_
  go_simp
 refine (unhide hP).buildO 2 24 #[.pointer (some ⟨g,0,none⟩), .pointer (some ⟨g',0,none⟩)] rfl (by go_simp) ?_
 intro bp y1 hQ
 replace hP : Hid (Sp w [] w [] [(bp,24, #[.pointer (some ⟨g,0,none⟩), .pointer (some ⟨g',0,none⟩)])] [] y1) := hide hQ
 clear hQ
 try go_frame
 refine wpO_want rfl ?_
 go_simp
 refine (asked2 bp (some ⟨g,0,none⟩) (some ⟨g',0,none⟩) 0 0 z y1 ((unhide hP).get 0 rfl) (AskIs.good ((unhide hg').ext (unhide hP).extf) (unhide hl')) (AskIs.good ((unhide hg2').ext (unhide hP).extf) (unhide hl2')) (unhide hz')).mono ?_
 rintro _ y2 ⟨rfl,hxc⟩
 refine ⟨_,rfl, ?_⟩
 replace hP : Hid (Sp w [] w [] [(bp,24, #[.pointer (some ⟨g,0,none⟩), .pointer (some ⟨g',0,none⟩)])] [] y2) := hide ((unhide hP).ext hxc)
 clear hxc
 refine wpO_want rfl ?_
 go_simp
 refine wpO_done ?_
 try go_frame
 replace hP : Hid (Sp w [] w [] [] [] y2) := hide ((unhide hP).sub (List.sublist_append_left _ ([(bp,24, #[.pointer (some ⟨g,0,none⟩), .pointer (some ⟨g',0,none⟩)])] : List Cl)) (List.Sublist.refl _))
 replace hgr := hide ((unhide hg').ext (unhide hP).extf)
 replace hgr2 := hide ((unhide hg2').ext (unhide hP).extf)
 try dsimp only
 repeat ((fail_if_success (with_reducible refine wp_reg (id := 2) ?_)); (first | go_values | go_skip | go_step | go_guarded | go_upon | go_in | go_back | fail))
 with_reducible refine wp_reg (id := 2) ?_
 iterate 2
  refine wpO_want rfl ?_
  go_simp
 refine wpO_done ?_
 try go_frame
 clear hq
 try dsimp only
 repeat ((fail_if_success (with_reducible refine wp_reg (id := 4) ?_)); (first | go_values | go_skip | go_step | go_guarded | go_upon | go_in | go_back | fail))
 with_reducible refine wp_reg (id := 4) ?_
 refine wpO_want rfl ?_
 go_simp
 refine wpO_want rfl ?_
 go_simp
 have hca := canon_any g bv be V E y2 (unhide hgr) (unhide hl') (unhide hlb')
 refine hca.mono ?_
 clear hca
 rintro _ y3 ⟨fa,fav,fae,V2a,E2a,Ala,nla,cla,rfl,hnl0,hgf0,hcan0,ho,hxc,hn7,hn8,hn9⟩
 have hgfa := hide hgf0
 have hcana := hide hcan0
 refine ⟨_,rfl, ?_⟩
 replace hP : Hid (Sp w [] w [] [] [] y3) := hide ((unhide hP).ext hxc)
 replace hgr := hide ((unhide hgr).ext (hxc))
 replace hgr2 := hide ((unhide hgr2).ext (hxc))
 clear hxc ho hgf0 hcan0 hnl0 hn7 hn8 hn9
 generalize htu0 : Value.tuple _ = tu
 have htu := hide htu0
 clear htu0
 refine wpO_val rfl (run_move rfl rfl) ?_
 go_frame
 refine wpO_val rfl (run_extract (i := 0) (v := .pointer (some ⟨fa,0,none⟩)) rfl (unhide htu).symm rfl) ?_
 go_frame
 refine wpO_val rfl (run_extract (i := 1) (v := .slice Ala nla cla) rfl (unhide htu).symm rfl) ?_
 go_frame
 refine wpO_val rfl (run_extract (i := 2) (v := .int .i64 0) rfl (unhide htu).symm rfl) ?_
 go_frame
 iterate 3
  refine wpO_want rfl ?_
  go_simp
 refine wpO_done ?_
 try go_frame
 clear htu
 try dsimp only
 repeat ((fail_if_success (with_reducible refine wp_reg (id := 5) ?_)); (first | go_values | go_skip | go_step | go_guarded | go_upon | go_in | go_back | fail))
 with_reducible refine wp_reg (id := 5) ?_
 refine wpO_want rfl ?_
 go_simp
 refine wpO_want rfl ?_
 go_simp
 have hca := canon_any g' bv' be' V' E' y3 (unhide hgr2) (unhide hl2') (unhide hlb2')
 refine hca.mono ?_
 clear hca
 rintro _ y4 ⟨fb,fbv,fbe,V2b,E2b,Alb,nlb,clb,rfl,hnl0,hgf0,hcan0,ho,hxc,hn7,hn8,hn9⟩
 have hgfb := hide hgf0
 have hcanb := hide hcan0
 refine ⟨_,rfl, ?_⟩
 replace hP : Hid (Sp w [] w [] [] [] y4) := hide ((unhide hP).ext hxc)
 replace hgr := hide ((unhide hgr).ext (hxc))
 replace hgr2 := hide ((unhide hgr2).ext (hxc))
 replace hgfa := hide ((unhide hgfa).ext (hxc))
 clear hxc ho hgf0 hcan0 hnl0 hn7 hn8 hn9
 generalize htu0 : Value.tuple _ = tu
 have htu := hide htu0
 clear htu0
 refine wpO_val rfl (run_move rfl rfl) ?_
 go_frame
 refine wpO_val rfl (run_extract (i := 0) (v := .pointer (some ⟨fb,0,none⟩)) rfl (unhide htu).symm rfl) ?_
 go_frame
 refine wpO_val rfl (run_extract (i := 1) (v := .slice Alb nlb clb) rfl (unhide htu).symm rfl) ?_
 go_frame
 refine wpO_val rfl (run_extract (i := 2) (v := .int .i64 0) rfl (unhide htu).symm rfl) ?_
 go_frame
 iterate 3
  refine wpO_want rfl ?_
  go_simp
 refine wpO_done ?_
 try go_frame
 clear htu
 try dsimp only
 repeat ((fail_if_success (with_reducible refine wp_reg (id := 6) ?_)); (first | go_values | go_skip | go_step | go_guarded | go_upon | go_in | go_back | fail))
 with_reducible refine wp_reg (id := 6) ?_
 iterate 2
  refine wpO_want rfl ?_
  go_simp
 refine wpO_want rfl ?_
 go_simp
 have hca := equal_any fa fav fae fb fbv fbe V2a V2b E2a E2b y4 (unhide hgfa) (unhide hgfb)
 obtain ⟨qq,hqq0⟩ : ∃ q,q = (decide (V2a = V2b) && decide (E2a = E2b)) := ⟨_,rfl⟩
 rw [← hqq0] at hca
 have hqq := hide hqq0
 refine hca.mono ?_
 clear hca hqq0
 rintro _ y5 ⟨rfl,hxc⟩
 refine ⟨_,rfl, ?_⟩
 replace hP : Hid (Sp w [] w [] [] [] y5) := hide ((unhide hP).ext hxc)
 replace hgr := hide ((unhide hgr).ext (hxc))
 replace hgr2 := hide ((unhide hgr2).ext (hxc))
 replace hgfa := hide ((unhide hgfa).ext (hxc))
 replace hgfb := hide ((unhide hgfb).ext (hxc))
 clear hxc
 iterate 2
  refine wpO_want rfl ?_
  go_simp
 refine wpO_done ?_
 try go_frame
 go_wp2_with fail
 refine Sp.leaves0 ?_
 exact ⟨_,results_tmp2 (t := 4) (u := 5) rfl _ _ _,V2a,E2a,V2b,E2b,unhide hcana,unhide hcanb,by rw [← unhide hqq]; rfl,(unhide hP).extf⟩
end Go.Proofs.YtbpeemhfjgcnaaaGreat
namespace Go.Proofs.YtbpeemhfjgcnaaaGreat
open Go Go.RowKit Go.Shelf
attribute [local go_sem] qUpon lUpon
attribute [local irreducible] wpO wpX wpQL
theorem same_forms {V V' V2 V3 V4 V5 : List (Int × Thing)} {E E' E2 E3 E4 E5 : List ((Int × Int) × Thing)} (h2 : IsCan V E V2 E2) (h3 : IsCan V' E' V3 E3) (h4 : IsCan V E V4 E4) (h5 : IsCan V' E' V5 E5) : V2 = V4 ∧ E2 = E4 ∧ V3 = V5 ∧ E3 = E5 := ⟨(h2.ren.uniq h4.ren).1,(h2.ren.uniq h4.ren).2,(h3.ren.uniq h5.ren).1,(h3.ren.uniq h5.ren).2⟩
set_option maxRecDepth 100000 in
set_option maxHeartbeats 16000000 in
theorem isomorphismPerturbed_walk (A : Option Addr) (L : List Ed) (cL : Nat) (d : Ed) (w : World) (hL : SlAt encD 5 w A L) (hok : ∀ d ∈ L,okB d) (_hl9 : L.length ≤ 9223372036854775807) (_hc9 : L.length ≤ cL) (hd : okB d) :
  Calls Tryz.prog 7 #[.slice A L.length cL, .agg (encD d).toArray] w fun e w' => e = .returned (.bool true) ∧ Ext w w' := by
 have hL' := hide hL
 have hlb := hide (mdS_lab hok)
 obtain ⟨op,u,v,lab,wt⟩ := d
 rw [show (encD (op,u,v,lab,wt)).toArray = #[.int .i64 op, .int .i64 u, .int .i64 v, .int .u8 lab, .int .i64 wt] from rfl]
 have hd' := hide hd
 clear hd
 clear hL hok
 have hP := hide (Sp.new w)
 refine callsIn_wide.1 (callsIn_of_wp_marks (n := 0) Tryz.func7 rfl trivial (wpIn_wide.2 ?_))
 simp only [Tryz.ntmps7,List.size_toArray,List.length_cons,List.length_nil,Nat.reduceAdd,Nat.reduceSub,Array.replicate_succ,Array.replicate_zero,List.push_toArray,List.append_toArray,List.nil_append,List.cons_append]
 try dsimp only
 repeat ((fail_if_success (with_reducible refine wp_reg (id := 0) ?_)); (first | go_values | go_skip | go_step | go_guarded | go_upon | go_in | go_back | fail))
 with_reducible refine wp_reg (id := 0) ?_
 refine (unhide hP).allocO 57 #[.int .i64 op, .int .i64 u, .int .i64 v, .int .u8 lab, .int .i64 wt] rfl (run_box (v := .agg #[.int .i64 op, .int .i64 u, .int .i64 v, .int .u8 lab, .int .i64 wt]) rfl rfl) ?_
 intro r3 y1 hQ
 replace hP : Hid (Sp w [] w [] [(r3,57, #[.int .i64 op, .int .i64 u, .int .i64 v, .int .u8 lab, .int .i64 wt])] [] y1) := hide hQ
 clear hQ
 refine wpO_want rfl ?_
 go_simp
 refine wpO_done ?_
 try go_frame
 try dsimp only
 repeat ((fail_if_success (with_reducible refine wp_reg (id := 1) ?_)); (first | go_values | go_skip | go_step | go_guarded | go_upon | go_in | go_back | fail))
 with_reducible refine wp_reg (id := 1) ?_
 refine wpO_want rfl ?_
 go_simp
 have hca := known08_any y1
 refine hca.mono ?_
 clear hca
 rintro _ y2 ⟨rfl,hxc⟩
 refine ⟨_,rfl, ?_⟩
 replace hP : Hid (Sp w [] w [] [(r3,57, #[.int .i64 op, .int .i64 u, .int .i64 v, .int .u8 lab, .int .i64 wt])] [] y2) := hide ((unhide hP).ext hxc)
 clear hxc
 refine wpO_want rfl ?_
 go_simp
 refine wpO_done ?_
 try go_frame
 try dsimp only
 repeat ((fail_if_success (with_reducible refine wp_reg (id := 3) ?_)); (first | go_values | go_skip | go_step | go_guarded | go_upon | go_in | go_back | fail))
 with_reducible refine wp_reg (id := 3) ?_
 refine wpO_want rfl ?_
 go_simp
 refine wpO_want rfl ?_
 go_simp
 have hca := take_any A L cL 6 y2 ((unhide hL').ext (unhide hP).extf)
 have hi := hide (mdS_inv L)
 refine hca.mono ?_
 clear hca
 generalize mdS L = S at *
 obtain ⟨V,E⟩ := S
 try dsimp only at hi hlb ⊢
 rintro _ y3 ⟨g,bv,be,A1,B1,cA,cB,rfl,hg0,hs0,he0,hxc⟩
 refine ⟨_,rfl, ?_⟩
 replace hP : Hid (Sp w [] w [] [(r3,57, #[.int .i64 op, .int .i64 u, .int .i64 v, .int .u8 lab, .int .i64 wt])] [] y3) := hide ((unhide hP).ext hxc)
 have hg := hide hg0
 have hsV := hide hs0
 have hsE := hide he0
 obtain ⟨q,hq⟩ : ∃ q,q = decide ((V.length : Int) ≤ 6) := ⟨_,rfl⟩
 rw [← hq]
 have hq' := hide hq
 clear hxc hg0 hs0 he0 hq
 generalize htu0 : Value.tuple _ = tu
 have htu := hide htu0
 clear htu0
 refine wpO_val rfl (run_move rfl rfl) ?_
 go_frame
 refine wpO_val rfl (run_extract (i := 0) (v := .pointer (some ⟨g,0,none⟩)) rfl (unhide htu).symm rfl) ?_
 go_frame
 refine wpO_val rfl (run_extract (i := 1) (v := .agg #[.slice A1 V.length cA, .slice B1 E.length cB]) rfl (unhide htu).symm rfl) ?_
 go_frame
 refine wpO_val rfl (run_extract (i := 2) (v := .bool q) rfl (unhide htu).symm rfl) ?_
 go_frame
 refine (unhide hP).allocT 28 #[.slice none 0 0, .slice none 0 0] rfl (by go_simp) ?_
 intro r6 y4 hQ hxa hga
 replace hP : Hid (Sp w [] w [] [(r3,57, #[.int .i64 op, .int .i64 u, .int .i64 v, .int .u8 lab, .int .i64 wt]),(r6,28, #[.slice none 0 0, .slice none 0 0])] [] y4) := hide hQ
 clear hQ
 try go_frame
 refine wpO_want rfl ?_
 go_simp
 refine (unhide hP).setT 1 #[.slice A1 V.length cA, .slice B1 E.length cB] rfl rfl (fun hb => run_store_row (v := .agg #[.slice A1 V.length cA, .slice B1 E.length cB]) rfl (by rfl) (by rfl) (by simp [go_sem]) hb rfl (fun u hu => by simp [Value.cells] at hu; rcases hu with rfl | rfl <;> rfl)) ?_
 intro y5 hQ hkq
 replace hP : Hid (Sp w [] w [] [(r3,57, #[.int .i64 op, .int .i64 u, .int .i64 v, .int .u8 lab, .int .i64 wt]),(r6,28, #[.slice A1 V.length cA, .slice B1 E.length cB])] [] y5) := hide hQ
 have hxs := hxa.of_new hkq (fun x hx => by rw [List.mem_singleton] at hx; rw [hx]; exact hga)
 clear hQ hkq hxa hga
 try go_frame
 replace hg := hide ((unhide hg).ext (hxs))
 replace hsV := hide ((unhide hsV).ext (hxs))
 replace hsE := hide ((unhide hsE).ext (hxs))
 clear hxs
 refine wpO_want rfl ?_
 go_simp
 refine wpO_done ?_
 try go_frame
 clear htu
 try dsimp only
 repeat ((fail_if_success (with_reducible refine wp_reg (id := 4) ?_)); (first | go_values | go_skip | go_step | go_guarded | go_upon | go_in | go_back | fail))
 with_reducible refine wp_reg (id := 4) ?_
 iterate 2
  refine wpO_want rfl ?_
  go_simp
 refine wpO_done ?_
 try go_frame
 cases q
 ·skip
  go_wp2_with fail
  refine Sp.leaves0 ?_
  exact ⟨_,results_tmp (t := 4) rfl _ _ _,rfl,(unhide hP).extf⟩
 ·skip
  have hmo := hide (show V.length ≤ 6 by have h := of_decide_eq_true (unhide hq').symm; omega)
  clear hq'
  have q0 := (unhide hP).cell 1 0 (v := .slice A1 V.length cA) rfl rfl
  have q1 := (unhide hP).cell 1 1 (v := .slice B1 E.length cB) rfl rfl
  have p0 := (unhide hP).cell 0 0 (v := .int .i64 op) rfl rfl
  have p1 := (unhide hP).cell 0 1 (v := .int .i64 u) rfl rfl
  have p2 := (unhide hP).cell 0 2 (v := .int .i64 v) rfl rfl
  have p3 := (unhide hP).cell 0 3 (v := .int .u8 lab) rfl rfl
  have p4 := (unhide hP).cell 0 4 (v := .int .i64 wt) rfl rfl
  have hself := Ext.refl y5
  try dsimp only
  repeat ((fail_if_success (with_reducible refine wp_reg (id := 6) ?_)); (first | go_values | go_skip | go_step | go_guarded | go_upon | go_in | go_back | fail))
  with_reducible refine wp_reg (id := 6) ?_
  iterate 2
   refine wpO_want rfl ?_
   go_simp
  clear q0 q1 p0 p1 p2 p3 p4 hself
  refine wpO_want rfl ?_
  go_simp
  have hca := do_any A1 B1 V E cA cB op u v lab wt y5 (unhide hsV) (unhide hsE) (by have := unhide hmo; omega) (unhide hg).nE
  have hi2 := hide (GInv.next op u v lab wt (unhide hi))
  have hlb2 := hide (lab_next (unhide hlb) (op,u,v,lab,wt) (unhide hd').2)
  obtain ⟨zw,hzw0⟩ : ∃ z,z = wrongR op u v wt V E := ⟨_,rfl⟩
  rw [← hzw0] at hca
  clear hzw0
  unfold stD at hlb2
  dsimp only at hlb2
  generalize nxV op u v lab wt V E = Vn at *
  generalize nxE op u v lab wt V E = En at *
  refine hca.mono ?_
  clear hca
  rintro _ y6 ⟨A2,cA2,B2,cB2,rfl,hs1,hs2,hxc⟩
  have hsVn := hide hs1
  have hsEn := hide hs2
  refine ⟨_,rfl, ?_⟩
  replace hP : Hid (Sp w [] w [] [(r3,57, #[.int .i64 op, .int .i64 u, .int .i64 v, .int .u8 lab, .int .i64 wt]),(r6,28, #[.slice A1 V.length cA, .slice B1 E.length cB])] [] y6) := hide ((unhide hP).ext hxc)
  replace hg := hide ((unhide hg).ext (hxc))
  replace hsV := hide ((unhide hsV).ext (hxc))
  replace hsE := hide ((unhide hsE).ext (hxc))
  clear hxc hs1 hs2
  generalize htu0 : Value.tuple _ = tu
  have htu := hide htu0
  clear htu0
  refine wpO_val rfl (run_move rfl rfl) ?_
  go_frame
  refine wpO_val rfl (run_extract (i := 0) (v := .agg #[.slice A2 Vn.length cA2, .slice B2 En.length cB2]) rfl (unhide htu).symm rfl) ?_
  go_frame
  refine wpO_val rfl (run_extract (i := 1) (v := .int .i64 zw) rfl (unhide htu).symm rfl) ?_
  go_frame
  refine (unhide hP).allocT 28 #[.slice none 0 0, .slice none 0 0] rfl (by go_simp) ?_
  intro r8 y7 hQ hxa hga
  replace hP : Hid (Sp w [] w [] [(r3,57, #[.int .i64 op, .int .i64 u, .int .i64 v, .int .u8 lab, .int .i64 wt]),(r6,28, #[.slice A1 V.length cA, .slice B1 E.length cB]),(r8,28, #[.slice none 0 0, .slice none 0 0])] [] y7) := hide hQ
  clear hQ
  try go_frame
  refine (unhide hP).setT 2 #[.slice A2 Vn.length cA2, .slice B2 En.length cB2] rfl rfl (fun hb => run_store_row (v := .agg #[.slice A2 Vn.length cA2, .slice B2 En.length cB2]) rfl (by rfl) (by rfl) (by simp [go_sem]) hb rfl (fun u hu => by simp [Value.cells] at hu; rcases hu with rfl | rfl <;> rfl)) ?_
  intro y8 hQ hkq
  replace hP : Hid (Sp w [] w [] [(r3,57, #[.int .i64 op, .int .i64 u, .int .i64 v, .int .u8 lab, .int .i64 wt]),(r6,28, #[.slice A1 V.length cA, .slice B1 E.length cB]),(r8,28, #[.slice A2 Vn.length cA2, .slice B2 En.length cB2])] [] y8) := hide hQ
  have hxs := hxa.of_new hkq (fun x hx => by rw [List.mem_singleton] at hx; rw [hx]; exact hga)
  clear hQ hkq hxa hga
  try go_frame
  replace hg := hide ((unhide hg).ext (hxs))
  replace hsV := hide ((unhide hsV).ext (hxs))
  replace hsE := hide ((unhide hsE).ext (hxs))
  replace hsVn := hide ((unhide hsVn).ext (hxs))
  replace hsEn := hide ((unhide hsEn).ext (hxs))
  clear hxs
  refine wpO_want rfl ?_
  go_simp
  refine wpO_done ?_
  try go_frame
  clear htu
  have q0 := (unhide hP).cell 2 0 (v := .slice A2 Vn.length cA2) rfl rfl
  have q1 := (unhide hP).cell 2 1 (v := .slice B2 En.length cB2) rfl rfl
  have hself := Ext.refl y8
  try dsimp only
  repeat ((fail_if_success (with_reducible refine wp_reg (id := 7) ?_)); (first | go_values | go_skip | go_step | go_guarded | go_upon | go_in | go_back | fail))
  with_reducible refine wp_reg (id := 7) ?_
  refine wpO_want rfl ?_
  go_simp
  clear q0 q1 hself
  refine wpO_want rfl ?_
  go_simp
  have hca := from_any A2 B2 Vn En cA2 cB2 y8 (unhide hsVn) (unhide hsEn) (unhide hi2)
  refine hca.mono ?_
  clear hca
  rintro _ y9 ⟨gn,gn1,gn2,rfl,hgn0,hxc,hn7,hn8,hn9⟩
  have hgn := hide hgn0
  refine ⟨_,rfl, ?_⟩
  replace hP : Hid (Sp w [] w [] [(r3,57, #[.int .i64 op, .int .i64 u, .int .i64 v, .int .u8 lab, .int .i64 wt]),(r6,28, #[.slice A1 V.length cA, .slice B1 E.length cB]),(r8,28, #[.slice A2 Vn.length cA2, .slice B2 En.length cB2])] [] y9) := hide ((unhide hP).ext hxc)
  replace hg := hide ((unhide hg).ext (hxc))
  replace hsV := hide ((unhide hsV).ext (hxc))
  replace hsE := hide ((unhide hsE).ext (hxc))
  replace hsVn := hide ((unhide hsVn).ext (hxc))
  replace hsEn := hide ((unhide hsEn).ext (hxc))
  clear hxc hgn0 hn7 hn8 hn9
  refine wpO_want rfl ?_
  go_simp
  refine wpO_done ?_
  try go_frame
  have q0 := (unhide hP).cell 2 0 (v := .slice A2 Vn.length cA2) rfl rfl
  have hself := Ext.refl y9
  by_cases hz0 : zw = 0
  ·skip
   subst hz0
   by_cases h6 : (6 : Int) < (Vn.length : Int)
   ·skip
    try dsimp only
    repeat ((fail_if_success (with_reducible refine wp_reg (id := 8) ?_)); (first | go_values | go_skip | go_step | go_guarded | go_upon | go_in | go_back | fail))
    with_reducible refine wp_reg (id := 8) ?_
    iterate 12
     refine wpO_want rfl ?_
     go_simp
    refine wpO_done ?_
    try go_frame
    clear q0 hself h6
    go_wp2_with fail
    refine Sp.leaves0 ?_
    exact ⟨_,results_tmp (t := 4) rfl _ _ _,rfl,(unhide hP).extf⟩
   ·skip
    have hm6 := hide (show Vn.length ≤ 6 by omega)
    try dsimp only
    repeat ((fail_if_success (with_reducible refine wp_reg (id := 8) ?_)); (first | go_values | go_skip | go_step | go_guarded | go_upon | go_in | go_back | fail))
    with_reducible refine wp_reg (id := 8) ?_
    iterate 12
     refine wpO_want rfl ?_
     go_simp
    refine wpO_done ?_
    try go_frame
    clear q0 hself h6
    try dsimp only
    repeat ((fail_if_success (with_reducible refine wp_reg (id := 10) ?_)); (first | go_values | go_skip | go_step | go_guarded | go_upon | go_in | go_back | fail))
    with_reducible refine wp_reg (id := 10) ?_
    iterate 2
     refine wpO_want rfl ?_
     go_simp
    refine wpO_want rfl ?_
    go_simp
    have hca := iso_any g bv be gn gn1 gn2 V Vn E En y9 (unhide hg) (unhide hgn) (by have := unhide hmo; omega) (by have := unhide hm6; omega) (unhide hlb) (unhide hlb2)
    refine hca.mono ?_
    clear hca
    rintro _ y10 ⟨V4,E4,V5,E5,hc4,hc5,rfl,hxc⟩
    have hc4' := hide hc4
    have hc5' := hide hc5
    obtain ⟨qq,hqq0⟩ : ∃ q,q = (decide (V4 = V5) && decide (E4 = E5)) := ⟨_,rfl⟩
    rw [← hqq0]
    have hqq := hide hqq0
    refine ⟨_,rfl, ?_⟩
    replace hP : Hid (Sp w [] w [] [(r3,57, #[.int .i64 op, .int .i64 u, .int .i64 v, .int .u8 lab, .int .i64 wt]),(r6,28, #[.slice A1 V.length cA, .slice B1 E.length cB]),(r8,28, #[.slice A2 Vn.length cA2, .slice B2 En.length cB2])] [] y10) := hide ((unhide hP).ext hxc)
    replace hg := hide ((unhide hg).ext (hxc))
    replace hsV := hide ((unhide hsV).ext (hxc))
    replace hsE := hide ((unhide hsE).ext (hxc))
    replace hsVn := hide ((unhide hsVn).ext (hxc))
    replace hsEn := hide ((unhide hsEn).ext (hxc))
    replace hgn := hide ((unhide hgn).ext (hxc))
    clear hxc hc4 hc5 hqq0
    generalize htu0 : Value.tuple _ = tu
    have htu := hide htu0
    clear htu0
    refine wpO_val rfl (run_move rfl rfl) ?_
    go_frame
    refine wpO_val rfl (run_extract (i := 0) (v := .bool qq) rfl (unhide htu).symm rfl) ?_
    go_frame
    refine wpO_val rfl (run_extract (i := 1) (v := .int .i64 0) rfl (unhide htu).symm rfl) ?_
    go_frame
    iterate 2
     refine wpO_want rfl ?_
     go_simp
    refine wpO_done ?_
    try go_frame
    clear htu
    have q0 := (unhide hP).cell 1 0 (v := .slice A1 V.length cA) rfl rfl
    have q1 := (unhide hP).cell 1 1 (v := .slice B1 E.length cB) rfl rfl
    have hself := Ext.refl y10
    try dsimp only
    repeat ((fail_if_success (with_reducible refine wp_reg (id := 11) ?_)); (first | go_values | go_skip | go_step | go_guarded | go_upon | go_in | go_back | fail))
    with_reducible refine wp_reg (id := 11) ?_
    refine wpO_want rfl ?_
    go_simp
    clear q0 q1 hself
    refine wpO_want rfl ?_
    go_simp
    have hca := form08_any A1 B1 V E V.length E.length cA cB y10 (unhide hsV) (unhide hsE) (unhide hi) (unhide hlb) rfl rfl (by have := unhide hmo; omega)
    refine hca.mono ?_
    clear hca
    rintro _ y11 ⟨V3a,E3a,A3a,cA3a,B3a,cB3a,Awa,nwa,cwa,hcan3,rfl,hs3,he3,hnw0,hsw0,hxc⟩
    have hfca := hide hcan3
    have hsV3a := hide hs3
    have hsE3a := hide he3
    refine ⟨_,rfl, ?_⟩
    replace hP : Hid (Sp w [] w [] [(r3,57, #[.int .i64 op, .int .i64 u, .int .i64 v, .int .u8 lab, .int .i64 wt]),(r6,28, #[.slice A1 V.length cA, .slice B1 E.length cB]),(r8,28, #[.slice A2 Vn.length cA2, .slice B2 En.length cB2])] [] y11) := hide ((unhide hP).ext hxc)
    replace hg := hide ((unhide hg).ext (hxc))
    replace hsV := hide ((unhide hsV).ext (hxc))
    replace hsE := hide ((unhide hsE).ext (hxc))
    replace hsVn := hide ((unhide hsVn).ext (hxc))
    replace hsEn := hide ((unhide hsEn).ext (hxc))
    replace hgn := hide ((unhide hgn).ext (hxc))
    clear hxc hcan3 hnw0 hsw0 hs3 he3
    generalize htu0 : Value.tuple _ = tu
    have htu := hide htu0
    clear htu0
    refine wpO_val rfl (run_move rfl rfl) ?_
    go_frame
    refine wpO_val rfl (run_extract (i := 0) (v := .agg #[.slice A3a V3a.length cA3a, .slice B3a E3a.length cB3a]) rfl (unhide htu).symm rfl) ?_
    go_frame
    refine wpO_val rfl (run_extract (i := 1) (v := .slice Awa nwa cwa) rfl (unhide htu).symm rfl) ?_
    go_frame
    refine (unhide hP).allocT 28 #[.slice none 0 0, .slice none 0 0] rfl (by go_simp) ?_
    intro r13 y12 hQ hxa hga
    replace hP : Hid (Sp w [] w [] [(r3,57, #[.int .i64 op, .int .i64 u, .int .i64 v, .int .u8 lab, .int .i64 wt]),(r6,28, #[.slice A1 V.length cA, .slice B1 E.length cB]),(r8,28, #[.slice A2 Vn.length cA2, .slice B2 En.length cB2]),(r13,28, #[.slice none 0 0, .slice none 0 0])] [] y12) := hide hQ
    clear hQ
    try go_frame
    refine (unhide hP).setT 3 #[.slice A3a V3a.length cA3a, .slice B3a E3a.length cB3a] rfl rfl (fun hb => run_store_row (v := .agg #[.slice A3a V3a.length cA3a, .slice B3a E3a.length cB3a]) rfl (by rfl) (by rfl) (by simp [go_sem]) hb rfl (fun u hu => by simp [Value.cells] at hu; rcases hu with rfl | rfl <;> rfl)) ?_
    intro y13 hQ hkq
    replace hP : Hid (Sp w [] w [] [(r3,57, #[.int .i64 op, .int .i64 u, .int .i64 v, .int .u8 lab, .int .i64 wt]),(r6,28, #[.slice A1 V.length cA, .slice B1 E.length cB]),(r8,28, #[.slice A2 Vn.length cA2, .slice B2 En.length cB2]),(r13,28, #[.slice A3a V3a.length cA3a, .slice B3a E3a.length cB3a])] [] y13) := hide hQ
    have hxs := hxa.of_new hkq (fun x hx => by rw [List.mem_singleton] at hx; rw [hx]; exact hga)
    clear hQ hkq hxa hga
    try go_frame
    replace hg := hide ((unhide hg).ext (hxs))
    replace hsV := hide ((unhide hsV).ext (hxs))
    replace hsE := hide ((unhide hsE).ext (hxs))
    replace hsVn := hide ((unhide hsVn).ext (hxs))
    replace hsEn := hide ((unhide hsEn).ext (hxs))
    replace hgn := hide ((unhide hgn).ext (hxs))
    replace hsV3a := hide ((unhide hsV3a).ext (hxs))
    replace hsE3a := hide ((unhide hsE3a).ext (hxs))
    clear hxs
    refine wpO_want rfl ?_
    go_simp
    refine wpO_done ?_
    try go_frame
    clear htu
    have q0 := (unhide hP).cell 2 0 (v := .slice A2 Vn.length cA2) rfl rfl
    have q1 := (unhide hP).cell 2 1 (v := .slice B2 En.length cB2) rfl rfl
    have hself := Ext.refl y13
    try dsimp only
    repeat ((fail_if_success (with_reducible refine wp_reg (id := 12) ?_)); (first | go_values | go_skip | go_step | go_guarded | go_upon | go_in | go_back | fail))
    with_reducible refine wp_reg (id := 12) ?_
    refine wpO_want rfl ?_
    go_simp
    clear q0 q1 hself
    refine wpO_want rfl ?_
    go_simp
    have hca := form08_any A2 B2 Vn En Vn.length En.length cA2 cB2 y13 (unhide hsVn) (unhide hsEn) (unhide hi2) (unhide hlb2) rfl rfl (by have := unhide hm6; omega)
    refine hca.mono ?_
    clear hca
    rintro _ y14 ⟨V3b,E3b,A3b,cA3b,B3b,cB3b,Awb,nwb,cwb,hcan3,rfl,hs3,he3,hnw0,hsw0,hxc⟩
    have hfcb := hide hcan3
    have hsV3b := hide hs3
    have hsE3b := hide he3
    refine ⟨_,rfl, ?_⟩
    replace hP : Hid (Sp w [] w [] [(r3,57, #[.int .i64 op, .int .i64 u, .int .i64 v, .int .u8 lab, .int .i64 wt]),(r6,28, #[.slice A1 V.length cA, .slice B1 E.length cB]),(r8,28, #[.slice A2 Vn.length cA2, .slice B2 En.length cB2]),(r13,28, #[.slice A3a V3a.length cA3a, .slice B3a E3a.length cB3a])] [] y14) := hide ((unhide hP).ext hxc)
    replace hg := hide ((unhide hg).ext (hxc))
    replace hsV := hide ((unhide hsV).ext (hxc))
    replace hsE := hide ((unhide hsE).ext (hxc))
    replace hsVn := hide ((unhide hsVn).ext (hxc))
    replace hsEn := hide ((unhide hsEn).ext (hxc))
    replace hgn := hide ((unhide hgn).ext (hxc))
    replace hsV3a := hide ((unhide hsV3a).ext (hxc))
    replace hsE3a := hide ((unhide hsE3a).ext (hxc))
    clear hxc hcan3 hnw0 hsw0 hs3 he3
    generalize htu0 : Value.tuple _ = tu
    have htu := hide htu0
    clear htu0
    refine wpO_val rfl (run_move rfl rfl) ?_
    go_frame
    refine wpO_val rfl (run_extract (i := 0) (v := .agg #[.slice A3b V3b.length cA3b, .slice B3b E3b.length cB3b]) rfl (unhide htu).symm rfl) ?_
    go_frame
    refine wpO_val rfl (run_extract (i := 1) (v := .slice Awb nwb cwb) rfl (unhide htu).symm rfl) ?_
    go_frame
    refine (unhide hP).allocT 28 #[.slice none 0 0, .slice none 0 0] rfl (by go_simp) ?_
    intro r15 y15 hQ hxa hga
    replace hP : Hid (Sp w [] w [] [(r3,57, #[.int .i64 op, .int .i64 u, .int .i64 v, .int .u8 lab, .int .i64 wt]),(r6,28, #[.slice A1 V.length cA, .slice B1 E.length cB]),(r8,28, #[.slice A2 Vn.length cA2, .slice B2 En.length cB2]),(r13,28, #[.slice A3a V3a.length cA3a, .slice B3a E3a.length cB3a]),(r15,28, #[.slice none 0 0, .slice none 0 0])] [] y15) := hide hQ
    clear hQ
    try go_frame
    refine (unhide hP).setT 4 #[.slice A3b V3b.length cA3b, .slice B3b E3b.length cB3b] rfl rfl (fun hb => run_store_row (v := .agg #[.slice A3b V3b.length cA3b, .slice B3b E3b.length cB3b]) rfl (by rfl) (by rfl) (by simp [go_sem]) hb rfl (fun u hu => by simp [Value.cells] at hu; rcases hu with rfl | rfl <;> rfl)) ?_
    intro y16 hQ hkq
    replace hP : Hid (Sp w [] w [] [(r3,57, #[.int .i64 op, .int .i64 u, .int .i64 v, .int .u8 lab, .int .i64 wt]),(r6,28, #[.slice A1 V.length cA, .slice B1 E.length cB]),(r8,28, #[.slice A2 Vn.length cA2, .slice B2 En.length cB2]),(r13,28, #[.slice A3a V3a.length cA3a, .slice B3a E3a.length cB3a]),(r15,28, #[.slice A3b V3b.length cA3b, .slice B3b E3b.length cB3b])] [] y16) := hide hQ
    have hxs := hxa.of_new hkq (fun x hx => by rw [List.mem_singleton] at hx; rw [hx]; exact hga)
    clear hQ hkq hxa hga
    try go_frame
    replace hg := hide ((unhide hg).ext (hxs))
    replace hsV := hide ((unhide hsV).ext (hxs))
    replace hsE := hide ((unhide hsE).ext (hxs))
    replace hsVn := hide ((unhide hsVn).ext (hxs))
    replace hsEn := hide ((unhide hsEn).ext (hxs))
    replace hgn := hide ((unhide hgn).ext (hxs))
    replace hsV3a := hide ((unhide hsV3a).ext (hxs))
    replace hsE3a := hide ((unhide hsE3a).ext (hxs))
    replace hsV3b := hide ((unhide hsV3b).ext (hxs))
    replace hsE3b := hide ((unhide hsE3b).ext (hxs))
    clear hxs
    refine wpO_want rfl ?_
    go_simp
    refine wpO_done ?_
    try go_frame
    clear htu
    have q0 := (unhide hP).cell 3 0 (v := .slice A3a V3a.length cA3a) rfl rfl
    have q1 := (unhide hP).cell 3 1 (v := .slice B3a E3a.length cB3a) rfl rfl
    have q2 := (unhide hP).cell 4 0 (v := .slice A3b V3b.length cA3b) rfl rfl
    have q3 := (unhide hP).cell 4 1 (v := .slice B3b E3b.length cB3b) rfl rfl
    have hself := Ext.refl y16
    try dsimp only
    repeat ((fail_if_success (with_reducible refine wp_reg (id := 13) ?_)); (first | go_values | go_skip | go_step | go_guarded | go_upon | go_in | go_back | fail))
    with_reducible refine wp_reg (id := 13) ?_
    iterate 6
     refine wpO_want rfl ?_
     go_simp
    clear q0 q1 q2 q3 hself
    refine wpO_want rfl ?_
    go_simp
    obtain ⟨rfl,rfl,rfl,rfl⟩ := same_forms (unhide hfca) (unhide hfcb) (unhide hc4') (unhide hc5')
    have hnV3 := hide (Nat.le_trans (unhide hfca).ren.inv.nv (by decide : 1024 ≤ 4096))
    have hnE3 := hide (Nat.le_trans (unhide hfca).ren.inv.ne (by decide : 1024 ≤ 4096))
    have hca := same_any A3a B3a A3b B3b V3a V3b E3a E3b cA3a cB3a cA3b cB3b y16 (unhide hsV3a) (unhide hsE3a) (unhide hsV3b) (unhide hsE3b) (unhide hnV3) (unhide hnE3)
    rw [← unhide hqq] at hca
    refine hca.mono ?_
    clear hca
    rintro _ y17 ⟨rfl,hxc⟩
    refine ⟨_,rfl, ?_⟩
    replace hP : Hid (Sp w [] w [] [(r3,57, #[.int .i64 op, .int .i64 u, .int .i64 v, .int .u8 lab, .int .i64 wt]),(r6,28, #[.slice A1 V.length cA, .slice B1 E.length cB]),(r8,28, #[.slice A2 Vn.length cA2, .slice B2 En.length cB2]),(r13,28, #[.slice A3a V3a.length cA3a, .slice B3a E3a.length cB3a]),(r15,28, #[.slice A3b V3b.length cA3b, .slice B3b E3b.length cB3b])] [] y17) := hide ((unhide hP).ext hxc)
    replace hg := hide ((unhide hg).ext (hxc))
    replace hsV := hide ((unhide hsV).ext (hxc))
    replace hsE := hide ((unhide hsE).ext (hxc))
    replace hsVn := hide ((unhide hsVn).ext (hxc))
    replace hsEn := hide ((unhide hsEn).ext (hxc))
    replace hgn := hide ((unhide hgn).ext (hxc))
    replace hsV3a := hide ((unhide hsV3a).ext (hxc))
    replace hsE3a := hide ((unhide hsE3a).ext (hxc))
    replace hsV3b := hide ((unhide hsV3b).ext (hxc))
    replace hsE3b := hide ((unhide hsE3b).ext (hxc))
    clear hxc
    have hqe : (qq == qq) = true := by simp
    iterate 3
     refine wpO_want rfl ?_
     go_simp
    refine wpO_done ?_
    try go_frame
    go_wp2_with fail
    refine Sp.leaves0 ?_
    exact ⟨_,results_tmp (t := 4) rfl _ _ _,(by first | rfl | simp),(unhide hP).extf⟩
  ·skip
   have hzq : ((zw : Int) != 0) = true := by simp [hz0]
   clear hz0
   try dsimp only
   repeat ((fail_if_success (with_reducible refine wp_reg (id := 8) ?_)); (first | go_values | go_skip | go_step | go_guarded | go_upon | go_in | go_back | fail))
   with_reducible refine wp_reg (id := 8) ?_
   iterate 3
    refine wpO_want rfl ?_
    go_simp
   refine wpO_out (by rfl) ?_
   go_frame
   refine wpO_out (by rfl) ?_
   go_frame
   iterate 2
    refine wpO_want rfl ?_
    go_simp
   refine wpO_out (by rfl) ?_
   go_frame
   refine wpO_out (by rfl) ?_
   go_frame
   refine wpO_out (by rfl) ?_
   go_frame
   refine wpO_out (by rfl) ?_
   go_frame
   refine wpO_want rfl ?_
   go_simp
   refine wpO_done ?_
   try go_frame
   clear hzq q0 hself
   go_wp2_with fail
   refine Sp.leaves0 ?_
   exact ⟨_,results_tmp (t := 4) rfl _ _ _,rfl,(unhide hP).extf⟩
end Go.Proofs.YtbpeemhfjgcnaaaGreat
namespace Go.Proofs.YtbpeemhfjgcnaaaGreat
open Go Go.RowKit Go.ChangeShapes Go.WideShapes Go.Deep
section
variable {H : Type} {enc : TypeId × Value → H} {w : World} {base : Nat} {spare : Nat → Bool} {held : Bool}
set_option maxRecDepth 100000 in
theorem open_editB {r : Reach} {b0 : Nat} {v : Value} {d : DataW H} {p : List MemPlace} (hv : Value.okWide Tryz.prog w r b0 57 v) (h : DataW.Trod enc Tryz.prog w base spare held 57 v d p) :
  ∃ x : Ed,v = .agg (encD x).toArray ∧ okB x := by
 obtain ⟨cs,rfl,hsz⟩ := okWide_struct Tryz.underlying57 hv
 have h5 : cs.size = 5 := hsz.trans (by kernel_rfl)
 obtain ⟨l⟩ := cs
 match l,h5 with
 | [c0,c1,c2,c3,c4],_ =>
  obtain ⟨fuel,hf⟩ := h
  obtain ⟨xs,n,_,_,_,hlen,hg⟩ := DataW.trod_struct Tryz.underlying57 hf
  match xs,hlen with
  | [y0,y1,y2,y3,y4],_ =>
   have r0 := hg 0 _ rfl
   have r1 := hg 1 _ rfl
   have r2 := hg 2 _ rfl
   have r3 := hg 3 _ rfl
   have r4 := hg 4 _ rfl
   have q0 : DataW.trod enc Tryz.prog w base spare held n 3 [c0] = some y0 := r0
   have q1 : DataW.trod enc Tryz.prog w base spare held n 3 [c1] = some y1 := r1
   have q2 : DataW.trod enc Tryz.prog w base spare held n 3 [c2] = some y2 := r2
   have q3 : DataW.trod enc Tryz.prog w base spare held n 5 [c3] = some y3 := r3
   have q4 : DataW.trod enc Tryz.prog w base spare held n 3 [c4] = some y4 := r4
   obtain ⟨n0,e0,_,w0⟩ := DataW.trod_int Tryz.underlying3 q0
   obtain ⟨n1,e1,_,w1⟩ := DataW.trod_int Tryz.underlying3 q1
   obtain ⟨n2,e2,_,w2⟩ := DataW.trod_int Tryz.underlying3 q2
   obtain ⟨n3,e3,_,w3⟩ := DataW.trod_int Tryz.underlying5 q3
   obtain ⟨n4,e4,_,w4⟩ := DataW.trod_int Tryz.underlying3 q4
   simp at e0 e1 e2 e3 e4
   subst e0 e1 e2 e3 e4
   exact ⟨(n0,n1,n2,n3,n4),rfl,⟨i64_of_wf w0,i64_of_wf w1,i64_of_wf w2,i64_of_wf w4⟩,Go.bounds_u8 w3⟩
end
end Go.Proofs.YtbpeemhfjgcnaaaGreat
namespace Go.Proofs.YtbpeemhfjgcnaaaGreat.isomorphismPerturbedRow
open Go.ChangeShapes Go.WideShapes Go.ChangeAt Go.RowKit
set_option linter.unusedVariables false
theorem own : ownKnob Tryz.prog.godebug = none := by kernel_rfl
theorem laidOut : laidOutB Tryz.prog = true := by kernel_rfl
set_option maxRecDepth 100000 in
theorem lifted (os : Os) (started : os.Started) (H : Type) (enc : TypeId × Value → H) :
  ReturnsInHanded {} Tryz.checked os 7 .any (Rows.isomorphismPerturbedSpec.pre6 enc Tryz.prog Tryz.f7 Rows.isomorphismPerturbedRow.domain false) (Rows.isomorphismPerturbedSpec.post enc Tryz.prog Tryz.f7 false true false false) := by
 refine returnsInHanded_of_change (C := Tryz.checked) own started (by kernel_rfl) Tryz.func7
  (ChangeSpec.witness6 (enc := enc) (C := Tryz.checked) false ⟨#[], #[.slice none 0 0, .agg #[.int .i64 0, .int .i64 0, .int .i64 0, .int .u8 0, .int .i64 0]],[]⟩ 8 (by kernel_rfl) (by kernel_rfl) (by kernel_rfl) (by kernel_rfl)) ?_
 intro W base args ds gs before hval0 hW hcnd _
 have hval : ∀ (j : Nat) t v,Tryz.f7.params[j]? = some t → args[j]? = some v → Value.okWide Tryz.prog W .any base t v := hval0
 have hW' := hW
 obtain ⟨p,q,hA0,hV,rfl,hfz,hnd⟩ := hW
 have hA : DataW.TrodAll enc Tryz.prog W 0 (fun _ => true) true Tryz.f7.params.toList args.toList ds p := hA0
 rw [Tryz.params7] at hA hval
 obtain ⟨v0,vs0,d0,ds0,p0,q0,hargs,rfl,rfl,h0,r0⟩ := trodAll_cons hA
 obtain ⟨v1,vs1,d1,ds1,p1,q1,rfl,rfl,rfl,h1,r1⟩ := trodAll_cons r0
 obtain ⟨rfl,rfl,rfl⟩ := trodAll_nil r1
 obtain rfl : args = #[v0,v1] := by cases args; simp_all
 obtain ⟨rfl,rfl⟩ := trodVars_none hV
 obtain ⟨a0,len0,cap0,rfl⟩ := okWide_slice Tryz.underlying22 (hval 0 22 v0 rfl rfl)
 have k0 := h0
 have lt0 : ∀ x ∈ p0,x.block < W.heap.size := by obtain ⟨m,hm⟩ := k0; exact DataW.trod_lt m _ _ _ hm
 obtain ⟨fu0,hf0⟩ := h0
 obtain ⟨L0,hn0,hs0,ho0,hm0,hz0⟩ := open_editsB (by simpa [Value.cells] using hf0)
 subst hn0
 have k1 := h1
 have lt1 : ∀ x ∈ p1,x.block < W.heap.size := by obtain ⟨m,hm⟩ := k1; exact DataW.trod_lt m _ _ _ hm
 obtain ⟨x1,rfl,ho1⟩ := open_editB (hval 1 57 v1 rfl rfl) h1
 clear hA0 hval0
 refine (isomorphismPerturbed_walk a0 L0 cap0 x1 W hs0 ho0 hm0 hz0 ho1).mono fun e W' ⟨he,bel⟩ => ?_
 subst he
 exact ⟨_,rfl,_,_,_,[],_,[],hW',trodAll_mk1 (shut_bool Tryz.underlying4 _),(trodAll_cons_mk (Below.trod laidOut (by kernel_rfl) (of_decide_eq_true (by kernel_rfl)) k0 bel lt0) (trodAll_cons_mk (Below.trod laidOut (by kernel_rfl) (of_decide_eq_true (by kernel_rfl)) k1 bel lt1) trodAll_mk0)),rfl,bel.frame _,fun h => by cases h⟩
theorem over : Rows.isomorphismPerturbedRow.holds Tryz.pinned (OpenSpec.ofChange Rows.isomorphismPerturbedSpec) :=
 OpenClaim.holds_of_wide 7 Tryz.f7 rfl rfl rfl rfl rfl rfl rfl ⟨rfl,rfl,rfl,rfl,rfl⟩ rfl rfl rfl rfl rfl (by kernel_rfl) Tryz.func7 (by kernel_rfl)
  (of_decide_eq_true (by kernel_rfl)) (by unfold Func.isWrapper; first | (rw [if_pos (by decide +kernel)]; kernel_rfl) | (rw [if_neg (by decide +kernel)]; exact ⟨rfl,rfl⟩))
  (fun os started H enc _ => lifted os started H enc)
end Go.Proofs.YtbpeemhfjgcnaaaGreat.isomorphismPerturbedRow
namespace Go.Proofs.YtbpeemhfjgcnaaaGreat
theorem isomorphismPerturbed_holds : Rows.IsomorphismPerturbedSaid := isomorphismPerturbedRow.over
#print axioms isomorphismPerturbed_holds
end Go.Proofs.YtbpeemhfjgcnaaaGreat
