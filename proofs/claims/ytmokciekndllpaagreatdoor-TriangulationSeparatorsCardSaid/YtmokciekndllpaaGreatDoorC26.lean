/- Parts of a proof, laid together. Each part says its own conditions. -/
import Derived.Test.YtmokciekndllpaaGreatDoorC19
import Derived.Test.YtmokciekndllpaaGreatDoorC20
import Derived.Test.YtmokciekndllpaaGreatDoorC25
import Derived.Laws.BitsAllLaws
namespace Go.Proofs.YtmokciekndllpaaGreatDoor
open Go Go.RowKit Go.Shelf
section
variable {w W : World} {mb : Nat} {m : List (Int × Nat)}
end
section
variable {κ τ : Type} [DecidableEq κ] {ek : κ → Value} {ev : τ → Value} {ok : κ → Prop} {P : Program} {kt et t T : TypeId} {wf : World} {T0 : List Nat} {w W : World} {ds : List Deferred} {L : List Cl} {Rs : List Rw} {l : List Oper} {K : Act → World → Prop} {r : List Oper} {o : Oper} {a : Act} {mb n : Nat} {m : List (κ × τ)}
theorem Sp.mapPutX {C : World → Prop} {safe : Nat → Bool} {Q : Act → World → Prop} {listed : Array Bool} {j nn : Nat} (h : Sp wf T0 w ds L Rs W) (i : Nat) (hi : Rs[i]? = some (T,0, .map (some mb),n,mapXs ek ev m)) (hok : ∀ p ∈ m,ok p.1)
  (hr : Region.ready .any l.toArray listed = [j]) (ho0 : pick l j = some o) (hw : Region.wanted o (yielded l.toArray a.tmps) = true) (listed' : Array Bool) (hl : listed.setIfInBounds j true = listed') (hs0 : safe j = false)
  (Kk : KE P kt ek ok) (ht : P.underlying t = some (.map kt et)) {x : κ} (hx : ok x) (v : τ) {p q s : Operand} (ho : o.op = .mapUpdate t p q s) (hp : a.eval p = .map (some mb)) (hq : a.eval q = ek x) (hs : a.eval s = ev v) (n' : Nat)
  (hk : ∀ W',Sp wf T0 w ds L (Rs.set i (T,0, .map (some mb),n',mapXs ek ev (putM m x v))) W' → wpX P l.toArray Ext C safe Q nn listed' (a.put o.dst undef) W') : wpX P l.toArray Ext C safe Q (nn + 1) listed a W := by
 obtain ⟨w',h1,h2,h3,_⟩ := run_update_op Kk ht (h.map i hi hok) hx v ho hp hq hs
 exact lx_skipX hr ho0 hw listed' hl h1 (fun h => by rw [hs0] at h; cases h) (fun _ hx => hk _ ((h.mapSet i hi h2.raw h3).ext hx))
end
section
variable {P : Program} {α : Type} {wf : World}
theorem wp_rngM {g : Operand} {ps : Array Tmp} {assign body : Code} {Q : Exit → Act → World → Prop} {a : Act} {w W : World} {T0 : List Nat} {ds : List Deferred} {L : List Cl} {Rs : List Rw} {gf : Nat} {lb : Array Value}
  (hP : Sp wf T0 w ds L Rs W) (hg : a.eval g = .func (.func gf) #[] lb) (eg : ∀ args w,(callFunc gf args).run P w = .ok (.enter gf args) w)
  {encs : α → Array Value} {xs : List α} {np : Nat} {ex : List Nat} (hex : ∀ b ∈ ex,b < W.heap.size ∧ b ∉ stT L Rs) (hit : Iter1 P gf lb encs xs np ex W) (hps : ∀ x,(encs x).size = ps.size)
  (F : List α → List Cl → List Rw → Prop) (Fx : Code → List Cl → List Rw → Prop) (Pa : Array Value → List Nat → α → Act → World → Prop)
  (hPa : ∀ T' x a1 A B,Pa a.tmps T' x a1 A → Keep (privs W.heap.size (2 + np)) A B → Pa a.tmps T' x a1 B) (h0 : F [] L Rs)
  (hassign : ∀ (T' : List Nat) (x : α) (W' : World) (K : Act → World → Prop),(∀ y ∈ T',y < W'.heap.size) → W.heap.size + (2 + np) ≤ W'.heap.size → (∀ a1 W1,Pa a.tmps T' x a1 W1 → Ext W' W1 → K a1 W1) →
   assign.wpIn (RF (W.heap.size + 1)) 0 P (Exit.then K (fun _ _ _ => False)) { tmps := (ps.zip (encs x)).foldl (fun t (p,v) => t.setIfInBounds p v) a.tmps,defers := [] } W')
  (hbody : ∀ (l : Nat) (pre : List α) (x : α) (a1 : Act) (L' : List Cl) (Rs' : List Rw) (W' : World),F pre L' Rs' → Sp wf (stT L' Rs') W' [] L' Rs' W' → Pa a.tmps (stT L' Rs') x a1 W' → (pre ++ [x]) <+: xs → (∃ r,W'.heap[l]? = some (.loop r)) → Keep (stT L Rs) W W' → tIn (stT L Rs) W.heap.size (stT L' Rs') →
   body.wpIn (RF l) 0 P (sPost wf (F (pre ++ [x])) Fx (stT L' Rs') W') a1 W')
  (hdone : ∀ (D : Nat) (L' : List Cl) (Rs' : List Rw) (W' : World),W.heap.size ≤ D → F xs L' Rs' → Keep (stT L Rs) W W' → Sp wf T0 w ({ target := .collected D,args := #[] } :: ds) L' Rs' W' → Q .normal { a with defers := { target := .collected D,args := #[] } :: a.defers } W')
  (hstop : ∀ (D : Nat) (c : Code) (L' : List Cl) (Rs' : List Rw) (W' : World),Fx c L' Rs' → Keep (stT L Rs) W W' → Sp wf T0 w ({ target := .collected D,args := #[] } :: ds) L' Rs' W' → c.wp P Q { a with defers := { target := .collected D,args := #[] } :: a.defers } W') :
  (Code.rangeFunc g ps assign body).wp P Q a W := by
 refine wp_rng hg eg (T := stT L Rs) hex hit hps (fun pre T' W' => ∃ L' Rs',F pre L' Rs' ∧ T' = stT L' Rs' ∧ St wf.heap.size L' Rs' W') (fun c T' W' => ∃ L' Rs',Fx c L' Rs' ∧ T' = stT L' Rs' ∧ St wf.heap.size L' Rs' W') Pa
  (fun pre T' A B S ⟨L',Rs',h1,h2,h3⟩ hk hS => ⟨L',Rs',h1,h2,h3.keep hk (by rw [← h2]; exact hS)⟩) (fun c T' A B S ⟨L',Rs',h1,h2,h3⟩ hk hS => ⟨L',Rs',h1,h2,h3.keep hk (by rw [← h2]; exact hS)⟩)
  (fun pre T' A ⟨L',Rs',_,h2,h3⟩ => by rw [h2]; exact h3.lt) hPa hP.lt ⟨L,Rs,h0,rfl,hP.st⟩ hassign ?_ ?_ ?_
 ·rintro pre x a1 T' W' ⟨L',Rs',h1,rfl,h3⟩ hk hT hp hpx hsz hr
  exact wpIn_mono (hbody _ pre x a1 L' Rs' W' h1 (hP.round hk h3) hp hpx hr hk (fun x hx => (hT x hx).imp id (fun h => by omega))) fun e a2 W2 h => bPost_of_sPost h
 ·rintro T' W' ⟨L',Rs',h1,rfl,h3⟩ hk hT hD
  exact hdone _ L' Rs' W' (Nat.le_refl _) h1 hk (hP.mark h3 hk hT hD)
 ·rintro c T' W' ⟨L',Rs',h1,rfl,h3⟩ hk hT hD
  exact hstop _ c L' Rs' W' h1 hk (hP.mark h3 hk hT hD)
end
theorem turn_snoc (f : Nat → Int → Nat) (l : List Int) (m : List (Int × Nat)) (o : Int) : turnM f (l ++ [o]) m = putM (turnM f l m) o (f (nrM (turnM f l m) o) o) := by
 unfold turnM
 rw [List.foldl_append]
 rfl
theorem turn_ok (f : Nat → Int → Nat) : ∀ (l : List Int) (m : List (Int × Nat)),(∀ p ∈ m,i64ok p.1) → (∀ x ∈ l,i64ok x) → ∀ p ∈ turnM f l m,i64ok p.1
 | [],_,h,_ => h
 | o :: l,m,h,hl => turn_ok f l (putM m o (f (nrM m o) o)) (putM_ok h (hl o (by simp))) (fun x hx => hl x (by simp [hx]))
theorem toL_ok {N : Nat} {x : Int} (h : x ∈ toL N) : i64ok x := okK ⟨(mem_toL'.1 h).1,(mem_toL'.1 h).2.1⟩
end Go.Proofs.YtmokciekndllpaaGreatDoor
namespace Go.Proofs.YtmokciekndllpaaGreatDoor
open Go Go.RowKit
attribute [local go_sem] qUpon lUpon
def GL (w : World) (o : Option Addr) (V : List (Int × Thing)) (E : List ((Int × Int) × Thing)) : Prop := (∃ g bv be,o = some ⟨g,0,none⟩ ∧ IsG w g bv be V E) ∨ (o = none ∧ V = [] ∧ E = [])
theorem GL.ext {w w' : World} {o : Option Addr} {V : List (Int × Thing)} {E : List ((Int × Int) × Thing)} (h : GL w o V E) (hx : Ext w w') : GL w' o V E := by
 rcases h with ⟨g,bv,be,h1,h2⟩ | h
 ·exact .inl ⟨g,bv,be,h1,h2.ext hx⟩
 ·exact .inr h
theorem GL.of {w : World} {g bv be : Nat} {V : List (Int × Thing)} {E : List ((Int × Int) × Thing)} (h : IsG w g bv be V E) : GL w (some ⟨g,0,none⟩) V E := .inl ⟨g,bv,be,rfl,h⟩
set_option maxRecDepth 100000 in
theorem vertsN (w : World) : Calls Tryz.prog 95 #[.pointer none] w fun e w' => e = .returned (.slice none 0 0) ∧ Ext w w' := by
 go_enter Tryz.func95,Tryz.ntmps95
 go_wp2_with fail
 go_ret
 exact ⟨rfl,Ext.refl _⟩
set_option maxRecDepth 100000 in
theorem edgesN (w : World) : Calls Tryz.prog 96 #[.pointer none] w fun e w' => e = .returned (.slice none 0 0) ∧ Ext w w' := by
 go_enter Tryz.func96,Tryz.ntmps96
 go_wp2_with fail
 go_ret
 exact ⟨rfl,Ext.refl _⟩
theorem nearG (o : Option Addr) (V : List (Int × Thing)) (E : List ((Int × Int) × Thing)) (id : Int) (w : World) (hg : GL w o V E) : Calls Tryz.prog 55 #[.pointer o, .int .i64 id] w fun e w' => e = .returned (.agg (setC (nearS id E))) ∧ Ext w w' := by
 rcases hg with ⟨g,bv,be,rfl,h⟩ | ⟨rfl,rfl,rfl⟩
 ·exact near_rel g bv be V E id w h
 ·exact near_gen _ id [] w (by simp) fun W _ => (edgesN W).mono fun e w' h => ⟨none,0,h.1,fun h => absurd rfl h,h.2⟩
theorem vsetG (o : Option Addr) (V : List (Int × Thing)) (E : List ((Int × Int) × Thing)) (w : World) (hg : GL w o V E) : Calls Tryz.prog 53 #[.pointer o] w fun e w' => e = .returned (.agg (setC (vS V))) ∧ Ext w w' := by
 rcases hg with ⟨g,bv,be,rfl,h⟩ | ⟨rfl,rfl,rfl⟩
 ·exact vset_rel g bv be V E w h
 ·exact vset_gen _ [] w (by simp) fun W _ => (vertsN W).mono fun e w' h => ⟨none,0,h.1,fun h => absurd rfl h,h.2⟩
end Go.Proofs.YtmokciekndllpaaGreatDoor
namespace Go.Proofs.YtmokciekndllpaaGreatDoor
open Go Go.RowKit
attribute [local go_sem] qUpon lUpon
set_option maxRecDepth 100000 in
set_option maxHeartbeats 4000000 in
theorem inter_any (N M : Nat) (w : World) : Calls Tryz.prog 61 #[.agg (setC N), .agg (setC M)] w fun e w' => e = .returned (.agg (setC (N &&& M))) ∧ Ext w w' := by
 obtain ⟨R,hR⟩ : ∃ R,R = N &&& M := ⟨_,rfl⟩
 rw [← hR]
 have hR' := hide hR
 clear hR
 have hB2 := hide (((Blk.new w 25 (setC N)).ext (ext_self1 _ (.cells (setC M) 25))).ext (ext_self1 _ (.cells (setC 0) 25)))
 have hB3 := hide ((Blk.new (w.alloc (.cells (setC N) 25)) 25 (setC M)).ext (ext_self1 _ (.cells (setC 0) 25)))
 have hB4 := hide (Blk.new ((w.alloc (.cells (setC N) 25)).alloc (.cells (setC M) 25)) 25 (setC 0))
 have hx1 := hide (ext_self3 w (.cells (setC N) 25) (.cells (setC M) 25) (.cells (setC 0) 25))
 simp only [World.size_alloc] at hB3 hB4
 go_enter Tryz.func61,Tryz.ntmps61
 go_wp2_with fail
 have hz : setC 0 = #[.int .u64 0, .int .u64 0, .int .u64 0, .int .u64 0, .int .u64 0, .int .u64 0, .int .u64 0, .int .u64 0, .int .u64 0, .int .u64 0, .int .u64 0, .int .u64 0, .int .u64 0, .int .u64 0, .int .u64 0, .int .u64 0] := rfl
 rw [hz] at hx1 hB2 hB3 hB4
 generalize ((w.alloc (.cells (setC N) 25)).alloc (.cells (setC M) 25)).alloc (.cells #[.int .u64 0, .int .u64 0, .int .u64 0, .int .u64 0, .int .u64 0, .int .u64 0, .int .u64 0, .int .u64 0, .int .u64 0, .int .u64 0, .int .u64 0, .int .u64 0, .int .u64 0, .int .u64 0, .int .u64 0, .int .u64 0] 25) = W1 at *
 rw [← hz] at hB4
 clear hz
 have hne := hide (show w.heap.size ≠ w.heap.size + 1 ∧ w.heap.size ≠ w.heap.size + 1 + 1 ∧ w.heap.size + 1 ≠ w.heap.size + 1 + 1 by omega)
 have hge := hide (show w.heap.size ≤ w.heap.size ∧ w.heap.size ≤ w.heap.size + 1 + 1 by omega)
 generalize hb4e : w.heap.size + 1 + 1 = b4 at *
 generalize hb3e : w.heap.size + 1 = b3 at *
 generalize hb2e : w.heap.size = b2 at *
 rw [← hb2e] at hge
 rw [hb2e] at hge
 have hsz := hide hb2e
 clear hb2e hb3e hb4e
 go_loopw [6] (fun i wr => ∃ k : Nat,k ≤ 16 ∧ i = .int .i64 k ∧ Blk wr b2 25 (setC (mixS R N k)) ∧ Blk wr b3 25 (setC M) ∧ Blk wr b4 25 (setC 0) ∧ Ext w wr) (fun i _ => 16 - (intOf i).toNat)
 case atStart => exact ⟨0,Nat.zero_le _,rfl,by rw [setC_mix0]; exact unhide hB2,unhide hB3,unhide hB4,unhide hx1⟩
 case round =>
  obtain ⟨k,hk,rfl,hB,hC,hA,hx⟩ := hrel
  have hB' := hide hB
  have hC' := hide hC
  have hA' := hide hA
  have hx' := hide hx
  clear hB2 hB3 hB4 hx1
  by_cases hlt : k < 16
  ·have c0 := hB.cells k (setC_get (mixS R N k) hlt)
   rw [mixS_at] at c0
   have c1 := hC.cells k (setC_get M hlt)
   have hself := Ext.refl wr
   clear hB hC hA hx
   go_wp2_with fail
   refine wp_region_still (P := Tryz.prog) [0,1,2,3,4,5,6,7] [8] 1 #[true,true,true,true,true,true,true,true,false] (by kernel_rfl) (by kernel_rfl) rfl (by rfl) ?_
   iterate 8
    refine ql_want (v := ?_) rfl (by rfl) (fun W hW => ?_) ?_
    rotate_left
    ·go_simp
     first | done | rfl
    go_frame
   refine wpQL_nil (fun w3 hx3 => ?_)
   have c2 := c0 w3 hx3
   have f2 := ((unhide hB').ext hx3).frozen k
   refine lx_one (i := 8) (by kernel_rfl) rfl (by rfl) #[true,true,true,true,true,true,true,true,true] (by rfl) ?_
   go_simp
   rw [wd_and, ← unhide hR']
   refine wpX_done (by kernel_rfl) ?_
   try go_frame
   have hB4' := hide (((unhide hB').ext hx3).set k (.int .u64 (wd R k)))
   have hC4' := hide (((unhide hC').ext hx3).keep (Keep.setCell w3 b2 k (.int .u64 (wd R k))) (by simpa using (unhide hne).1.symm))
   have hA4' := hide (((unhide hA').ext hx3).keep (Keep.setCell w3 b2 k (.int .u64 (wd R k))) (by simpa using (unhide hne).2.1.symm))
   have hx4' := hide (((unhide hx').trans hx3).of_new (Keep.setCell w3 b2 k (.int .u64 (wd R k))) (by rw [← unhide hsz]; simp))
   clear hB' hC' hA' hx' hx3 c0 c1 c2 f2 hself
   go_wp2_with fail
   go_roundw
   case rel => exact ⟨k + 1,by omega,by go_num,by have h := unhide hB4'; rw [setC_mix _ _ _ hlt] at h; exact h,unhide hC4',unhide hA4',unhide hx4'⟩
   case measure => simp [intOf]; omega
  ·have hke : k = 16 := by omega
   subst hke
   rw [setC_mix16] at hB hB'
   have hself := Ext.refl wr
   clear hB hC hA hx
   try dsimp only
   repeat ((fail_if_success (with_reducible refine wp_reg (id := 6) ?_)); (first | go_values | go_skip | go_step | go_guarded | go_upon | go_in | go_back | fail))
   with_reducible refine wp_reg (id := 6) ?_
   refine wpO_val rfl (load_SetR rfl rfl (unhide hB').whole) (wpO_skip rfl (store_SetR rfl rfl rfl (unhide hA')) (wpO_done ?_))
   go_wp2_with fail
   refine bodyPost_ret (ret_cell1 rfl rfl (load_Set _ b4 R ((unhide hA').row _))) rfl ?_
   exact ⟨rfl,(unhide hx').of_new (Keep.setRow wr b4 _) (by have := (unhide hne).2.1; have := unhide hsz; have := (unhide hge).2; simp; omega)⟩
end Go.Proofs.YtmokciekndllpaaGreatDoor
namespace Go.Proofs.YtmokciekndllpaaGreatDoor
section
variable {A B : Int → Int → Prop} {S T : Int → Prop}
theorem Rch.mono (hS : ∀ x,S x → T x) {u v : Int} (h : Rch A S u v) : Rch A T u v := h.lift (fun _ _ h => .edge h) hS
theorem Rch.flip (hA : ∀ u v,A u v → A v u) {u v : Int} (h : Rch A S u v) : Rch A S v u := by
 induction h with
 | edge h => exact .edge (hA _ _ h)
 | step h hs _ ih => exact ih.trans hs (.edge (hA _ _ h))
theorem Rch.firstZ (P : Int → Prop) {u v : Int} (h : Rch A S u v) : Rch A (fun x => S x ∧ ¬ P x) u v ∨ ∃ x,S x ∧ P x ∧ Rch A (fun x => S x ∧ ¬ P x) u x ∧ Rch A S x v := by
 induction h with
 | edge h => exact .inl (.edge h)
 | @step u s v h hs t ih =>
  by_cases hp : P s
  ·exact .inr ⟨s,hs,hp, .edge h,t⟩
  ·rcases ih with ih | ⟨x,h1,h2,h3,h4⟩
   ·exact .inl (.step h ⟨hs,hp⟩ ih)
   ·exact .inr ⟨x,h1,h2, .step h ⟨hs,hp⟩ h3,h4⟩
end
def MRun (A : Int → Int → Prop) : (Int → Nat) → List (Int × (Int → Bool)) → Prop
 | _,[] => True
 | w,(z,q) :: l => (∀ p ∈ l,w p.1 ≤ w z) ∧ (∀ p ∈ l,(q p.1 = true ↔ Rch A (fun x => x ∈ l.map (·.1) ∧ w x < w p.1) z p.1)) ∧ MRun A (fun y => if q y = true then w y + 1 else w y) l
section
variable {A : Int → Int → Prop}
theorem light_next {z : Int} {q : Int → Bool} {l : List (Int × (Int → Bool))} {w : Int → Nat} (h2 : ∀ p ∈ l,(q p.1 = true ↔ Rch A (fun x => x ∈ l.map (·.1) ∧ w x < w p.1) z p.1)) {y : Int} (hy : y ∈ l.map (·.1)) {u v : Int} (hv : v = y)
  (h : Rch A (fun x => x ∈ l.map (·.1) ∧ w x < w y) u v) : Rch A (fun x => x ∈ l.map (·.1) ∧ (if q x = true then w x + 1 else w x) < (if q y = true then w y + 1 else w y)) u v := by
 have hr : q y = true ↔ Rch A (fun x => x ∈ l.map (·.1) ∧ w x < w y) z y := by
  obtain ⟨py,hpy,rfl⟩ := List.mem_map.1 hy
  exact h2 py hpy
 clear hy
 induction h with
 | edge h => exact .edge h
 | @step u s v h hs t ih =>
  refine .step h ⟨hs.1, ?_⟩ (ih hv)
  subst hv
  obtain ⟨ps,hps,rfl⟩ := List.mem_map.1 hs.1
  by_cases hq : q ps.1 = true
  ·have hz : q v = true := hr.2 ((((h2 ps hps).1 hq).mono fun x ⟨a,b⟩ => ⟨a,by have := hs.2; omega⟩).trans hs t)
   have := hs.2
   rw [if_pos hq,if_pos hz]
   omega
  ·rw [if_neg hq]
   have := hs.2
   split <;> omega
theorem low_later : ∀ {l1 : List (Int × (Int → Bool))} {y : Int} {qy : Int → Bool} {l2 : List (Int × (Int → Bool))} {w : Int → Nat},MRun A w (l1 ++ (y,qy) :: l2) →
  ∀ {u : Int},Rch A (fun x => x ∈ (l1 ++ (y,qy) :: l2).map (·.1) ∧ w x < w y) u y → Rch A (fun x => x ∈ l2.map (·.1)) u y
 | [],y,qy,l2,w,_,u,h => h.mono fun x ⟨hx,hl⟩ => by
  simp only [List.nil_append,List.map_cons,List.mem_cons] at hx
  rcases hx with rfl | hx
  ·omega
  ·exact hx
 | (z,q) :: l1,y,qy,l2,w,⟨h1,h2,h3⟩,u,h => by
  have hy : (y,qy) ∈ l1 ++ (y,qy) :: l2 := by simp
  have hyz : w y ≤ w z := h1 _ hy
  refine low_later h3 (light_next h2 (List.mem_map.2 ⟨_,hy,rfl⟩) rfl (h.mono fun x ⟨hx,hw⟩ => ⟨?_,hw⟩))
  rw [List.cons_append,List.map_cons,List.mem_cons] at hx
  rcases hx with rfl | hx
  ·omega
  ·exact hx
theorem heavy_not : ∀ {l1 : List (Int × (Int → Bool))} {y : Int} {qy : Int → Bool} {l2 : List (Int × (Int → Bool))} {w : Int → Nat},MRun A w (l1 ++ (y,qy) :: l2) →
  ∀ {x : Int},x ∈ l2.map (·.1) → w y < w x → Rch A (fun x => x ∈ l2.map (·.1)) y x → False
 | [],y,qy,l2,w,⟨h1,_,_⟩,x,hx,hw,_ => by
  obtain ⟨p,hp,rfl⟩ := List.mem_map.1 hx
  have := h1 p hp
  omega
 | (z,q) :: l1,y,qy,l2,w,⟨h1,h2,h3⟩,x,hx,hw,h => by
  have hy : (y,qy) ∈ l1 ++ (y,qy) :: l2 := by simp
  have hr : q y = true ↔ Rch A (fun x => x ∈ (l1 ++ (y,qy) :: l2).map (·.1) ∧ w x < w y) z y := h2 _ hy
  have hsub : ∀ s ∈ l2.map (·.1),s ∈ (l1 ++ (y,qy) :: l2).map (·.1) := fun s hs => by
   rw [List.map_append,List.map_cons]
   simp [hs]
  by_cases hq : q y = true
  ·-- the nearest heavier one is raised too
   have key : ∃ x,x ∈ l2.map (·.1) ∧ w y < w x ∧ Rch A (fun x => x ∈ l2.map (·.1) ∧ ¬ w y < w x) y x := by
    rcases h.firstZ (fun s => w y < w s) with h | ⟨x,a,b,c,_⟩
    ·exact ⟨x,hx,hw,h⟩
    ·exact ⟨x,a,b,c⟩
   obtain ⟨x,hx,hw,h⟩ := key
   obtain ⟨ps,hps,hpe⟩ := List.mem_map.1 (hsub x hx)
   have hqx : q x = true := by
    rw [← hpe]
    refine (h2 ps hps).2 ?_
    rw [hpe]
    refine ((hr.1 hq).mono fun s ⟨a,b⟩ => ⟨a,by omega⟩).trans ⟨List.mem_map.2 ⟨_,hy,rfl⟩,hw⟩ (h.mono fun s ⟨a,b⟩ => ⟨hsub s a,by omega⟩)
   exact heavy_not h3 hx (by rw [if_pos hq,if_pos hqx]; omega) (h.mono fun s hs => hs.1)
  ·refine heavy_not h3 hx ?_ h
   rw [if_neg hq]
   split <;> omega
theorem reach_iff (hA : ∀ u v,A u v → A v u) {z : Int} {q : Int → Bool} {l1 : List (Int × (Int → Bool))} {y : Int} {qy : Int → Bool} {l2 : List (Int × (Int → Bool))} {w : Int → Nat} (h : MRun A w ((z,q) :: (l1 ++ (y,qy) :: l2))) :
  q y = true ↔ Rch A (fun x => x ∈ l2.map (·.1)) z y := by
 obtain ⟨h1,h2,h3⟩ := h
 have hy : (y,qy) ∈ l1 ++ (y,qy) :: l2 := by simp
 have hr : q y = true ↔ Rch A (fun x => x ∈ (l1 ++ (y,qy) :: l2).map (·.1) ∧ w x < w y) z y := h2 _ hy
 have hsub : ∀ s ∈ l2.map (·.1),s ∈ (l1 ++ (y,qy) :: l2).map (·.1) := fun s hs => by
  rw [List.map_append,List.map_cons]
  simp [hs]
 constructor
 ·intro hq
  exact low_later h3 (light_next h2 (List.mem_map.2 ⟨_,hy,rfl⟩) rfl (hr.1 hq))
 ·intro hp
  by_cases hq : q y = true
  ·exact hq
  ·exfalso
   rcases hp.firstZ (fun s => w y ≤ w s) with h | ⟨x,a,b,c,d⟩
   ·exact hq (hr.2 (h.mono fun s ⟨a,b⟩ => ⟨hsub s a,by omega⟩))
   ·obtain ⟨ps,hps,hpe⟩ := List.mem_map.1 (hsub x a)
    have hqx : q x = true := by
     rw [← hpe]
     refine (h2 ps hps).2 ?_
     rw [hpe]
     exact c.mono fun s ⟨e,f⟩ => ⟨hsub s e,by omega⟩
    exact heavy_not h3 a (by rw [if_neg hq,if_pos hqx]; omega) (d.flip hA)
end
section
variable {H : Int → Int → Prop}
end
end Go.Proofs.YtmokciekndllpaaGreatDoor
namespace Go.Proofs.YtmokciekndllpaaGreatDoor
def Cn (A : Int → Int → Prop) (S : Int → Prop) (u v : Int) : Prop := S u ∧ S v ∧ (u = v ∨ Rch A S u v)
def Nbc (A : Int → Int → Prop) (S : Int → Prop) (c x : Int) : Prop := ∃ y,Cn A S c y ∧ A y x
section
variable {A : Int → Int → Prop} {S T : Int → Prop} {u v x : Int}
theorem Cn.rf (h : S u) : Cn A S u u := ⟨h,h, .inl rfl⟩
theorem Cn.sy (hA : ∀ u v,A u v → A v u) (h : Cn A S u v) : Cn A S v u := ⟨h.2.1,h.1,h.2.2.imp Eq.symm (Rch.flip hA)⟩
theorem Cn.tr (h : Cn A S u v) (t : Cn A S v x) : Cn A S u x := by
 refine ⟨h.1,t.2.1, ?_⟩
 rcases h.2.2 with rfl | h1
 ·exact t.2.2
 ·rcases t.2.2 with rfl | t1
  ·exact .inr h1
  ·exact .inr (h1.trans h.2.1 t1)
theorem Cn.one (h : S u) (h1 : S v) (h2 : A u v) : Cn A S u v := ⟨h,h1, .inr (.edge h2)⟩
theorem Cn.on (h : Cn A S u v) (h1 : S x) (h2 : A v x) : Cn A S u x := h.tr (.one h.2.1 h1 h2)
theorem Cn.mono (h : Cn A S u v) (hs : ∀ x,S x → T x) : Cn A T u v := ⟨hs _ h.1,hs _ h.2.1,h.2.2.imp id (Rch.mono hs)⟩
theorem Cn.ind {P : Int → Prop} (h : Cn A S u v) (h0 : P u) (h1 : ∀ a b,P a → S a → S b → A a b → P b) : P v := by
 obtain ⟨hu,hv,h⟩ := h
 rcases h with rfl | h
 ·exact h0
 ·induction h with
  | edge h => exact h1 _ _ h0 hu hv h
  | step h hs _ ih => exact ih (h1 _ _ h0 hu hs h) hs hv
theorem Cn.within (h : Cn A S u v) (hP : ∀ y,Cn A S u y → T y) : Cn A T u v := by
 refine Cn.ind (P := fun y => Cn A S u y ∧ Cn A T u y) h ⟨.rf h.1, .rf (hP u (.rf h.1))⟩ (fun a b ⟨h1,h2⟩ _ hb hab => ?_) |>.2
 have h3 := h1.on hb hab
 exact ⟨h3,h2.on (hP b h3) hab⟩
end
section
variable {A : Int → Int → Prop} {V : Int → Prop}
def Bes (A : Int → Int → Prop) (V X : Int → Prop) (c x : Int) : Prop := V x ∧ ¬ Cn A X c x ∧ Nbc A X c x
theorem bes_keep {X : Int → Prop} {c : Int} (hX : ∀ x,X x → V x) (hc : X c) {y : Int} : Cn A (fun x => V x ∧ ¬ Bes A V X c x) c y ↔ Cn A X c y := by
 constructor
 ·intro h
  refine Cn.ind (P := fun y => Cn A X c y) h (.rf hc) (fun a b h1 _ hb hab => ?_)
  by_cases h2 : Cn A X c b
  ·exact h2
  ·exact absurd ⟨hb.1,h2,a,h1,hab⟩ hb.2
 ·intro h
  exact h.within fun y hy => ⟨hX _ hy.2.1,fun hb => hb.2.1 hy⟩
def Ful (A : Int → Int → Prop) (V s : Int → Prop) (c : Int) : Prop := V c ∧ ¬ s c ∧ ∀ x,s x → Nbc A (fun x => V x ∧ ¬ s x) c x
def Sepr (A : Int → Int → Prop) (V s : Int → Prop) : Prop := (∀ x,s x → V x) ∧ ∃ a b,Ful A V s a ∧ Ful A V s b ∧ ¬ Cn A (fun x => V x ∧ ¬ s x) a b
theorem bes_ful {X : Int → Prop} {c : Int} (hX : ∀ x,X x → V x) (hc : X c) : Ful A V (Bes A V X c) c :=
 ⟨hX c hc,fun h => h.2.1 (.rf hc),fun _ hx => by
  obtain ⟨y,hy,hA⟩ := hx.2.2
  exact ⟨y,(bes_keep hX hc).2 hy,hA⟩⟩
theorem sepr_vertex (hA : ∀ u v,A u v → A v u) {v c : Int} (hv : V v) (hc : V c ∧ c ≠ v ∧ ¬ A v c) : Sepr A V (Bes A V (fun x => V x ∧ x ≠ v ∧ ¬ A v x) c) := by
 have hX : ∀ x,V x ∧ x ≠ v ∧ ¬ A v x → V x := fun x h => h.1
 refine ⟨fun x h => h.1,c,v,bes_ful hX hc,⟨hv, ?_,fun x hx => ?_⟩,fun h => ?_⟩
 ·rintro ⟨_,_,y,h1,h2⟩
  exact h1.2.1.2.2 (hA _ _ h2)
 ·have hx' := hx
  obtain ⟨h1,h2,y,h3,h4⟩ := hx
  have hxv : ¬ (V x ∧ x ≠ v ∧ ¬ A v x) := fun h => h2 (h3.on h h4)
  have hne : x ≠ v := fun e => by
   subst e
   exact h3.2.1.2.2 (hA _ _ h4)
  refine ⟨v, .rf ⟨hv, ?_⟩, ?_⟩
  ·rintro ⟨_,_,y,h1,h2⟩
   exact h1.2.1.2.2 (hA _ _ h2)
  ·by_cases h : A v x
   ·exact h
   ·exact absurd ⟨h1,hne,h⟩ hxv
 ·exact ((bes_keep hX hc).1 h).2.1.2.1 rfl
theorem sepr_step (hA : ∀ u v,A u v → A v u) {s : Int → Prop} (hs : Sepr A V s) {z c : Int} (hz : s z) (hc : V c ∧ ¬ s c ∧ ¬ A z c) : Sepr A V (Bes A V (fun x => V x ∧ ¬ s x ∧ ¬ A z x) c) := by
 have hX : ∀ x,V x ∧ ¬ s x ∧ ¬ A z x → V x := fun x h => h.1
 have hXs : ∀ x,V x ∧ ¬ s x ∧ ¬ A z x → V x ∧ ¬ s x := fun x h => ⟨h.1,h.2.1⟩
 obtain ⟨h0,a,b,ha,hb,hab⟩ := hs
 have hd : ∃ d,Ful A V s d ∧ ¬ Cn A (fun x => V x ∧ ¬ s x) d c := by
  by_cases h1 : Cn A (fun x => V x ∧ ¬ s x) a c
  ·exact ⟨b,hb,fun h2 => hab (h1.tr (h2.sy hA))⟩
  ·exact ⟨a,ha,h1⟩
 obtain ⟨d,hd,hdc⟩ := hd
 have hzn : ¬ Bes A V (fun x => V x ∧ ¬ s x ∧ ¬ A z x) c z := by
  rintro ⟨_,_,y,h1,h2⟩
  exact h1.2.1.2.2 (hA _ _ h2)
 have hkeep : ∀ y,Cn A (fun x => V x ∧ ¬ s x) d y → Cn A (fun x => V x ∧ ¬ Bes A V (fun x => V x ∧ ¬ s x ∧ ¬ A z x) c x) d y := fun y hy => hy.within fun y hy => by
  refine ⟨hy.2.1.1, ?_⟩
  rintro ⟨_,_,x,h1,h2⟩
  exact hdc ((hy.on (hXs _ h1.2.1) (hA _ _ h2)).tr ((h1.mono hXs).sy hA))
 obtain ⟨y0,hy0,hy1⟩ := hd.2.2 z hz
 have hzd : ∀ y,Cn A (fun x => V x ∧ ¬ s x) d y → Cn A (fun x => V x ∧ ¬ Bes A V (fun x => V x ∧ ¬ s x ∧ ¬ A z x) c x) z y := fun y hy =>
  ((hkeep y0 hy0).on ⟨h0 z hz,hzn⟩ hy1).sy hA |>.tr (hkeep y hy)
 refine ⟨fun x h => h.1,c,z,bes_ful hX hc,⟨h0 z hz,hzn,fun x hx => ?_⟩,fun h => ?_⟩
 ·obtain ⟨h1,h2,y,h3,h4⟩ := hx
  have hxv : ¬ (V x ∧ ¬ s x ∧ ¬ A z x) := fun h => h2 (h3.on h h4)
  by_cases hsx : s x
  ·obtain ⟨y1,h5,h6⟩ := hd.2.2 x hsx
   exact ⟨y1,hzd y1 h5,h6⟩
  ·refine ⟨z, .rf ⟨h0 z hz,hzn⟩, ?_⟩
   by_cases h : A z x
   ·exact h
   ·exact absurd ⟨h1,hsx,h⟩ hxv
 ·exact ((bes_keep hX hc).1 h).2.1.2.1 hz
open Classical in
theorem sepr_gen (hA : ∀ u v,A u v → A v u) {L : List Int} (hL : ∀ x,V x → x ∈ L) {G : (Int → Prop) → Prop}
  (hG : ∀ s z c,G s → s z → (V c ∧ ¬ s c ∧ ¬ A z c) → G (Bes A V (fun x => V x ∧ ¬ s x ∧ ¬ A z x) c))
  {t : Int → Prop} {a b : Int} (ha : Ful A V t a) (hb : Ful A V t b) (hab : ¬ Cn A (fun x => V x ∧ ¬ t x) a b) :
  ∀ (n : Nat) (s : Int → Prop),(L.filter fun y => decide (Cn A (fun x => V x ∧ ¬ s x) b y)).length ≤ n → G s → (∀ x,s x → Nbc A (fun x => V x ∧ ¬ s x) b x) →
   (∀ y,Cn A (fun x => V x ∧ ¬ t x) b y → Cn A (fun x => V x ∧ ¬ s x) b y) → (∀ x,s x → Cn A (fun x => V x ∧ ¬ t x) a x ∨ t x) → ¬ s a → ¬ Cn A (fun x => V x ∧ ¬ s x) b a → (∀ x,s x → V x) → (∀ x,t x → V x) → G t
 | n,s,hn,hg,hN,hB,hsub,hsa,hba,hsV,htV => by
  by_cases hex : ∃ z,s z ∧ Cn A (fun x => V x ∧ ¬ t x) a z
  ·obtain ⟨z,hz,hza⟩ := hex
   have hbt : V b ∧ ¬ t b := ⟨hb.1,hb.2.1⟩
   have hzB : ∀ y,Cn A (fun x => V x ∧ ¬ t x) b y → ¬ A z y := fun y hy h => hab ((hza.on hy.2.1 h).tr (hy.sy hA))
   have hbX : ∀ y,Cn A (fun x => V x ∧ ¬ t x) b y → V y ∧ ¬ s y ∧ ¬ A z y := fun y hy => ⟨(hB y hy).2.1.1,(hB y hy).2.1.2,hzB y hy⟩
   have hc := hbX b (.rf hbt)
   have hX : ∀ x,V x ∧ ¬ s x ∧ ¬ A z x → V x := fun x h => h.1
   have hXs : ∀ x,V x ∧ ¬ s x ∧ ¬ A z x → V x ∧ ¬ s x := fun x h => ⟨h.1,h.2.1⟩
   have hful := bes_ful (A := A) hX hc
   have hkeep := fun y => bes_keep (A := A) (y := y) hX hc
   obtain ⟨y0,hy0,hy1⟩ := hN z hz
   have hsz : (L.filter fun y => decide (Cn A (fun x => V x ∧ ¬ Bes A V (fun x => V x ∧ ¬ s x ∧ ¬ A z x) b x) b y)).length < (L.filter fun y => decide (Cn A (fun x => V x ∧ ¬ s x) b y)).length := by
    have hsubl : ∀ y,Cn A (fun x => V x ∧ ¬ Bes A V (fun x => V x ∧ ¬ s x ∧ ¬ A z x) b x) b y → Cn A (fun x => V x ∧ ¬ s x) b y := fun y h => ((hkeep y).1 h).mono hXs
    have hy2 : ¬ Cn A (fun x => V x ∧ ¬ Bes A V (fun x => V x ∧ ¬ s x ∧ ¬ A z x) b x) b y0 := fun h => ((hkeep y0).1 h).2.1.2.2 (hA _ _ hy1)
    have hy3 := hL y0 hy0.2.1.1
    generalize (fun x => V x ∧ ¬ Bes A V (fun x => V x ∧ ¬ s x ∧ ¬ A z x) b x) = X1 at *
    clear hL hn
    induction L with
    | nil => cases hy3
    | cons q r ih =>
     have hle : (r.filter fun y => decide (Cn A X1 b y)).length ≤ (r.filter fun y => decide (Cn A (fun x => V x ∧ ¬ s x) b y)).length := by
      clear ih hy3
      induction r with
      | nil => simp
      | cons q r ih =>
       rw [List.filter_cons,List.filter_cons]
       by_cases h1 : Cn A X1 b q
       ·rw [if_pos (by simpa using h1),if_pos (by simpa using hsubl q h1)]; simpa using ih
       ·rw [if_neg (by simpa using h1)]
        split
        ·simp only [List.length_cons]; omega
        ·exact ih
     rw [List.filter_cons,List.filter_cons]
     by_cases e : y0 = q
     ·subst e
      rw [if_neg (by simpa using hy2),if_pos (by simpa using hy0)]
      simp only [List.length_cons]; omega
     ·have ih := ih ((List.mem_cons.1 hy3).resolve_left e)
      by_cases h1 : Cn A X1 b q
      ·rw [if_pos (by simpa using h1),if_pos (by simpa using hsubl q h1)]; simpa using ih
      ·rw [if_neg (by simpa using h1)]
       split
       ·simp only [List.length_cons]; omega
       ·exact ih
   cases n with
   | zero => omega
   | succ n =>
    refine sepr_gen hA hL hG ha hb hab n _ (by omega) (hG s z b hg hz hc) hful.2.2 (fun y hy => ?_) (fun x hx => ?_) ?_ ?_ (fun x hx => hx.1) htV
    ·exact (hkeep y).2 (hy.within hbX)
    ·obtain ⟨h1,h2,y,h3,h4⟩ := hx
     have hxv : ¬ (V x ∧ ¬ s x ∧ ¬ A z x) := fun h => h2 (h3.on h h4)
     by_cases hsx : s x
     ·exact hsub x hsx
     ·by_cases htx : t x
      ·exact .inr htx
      ·refine .inl (hza.on ⟨h1,htx⟩ ?_)
       by_cases h : A z x
       ·exact h
       ·exact absurd ⟨h1,hsx,h⟩ hxv
    ·rintro ⟨h1,h2,y,h3,h4⟩
     exact hba ((h3.mono hXs).on ⟨h1,hsa⟩ h4)
    ·intro h
     exact hba (((hkeep a).1 h).mono hXs)
  ·have hst : s = t := by
    funext x
    refine propext ⟨fun hx => (hsub x hx).resolve_left fun h => hex ⟨x,hx,h⟩,fun hx => ?_⟩
    by_cases hsx : s x
    ·exact hsx
    ·exfalso
     obtain ⟨y,hy,hyx⟩ := hb.2.2 x hx
     obtain ⟨y',hy',hyx'⟩ := ha.2.2 x hx
     have h1 : Cn A (fun x => V x ∧ ¬ s x) b x := (hB y hy).on ⟨htV x hx,hsx⟩ hyx
     have hA0 : ∀ y,Cn A (fun x => V x ∧ ¬ t x) a y → V y ∧ ¬ s y := fun y hy => ⟨hy.2.1.1,fun h => hex ⟨y,h,hy⟩⟩
     have h2 : Cn A (fun x => V x ∧ ¬ s x) a y' := hy'.within hA0
     exact hba ((h1.on h2.2.1 (hA _ _ hyx')).tr (h2.sy hA))
   exact hst ▸ hg
theorem sepr_all (hA : ∀ u v,A u v → A v u) {L : List Int} (hL : ∀ x,V x → x ∈ L) {G : (Int → Prop) → Prop}
  (h1 : ∀ v c,V v → (V c ∧ c ≠ v ∧ ¬ A v c) → G (Bes A V (fun x => V x ∧ x ≠ v ∧ ¬ A v x) c))
  (hG : ∀ s z c,G s → s z → (V c ∧ ¬ s c ∧ ¬ A z c) → G (Bes A V (fun x => V x ∧ ¬ s x ∧ ¬ A z x) c))
  {t : Int → Prop} (ht : Sepr A V t) : G t := by
 classical
 obtain ⟨htV,a,b,ha,hb,hab⟩ := ht
 have hX : ∀ x,V x ∧ x ≠ a ∧ ¬ A a x → V x := fun x h => h.1
 have hat : V a ∧ ¬ t a := ⟨ha.1,ha.2.1⟩
 have hB : ∀ y,Cn A (fun x => V x ∧ ¬ t x) b y → V y ∧ y ≠ a ∧ ¬ A a y := fun y hy => ⟨hy.2.1.1,fun e => hab (by rw [← e]; exact hy.sy hA),fun h => hab ((Cn.one hat hy.2.1 h).tr (hy.sy hA))⟩
 have hc := hB b (.rf ⟨hb.1,hb.2.1⟩)
 have hkeep := fun y => bes_keep (A := A) (y := y) hX hc
 refine sepr_gen hA hL hG ha hb hab _ (Bes A V (fun x => V x ∧ x ≠ a ∧ ¬ A a x) b) (Nat.le_refl _) (h1 a b ha.1 hc) (bes_ful hX hc).2.2 (fun y hy => (hkeep y).2 (hy.within hB)) (fun x hx => ?_) ?_ ?_ (fun x hx => hx.1) htV
 ·obtain ⟨h1,h2,y,h3,h4⟩ := hx
  have hxv : ¬ (V x ∧ x ≠ a ∧ ¬ A a x) := fun h => h2 (h3.on h h4)
  by_cases htx : t x
  ·exact .inr htx
  ·refine .inl ?_
   by_cases e : x = a
   ·subst e; exact .rf hat
   ·refine Cn.one hat ⟨h1,htx⟩ ?_
    by_cases h : A a x
    ·exact h
    ·exact absurd ⟨h1,e,h⟩ hxv
 ·rintro ⟨_,_,y,h3,h4⟩
  exact h3.2.1.2.2 (hA _ _ h4)
 ·intro h
  exact ((hkeep a).1 h).2.1.2.1 rfl
end
end Go.Proofs.YtmokciekndllpaaGreatDoor
