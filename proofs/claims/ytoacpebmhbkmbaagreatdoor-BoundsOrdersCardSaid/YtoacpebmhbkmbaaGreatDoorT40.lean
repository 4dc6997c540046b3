/- Parts of a proof, laid together. Each part says its own conditions. -/
import Derived.Test.YtoacpebmhbkmbaaGreatDoorT39
import Derived.Test.YtoacpebmhbkmbaaGreatDoorT31
import Derived.Test.YtoacpebmhbkmbaaGreatDoorT38
namespace Go.Proofs.YtoacpebmhbkmbaaGreatDoor
open Go Go.RowKit Go.Shelf
attribute [local go_sem] qUpon lUpon
attribute [local irreducible] wpO wpX wpQL
theorem infoB : (Tryz.prog.info? 4).map (fun i => (i.zero,i.size,i.bytes)) = some (some (.bool false),1,1) := by kernel_rfl
theorem infoSB : (Tryz.prog.info? 106).map (fun i => (i.zero.map (·.cells.size),i.size,i.bytes)) = some (some 1,1,24) := by kernel_rfl
theorem run_buildSB {ρ : Operand → Value} {o : Oper} {x : Operand} {w : World} {a : Option Addr} {n c : Nat} (ho : o.op = .buildSlice 107 1 #[(0,x)]) (hx : ρ x = .slice a n c) : (execOp ρ o).run Tryz.prog w = .ok (.value (.slice (some ⟨w.heap.size,0,none⟩) 1 1)) (w.alloc (.cells #[.slice a n c] 106)) := by
 unfold execOp
 simp only [ho]
 simp [hx,go_sem]
theorem load_Pv (W : World) (b : Nat) (p q r : Value) (h : Blk W b 109 #[p,q,r]) : (loadVar 109 ⟨b,0,none⟩).run Tryz.prog W = .ok (.agg #[p,q,r]) W := by
 have h0 := h.cell 0
 have h1 := h.cell 1
 have h2 := h.cell 2
 simp at h0 h1 h2
 simp [loadVar,h0,h1,h2,go_sem]
theorem Sp.snocN {wf w W : World} {T0 : List Nat} {ds : List Deferred} {L : List Cl} {r0 r1 : Rw} {T2 n2 n : Nat} {v2 : Value} {bs : List Nat} {nb : List (List Bool)} {b : Nat} {r : List Bool} (h : Sp wf T0 w ds (L ++ [(b,4,vA encB r)]) (r0 :: r1 :: (T2,1,v2,n2,(bs.map (hdrP n) ++ [hdrP n b]).flatMap encSl) :: nearM n bs nb) W) (hl : bs.length = nb.length) (hr : r.length = n) (h0 : n ≤ 100) :
  Sp wf T0 w ds L (r0 :: r1 :: (T2,1,v2,n2,((bs ++ [b]).map (hdrP n)).flatMap encSl) :: nearM n (bs ++ [b]) (nb ++ [r])) W := by
 have h2 := h.toRow (n := n) (by rw [vA_size (k := 1) (fun _ => rfl),hr,Nat.mul_one]) h0
 rw [List.map_append, ← nearM_snoc hl]
 exact h2
def ofT (q : Nat → Nat → Bool) (i k a b : Nat) : Bool := (decide (a < i) || (decide (a = i) && decide (b < k))) && q a b
theorem ofT_next (q : Nat → Nat → Bool) (i k a b : Nat) : ofT q i (k + 1) a b = (ofT q i k a b || (decide (a = i) && decide (b = k) && q i k)) := by
 unfold ofT
 by_cases h1 : a = i
 ·subst h1
  by_cases h2 : b = k
  ·subst h2; simp
  ·have e : decide (b < k + 1) = decide (b < k) := by
    by_cases h3 : b < k
    ·rw [decide_eq_true h3,decide_eq_true (by omega)]
    ·rw [decide_eq_false h3,decide_eq_false (by omega)]
   rw [e]
   simp [h2]
 ·simp [h1]
theorem ofT_row (q : Nat → Nat → Bool) (i n a b : Nat) (hb : b < n) : ofT q (i + 1) 0 a b = ofT q i n a b := by
 unfold ofT
 rw [decide_eq_true hb,decide_eq_false (Nat.not_lt_zero b),Bool.and_true,Bool.and_false,Bool.or_false]
 by_cases h : a < i + 1
 ·rw [decide_eq_true h]
  by_cases h1 : a = i
  ·simp [h1]
  ·simp [show a < i by omega]
 ·rw [decide_eq_false h,decide_eq_false (by omega),decide_eq_false (by omega)]
  rfl
def mtE (x y : Int) (e : (Int × Int) × Thing) : Bool := (e.1.1 == x && e.1.2 == y) || (e.1.2 == x && e.1.1 == y)
theorem mtE_near {V : List (Int × Thing)} {E : List ((Int × Int) × Thing)} (hi : GInv V E) (x y : Int) : E.any (mtE x y) = nr0 E x y := by
 rw [Bool.eq_iff_iff,nr0_adj hi,List.any_eq_true]
 constructor
 ·rintro ⟨e,he,h⟩
  have hlt := hi.lo e he
  refine ⟨e,he, ?_⟩
  unfold mtE at h
  simp only [Bool.or_eq_true,Bool.and_eq_true,beq_iff_eq] at h
  refine Prod.ext ?_ ?_ <;> simp only <;> omega
 ·rintro ⟨e,he,h⟩
  refine ⟨e,he, ?_⟩
  have hlt := hi.lo e he
  have h1 : e.1.1 = min x y := by rw [h]
  have h2 : e.1.2 = max x y := by rw [h]
  unfold mtE
  simp only [Bool.or_eq_true,Bool.and_eq_true,beq_iff_eq]
  omega
theorem take_any {α : Type} (f : α → Bool) {l : List α} {j : Nat} (h : j < l.length) : (l.take (j + 1)).any f = ((l.take j).any f || f l[j]) := by
 rw [List.take_succ_eq_append_getElem h,List.any_append]
 simp
theorem step_yes {n : Nat} {bs : List Nat} {nb : List (List Bool)} {q : Nat → Nat → Bool} {i k : Nat} {s : Bool} (hq : Sqr n bs nb) (hi : i < n) (hk : k < n) (h : ∀ a b,a < n → b < n → nbG nb a b = (ofT q i k a b || (decide (a = i) && decide (b = k) && s))) : ∀ a b,a < n → b < n → nbG (putN nb i k true) a b = (ofT q i k a b || (decide (a = i) && decide (b = k) && true)) := by
 intro a b ha hb
 rw [nbG_put true (by rw [hq.ln]; exact hi) (by rw [hq.row i hi]; exact hk)]
 by_cases hh : a = i ∧ b = k
 ·rw [if_pos hh,hh.1,hh.2]; simp
 ·rw [if_neg hh,h a b ha hb]
  by_cases h1 : a = i
  ·have h2 : ¬ b = k := fun e => hh ⟨h1,e⟩
   simp [h2]
  ·simp [h1]
theorem own_some1 {w : World} {base T n c : Nat} {A : Option Addr} {xs : List Value} (h : w.ownsRow base T 1 (.slice A n c) n xs) (hn : 0 < n) : ∃ b,A = some ⟨b,0,none⟩ := by
 obtain ⟨_,h | ⟨g,cap',cur,hv,_⟩⟩ := h
 ·omega
 ·injection hv with hv1
  exact ⟨g,hv1⟩
theorem id_at {W : World} {base n c : Nat} {bh : Nat} {ids : List Int} (h : W.ownsRow base 3 1 (.slice (some ⟨bh,0,none⟩) n c) n (ids.flatMap encI)) (hl : ids.length = n) {i : Nat} {x : Int} (hx : ids[i]? = some x) : ∀ W',Ext W W' → W'.cell? ⟨bh,i,none⟩ = some (.int .i64 x) := by
 obtain ⟨hi,e⟩ := List.getElem?_eq_some_iff.1 hx
 have hs := slE (own_at (enc := encI) (A := some ⟨bh,0,none⟩) (c := c) (xs := ids) (by rw [hl]; exact h) (fun _ => rfl)) hi
 intro W' hW
 have := hs W' hW
 rw [Nat.zero_add,e] at this
 exact this
theorem hdr_at {W : World} {base n c : Nat} {bh : Nat} {bs : List Nat} (h : W.ownsRow base 106 1 (.slice (some ⟨bh,0,none⟩) n c) n ((bs.map (hdrP n)).flatMap encSl)) (hl : bs.length = n) {i b : Nat} (hb : bs[i]? = some b) : ∀ W',Ext W W' → W'.cell? ⟨bh,i,none⟩ = some (.slice (some ⟨b,0,none⟩) n n) := by
 have hs : SlAt encSl 1 W (some ⟨bh,0,none⟩) (bs.map (hdrP n)) := own_at (enc := encSl) (c := c) (by rw [List.length_map,hl]; exact h) (fun _ => rfl)
 have hi : i < bs.length := (List.getElem?_eq_some_iff.1 hb).1
 have hil : i < (bs.map (hdrP n)).length := by rw [List.length_map]; exact hi
 obtain ⟨b',off',e,hc⟩ := hs.at_ hil
 injection e with e
 injection e with e1 e2
 subst e1
 subst e2
 intro W' hW
 have := hc 0 (.slice (bs.map (hdrP n))[i].1 (bs.map (hdrP n))[i].2.1 (bs.map (hdrP n))[i].2.2) rfl W' hW
 rw [show 0 + i * 1 + 0 = i by omega] at this
 rw [this]
 have e2 := (List.getElem?_eq_some_iff.1 hb).2
 simp only [List.getElem_map,e2]
 rfl
def OfPost (w : World) (ids : List Int) (near : Int → Int → Bool) (e : Ending) (w' : World) : Prop :=
 ∃ Ai At An ci ct cn bs nb th n,n = ids.length ∧ e = .returned (.agg #[.slice Ai n ci, .slice At n ct, .slice An n cn]) ∧ St w.heap.size [] (((4 : Nat),1,Value.slice At n ct,n,List.flatMap encB th) :: (3,1, .slice Ai n ci,n,ids.flatMap encI) :: (106,1, .slice An n cn,n,(bs.map (hdrP n)).flatMap encSl) :: nearM n bs nb) w' ∧ Sqr n bs nb ∧ th.length = n ∧ (∀ k,k < n → th.getD k false = true) ∧ (∀ a b,a < n → b < n → nbG nb a b = near (ids.getD a 0) (ids.getD b 0)) ∧ Ext w w'
set_option maxRecDepth 100000 in
set_option maxHeartbeats 16000000 in
theorem of22_any (A B : Option Addr) (V : List (Int × Thing)) (E : List ((Int × Int) × Thing)) (cA cB : Nat) (w : World) (hV : SlAt encV 3 w A V) (hE : SlAt encE 4 w B E) (hi : GInv V E) (hl : V.length ≤ 100) :
  Calls Tryz.prog 61 #[.agg #[.slice A V.length cA, .slice B E.length cB]] w (OfPost w (V.map (·.1)) (nr0 E)) := by
 have hV' := hide hV
 have hE' := hide hE
 have hi' := hide hi
 obtain ⟨n,hn⟩ : ∃ n,n = V.length := ⟨_,rfl⟩
 obtain ⟨ids,hids⟩ : ∃ ids,ids = V.map (·.1) := ⟨_,rfl⟩
 obtain ⟨nE,hnE⟩ : ∃ nE,nE = E.length := ⟨_,rfl⟩
 rw [← hn, ← hids, ← hnE]
 have hlb := hide (show n ≤ 100 by rw [hn]; exact hl)
 have hn' := hide hn
 have hids' := hide hids
 have hnE' := hide hnE
 have hEb := hide (show nE ≤ 1024 by rw [hnE]; exact hi.ne)
 clear hV hE hi hn hids hnE hl
 have hP := hide (Sp.new w)
 refine callsIn_wide.1 (callsIn_of_wp_marks (n := 0) Tryz.func61 rfl trivial (wpIn_wide.2 ?_))
 simp only [Tryz.ntmps61,List.size_toArray,List.length_cons,List.length_nil,Nat.reduceAdd,Nat.reduceSub,Array.replicate_succ,Array.replicate_zero,List.push_toArray,List.append_toArray,List.nil_append,List.cons_append]
 try dsimp only
 repeat ((fail_if_success (with_reducible refine wp_reg (id := 0) ?_)); (first | go_values | go_skip | go_step | go_guarded | go_upon | go_in | go_back | fail))
 with_reducible refine wp_reg (id := 0) ?_
 refine (unhide hP).allocO 41 #[.slice A n cA, .slice B nE cB] rfl (run_box (v := .agg #[.slice A n cA, .slice B nE cB]) rfl rfl) ?_
 intro r1 y1 hQ
 replace hP : Hid (Sp w [] w [] [(r1,41, #[.slice A n cA, .slice B nE cB])] [] y1) := hide hQ
 clear hQ
 refine (unhide hP).allocO 109 #[.slice none 0 0, .slice none 0 0, .slice none 0 0] rfl (by go_simp) ?_
 intro r2 y2 hQ
 replace hP : Hid (Sp w [] w [] [(r1,41, #[.slice A n cA, .slice B nE cB]),(r2,109, #[.slice none 0 0, .slice none 0 0, .slice none 0 0])] [] y2) := hide hQ
 clear hQ
 refine wpO_done ?_
 try go_frame
 have q0 := (unhide hP).cell 0 0 (v := .slice A n cA) rfl rfl
 have hself := Ext.refl y2
 try dsimp only
 repeat ((fail_if_success (with_reducible refine wp_reg (id := 1) ?_)); (first | go_values | go_skip | go_step | go_guarded | go_upon | go_in | go_back | fail))
 with_reducible refine wp_reg (id := 1) ?_
 iterate 4
  refine wpO_want rfl ?_
  go_simp
 refine wpO_done ?_
 try go_frame
 clear q0 hself
 try dsimp only
 repeat ((fail_if_success (with_reducible refine wp_reg (id := 2) ?_)); (first | go_values | go_skip | go_step | go_guarded | go_upon | go_in | go_back | fail))
 with_reducible refine wp_reg (id := 2) ?_
 refine wpO_want rfl ?_
 go_simp
 refine wpO_val (v := .slice (some ⟨y2.heap.size,0,none⟩) n n) (w' := y2.alloc (.cells (vA encB (List.replicate n false)) 4)) rfl (run_mkA (enc := encB) (k := 1) (z := .bool false) false rfl rfl rfl (by have := unhide hlb; omega) Tryz.underlying106 infoB (by decide) rfl (fun _ => rfl) (by decide) _) ?_
 have hQ := (unhide hP).alloc 4 (vA encB (List.replicate n false))
 generalize y2.alloc (.cells (vA encB (List.replicate n false)) 4) = zy2 at *
 generalize y2.heap.size = bt at *
 replace hP : Hid (Sp w [] w [] [(r1,41, #[.slice A n cA, .slice B nE cB]),(r2,109, #[.slice none 0 0, .slice none 0 0, .slice none 0 0])] [(4,1, .slice (some ⟨bt,0,none⟩) n n,n,(List.replicate n false).flatMap encB)] zy2) := hide (hQ.toRow (n := n) (by rw [vA_size (k := 1) (fun _ => rfl),List.length_replicate,Nat.mul_one]) (unhide hlb))
 clear hQ
 go_frame
 refine wpO_want rfl ?_
 go_simp
 refine (unhide hP).allocO 109 #[.slice none 0 0, .slice none 0 0, .slice none 0 0] rfl (by go_simp) ?_
 intro r4 y3 hQ
 replace hP : Hid (Sp w [] w [] [(r1,41, #[.slice A n cA, .slice B nE cB]),(r2,109, #[.slice none 0 0, .slice none 0 0, .slice none 0 0]),(r4,109, #[.slice none 0 0, .slice none 0 0, .slice none 0 0])] [(4,1, .slice (some ⟨bt,0,none⟩) n n,n,(List.replicate n false).flatMap encB)] y3) := hide hQ
 clear hQ
 refine (unhide hP).setO 2 #[.slice none 0 0, .slice (some ⟨bt,0,none⟩) n n, .slice none 0 0] rfl rfl (fun hb => run_store_row (v := .agg #[.slice none 0 0, .slice (some ⟨bt,0,none⟩) n n, .slice none 0 0]) rfl (by rfl) (by rfl) (by simp [go_sem]) hb rfl (fun u hu => by simp [Value.cells] at hu; rcases hu with rfl | rfl | rfl <;> rfl)) ?_
 intro y4 hQ
 replace hP : Hid (Sp w [] w [] [(r1,41, #[.slice A n cA, .slice B nE cB]),(r2,109, #[.slice none 0 0, .slice none 0 0, .slice none 0 0]),(r4,109, #[.slice none 0 0, .slice (some ⟨bt,0,none⟩) n n, .slice none 0 0])] [(4,1, .slice (some ⟨bt,0,none⟩) n n,n,(List.replicate n false).flatMap encB)] y4) := hide hQ
 clear hQ
 refine wpO_done ?_
 try go_frame
 try dsimp only
 repeat ((fail_if_success (with_reducible refine wp_reg (id := 3) ?_)); (first | go_values | go_skip | go_step | go_guarded | go_upon | go_in | go_back | fail))
 with_reducible refine wp_reg (id := 3) ?_
 refine wpO_want rfl ?_
 go_simp
 refine wpO_done ?_
 try go_frame
 go_wp2_with fail
 skip
 replace hP : Hid (Sp w [] w [] [(r1,41, #[.slice A n cA, .slice B nE cB]),(r2,109, #[.slice none 0 0, .slice none 0 0, .slice none 0 0]),(r4,109, #[.slice none 0 0, .slice (some ⟨bt,0,none⟩) n n, .slice none 0 0])] [(4,1, .slice (some ⟨bt,0,none⟩) n n,n,(List.replicate n false).flatMap encB),(3,1, .slice none 0 0,0,([] : List Int).flatMap encI)] y4) := hide ((unhide hP).nil 3 1)
 replace hP : Hid (Sp w [] w [] [(r1,41, #[.slice A n cA, .slice B nE cB]),(r2,109, #[.slice none 0 0, .slice none 0 0, .slice none 0 0]),(r4,109, #[.slice none 0 0, .slice (some ⟨bt,0,none⟩) n n, .slice none 0 0])] [(4,1, .slice (some ⟨bt,0,none⟩) n n,n,(List.replicate n false).flatMap encB),(3,1, .slice none 0 0,0,([] : List Int).flatMap encI),(106,1, .slice none 0 0,0,([] : List Sl).flatMap encSl)] y4) := hide ((unhide hP).nil 106 1)
 obtain ⟨I4_2,hI4_20⟩ : ∃ I : Nat → Act → World → Prop,I = fun fi a' wr => ∃ (i : Nat), ∃ (A6 : Option Addr), ∃ (c6 : Nat), ∃ (A7 : Option Addr), ∃ (c7 : Nat), ∃ (xs : List Int), ∃ (bs : List Nat), ∃ (nb : List (List Bool)), ∃ (th : List Bool),a'.tmps.size = 115 ∧ a'.tmps.getD 1 undef = .pointer (some ⟨r1,0,none⟩) ∧ a'.tmps.getD 2 undef = .pointer (some ⟨r2,0,none⟩) ∧ a'.tmps.getD 3 undef = .int .i64 (n : Nat) ∧ a'.tmps.getD 4 undef = .pointer (some ⟨r4,0,none⟩) ∧ a'.tmps.getD 5 undef = .int .i64 (i : Nat) ∧ a'.defers = [] ∧ i ≤ n ∧ xs = ids.take i ∧ bs.length = i ∧ nb = List.replicate i (List.replicate n false) ∧ th.length = n ∧ (∀ k,k < n → th.getD k false = decide (k < i)) ∧ Sp w [] w [] [(r1,41, #[.slice A n cA, .slice B nE cB]),(r2,109, #[.slice none 0 0, .slice none 0 0, .slice none 0 0]),(r4,109, #[.slice A6 i c6, .slice (some ⟨bt,0,none⟩) n n, .slice A7 i c7])] ((4,1, .slice (some ⟨bt,0,none⟩) n n,n,th.flatMap encB) :: (3,1, .slice A6 i c6,i,xs.flatMap encI) :: (106,1, .slice A7 i c7,i,(bs.map (hdrP n)).flatMap encSl) :: nearM n bs nb) wr ∧ fi = n - i := ⟨_,rfl⟩
 have hI4_2 := hide hI4_20
 clear hI4_20
 refine wp_loop_ix I4_2 (n - 0) ?_ ?_
 ·rw [unhide hI4_2]; exact ⟨0,none,0,none,0,[],[],[],List.replicate n false,rfl,rfl,rfl,rfl,rfl,rfl,rfl,Nat.zero_le _,rfl,rfl,rfl,List.length_replicate,(fun k hk => by rw [List.getD_eq_getElem?_getD,List.getElem?_replicate,if_pos hk]; rfl),unhide hP,rfl⟩
 ·rintro fi ⟨tm,dfs⟩ wr hrel
  rw [unhide hI4_2] at hrel
  obtain ⟨i,A6,c6,A7,c7,xs,bs,nb,th,hsz,e1,e2,e3,e4,e5,hdf,hin,hxs0,hlb0,hnb0,hth0,hth1,hPr,hfm⟩ := hrel
  obtain ⟨us,rfl⟩ : ∃ us : Nat → Value,tm = #[us 0,us 1,us 2,us 3,us 4,us 5,us 6,us 7,us 8,us 9,us 10,us 11,us 12,us 13,us 14,us 15,us 16,us 17,us 18,us 19,us 20,us 21,us 22,us 23,us 24,us 25,us 26,us 27,us 28,us 29,us 30,us 31,us 32,us 33,us 34,us 35,us 36,us 37,us 38,us 39,us 40,us 41,us 42,us 43,us 44,us 45,us 46,us 47,us 48,us 49,us 50,us 51,us 52,us 53,us 54,us 55,us 56,us 57,us 58,us 59,us 60,us 61,us 62,us 63,us 64,us 65,us 66,us 67,us 68,us 69,us 70,us 71,us 72,us 73,us 74,us 75,us 76,us 77,us 78,us 79,us 80,us 81,us 82,us 83,us 84,us 85,us 86,us 87,us 88,us 89,us 90,us 91,us 92,us 93,us 94,us 95,us 96,us 97,us 98,us 99,us 100,us 101,us 102,us 103,us 104,us 105,us 106,us 107,us 108,us 109,us 110,us 111,us 112,us 113,us 114] := ⟨fun i => tm.getD i undef,arr_fn hsz⟩
  have h1 : us 1 = .pointer (some ⟨r1,0,none⟩) := e1
  have h2 : us 2 = .pointer (some ⟨r2,0,none⟩) := e2
  have h3 : us 3 = .int .i64 (n : Nat) := e3
  have h4 : us 4 = .pointer (some ⟨r4,0,none⟩) := e4
  have h5 : us 5 = .int .i64 (i : Nat) := e5
  have hdf2 : dfs = [] := hdf
  subst hdf2
  clear hdf hsz e1 e2 e3 e4 e5
  simp only [h1,h2,h3,h4,h5]
  clear h1 h2 h3 h4 h5
  clear hP
  have hP := hide hPr
  have hfm' := hide hfm
  have hxs' := hide hxs0
  have hlb' := hide hlb0
  have hnb' := hide hnb0
  have hth' := hide hth0
  have hth2 := hide hth1
  clear hPr hfm hxs0 hlb0 hnb0 hth0 hth1
  by_cases hlt : i < n
  ·have hil : (i : Int) < (n : Int) := by omega
   have hk2 := hide hlt
   have hkb : (i : Int) ≤ 100 := by have := unhide hlb; omega
   have hiV : i < V.length := by have := unhide hn'; omega
   obtain ⟨bV,oV,rfl,c0,c1,c2⟩ := atV (unhide hV') hiV
   obtain ⟨x,hx⟩ : ∃ x,x = V[i].1 := ⟨_,rfl⟩
   rw [← hx] at c0
   have hc0 := hide c0
   have hxn := hide (show xs ++ [x] = ids.take (i + 1) by
    have h1 : i < ids.length := by rw [unhide hids',List.length_map]; exact hiV
    rw [List.take_succ_eq_append_getElem h1,unhide hxs',hx]
    congr 1
    simp only [unhide hids',List.getElem_map])
   clear hlt hin hiV c0 c1 c2 hx
   try dsimp only
   repeat ((fail_if_success (with_reducible refine wp_reg (id := 4) ?_)); (first | go_values | go_skip | go_step | go_guarded | go_upon | go_in | go_back | fail))
   with_reducible refine wp_reg (id := 4) ?_
   iterate 3
    refine wpO_want rfl ?_
    go_simp
   refine wpO_done ?_
   try go_frame
   go_wp2_with fail
   have ho1 : r1 ∉ (Value.slice A6 i c6).ownBlock.toList := (unhide hP).ne_row 0 1 rfl rfl
   have ho4 : r4 ∉ (Value.slice A6 i c6).ownBlock.toList := (unhide hP).ne_row 2 1 rfl rfl
   have hself := Keep.refl (Value.slice A6 i c6).ownBlock.toList wr
   have q0 := (unhide hP).cellK (S := (Value.slice A6 i c6).ownBlock.toList) 2 0 (v := .slice A6 i c6) rfl rfl ho4
   have q1 := (unhide hP).cellK (S := (Value.slice A6 i c6).ownBlock.toList) 0 0 (v := .slice (some ⟨bV,oV,none⟩) n cA) rfl rfl ho1
   have c0 := fun (W : World) (hW : Keep (Value.slice A6 i c6).ownBlock.toList wr W) => unhide hc0 W ((unhide hP).extf.of_new hW (fun z hz => (unhide hP).st.ge z (rowIn (unhide hP) 1 rfl (by decide) z hz)))
   refine wp_regionK (P := Tryz.prog) (Value.slice A6 i c6).ownBlock.toList [0,1,2,3,4,5,6,7] [11] 4 #[true,true,true,true,true,true,true,true,false,false,false,false] (by kernel_rfl) (by kernel_rfl) rfl (by rfl) ?_
   iterate 8
    refine ql_want (v := ?_) rfl (by rfl) (fun W hW => ?_) ?_
    rotate_left
    ·go_simp
     first | done | rfl
    go_frame
   refine wpQL_nil (fun y5 hxq => ?_)
   have hK := hide (hxq.keep (Value.slice A6 i c6).ownBlock.toList)
   replace hP : Hid (Sp w [] w [] [(r1,41, #[.slice (some ⟨bV,oV,none⟩) n cA, .slice B nE cB]),(r2,109, #[.slice none 0 0, .slice none 0 0, .slice none 0 0]),(r4,109, #[.slice A6 i c6, .slice (some ⟨bt,0,none⟩) n n, .slice A7 i c7])] ((4,1, .slice (some ⟨bt,0,none⟩) n n,n,th.flatMap encB) :: (3,1, .slice A6 i c6,i,xs.flatMap encI) :: (106,1, .slice A7 i c7,i,(bs.map (hdrP n)).flatMap encSl) :: nearM n bs nb) y5) := hide ((unhide hP).ext hxq)
   clear hxq
   clear q0 q1 c0 ho1 ho4 hself
   refine lx_one (i := 8) (by kernel_rfl) rfl (by rfl) #[true,true,true,true,true,true,true,true,true,false,false,false] (by rfl) ?_
   refine (unhide hP).allocL (unhide hK) (v := fun b => .slice (some ⟨b,0,none⟩) 1 1) 3 #[.int .i64 x] ?_ ?_
   ·exact run_build1 rfl rfl
   intro bv y6 hQ hK2 hg2
   replace hP : Hid (Sp w [] w [] [(r1,41, #[.slice (some ⟨bV,oV,none⟩) n cA, .slice B nE cB]),(r2,109, #[.slice none 0 0, .slice none 0 0, .slice none 0 0]),(r4,109, #[.slice A6 i c6, .slice (some ⟨bt,0,none⟩) n n, .slice A7 i c7]),(bv,3, #[.int .i64 x])] ((4,1, .slice (some ⟨bt,0,none⟩) n n,n,th.flatMap encB) :: (3,1, .slice A6 i c6,i,xs.flatMap encI) :: (106,1, .slice A7 i c7,i,(bs.map (hdrP n)).flatMap encSl) :: nearM n bs nb) y6) := hide hQ
   replace hK := hide hK2
   have hge_bv := hide hg2
   clear hQ hK2 hg2
   try go_frame
   refine lx_one (i := 9) (by kernel_rfl) rfl (by rfl) #[true,true,true,true,true,true,true,true,true,true,false,false] (by rfl) ?_
   refine (unhide hP).ap1L (unhide hK) (enc := encI) (T := 3) (ST := 30) 1 (v := .slice A6 i c6) (m := i) (xs := xs) rfl (fun z hz => .inl hz) infoI Tryz.underlying30 one_encI (fun _ => rfl) (by decide) (by decide) rfl x rfl rfl ((unhide hP).get 3 rfl) (by omega) ?_
   intro A8 cA8 y7 hQ hK2 hg2
   replace hP : Hid (Sp w [] w [] [(r1,41, #[.slice (some ⟨bV,oV,none⟩) n cA, .slice B nE cB]),(r2,109, #[.slice none 0 0, .slice none 0 0, .slice none 0 0]),(r4,109, #[.slice A6 i c6, .slice (some ⟨bt,0,none⟩) n n, .slice A7 i c7]),(bv,3, #[.int .i64 x])] ((4,1, .slice (some ⟨bt,0,none⟩) n n,n,th.flatMap encB) :: (3,1, .slice A8 (i + 1) cA8,i + 1,(xs ++ [x]).flatMap encI) :: (106,1, .slice A7 i c7,i,(bs.map (hdrP n)).flatMap encSl) :: nearM n bs nb) y7) := hide hQ
   replace hK := hide hK2
   have hge_A8 := hide hg2
   clear hQ hK2 hg2
   try go_frame
   refine lx_one (i := 10) (by kernel_rfl) rfl (by rfl) #[true,true,true,true,true,true,true,true,true,true,true,false] (by rfl) ?_
   refine (unhide hP).valL (unhide hK) (v := .pointer (some ⟨r4,0,none⟩)) ?_ ?_
   ·go_simp
   intro y8 hQ hK2
   replace hP : Hid (Sp w [] w [] [(r1,41, #[.slice (some ⟨bV,oV,none⟩) n cA, .slice B nE cB]),(r2,109, #[.slice none 0 0, .slice none 0 0, .slice none 0 0]),(r4,109, #[.slice A6 i c6, .slice (some ⟨bt,0,none⟩) n n, .slice A7 i c7]),(bv,3, #[.int .i64 x])] ((4,1, .slice (some ⟨bt,0,none⟩) n n,n,th.flatMap encB) :: (3,1, .slice A8 (i + 1) cA8,i + 1,(xs ++ [x]).flatMap encI) :: (106,1, .slice A7 i c7,i,(bs.map (hdrP n)).flatMap encSl) :: nearM n bs nb) y8) := hide hQ
   replace hK := hide hK2
   clear hQ hK2
   try go_frame
   refine (unhide hP).setX 2 #[.slice A8 (i + 1) cA8, .slice (some ⟨bt,0,none⟩) n n, .slice A7 i c7] rfl (j := 11) (by kernel_rfl) rfl (by rfl) #[true,true,true,true,true,true,true,true,true,true,true,true] (by rfl) rfl (fun hb => run_store_fld (i := 0) (v := .slice A8 (i + 1) cA8) rfl rfl rfl rfl rfl (by simp [go_sem]) hb (by simp) rfl) ?_
   intro y9 hQ
   replace hP : Hid (Sp w [] w [] [(r1,41, #[.slice (some ⟨bV,oV,none⟩) n cA, .slice B nE cB]),(r2,109, #[.slice none 0 0, .slice none 0 0, .slice none 0 0]),(r4,109, #[.slice A8 (i + 1) cA8, .slice (some ⟨bt,0,none⟩) n n, .slice A7 i c7]),(bv,3, #[.int .i64 x])] ((4,1, .slice (some ⟨bt,0,none⟩) n n,n,th.flatMap encB) :: (3,1, .slice A8 (i + 1) cA8,i + 1,(xs ++ [x]).flatMap encI) :: (106,1, .slice A7 i c7,i,(bs.map (hdrP n)).flatMap encSl) :: nearM n bs nb) y9) := hide hQ
   clear hQ
   try go_frame
   refine wpX_done (by kernel_rfl) ?_
   try go_frame
   clear hK
   clear hge_bv hge_A8
   replace hP : Hid (Sp w [] w [] [(r1,41, #[.slice (some ⟨bV,oV,none⟩) n cA, .slice B nE cB]),(r2,109, #[.slice none 0 0, .slice none 0 0, .slice none 0 0]),(r4,109, #[.slice A8 (i + 1) cA8, .slice (some ⟨bt,0,none⟩) n n, .slice A7 i c7])] ((4,1, .slice (some ⟨bt,0,none⟩) n n,n,th.flatMap encB) :: (3,1, .slice A8 (i + 1) cA8,i + 1,(xs ++ [x]).flatMap encI) :: (106,1, .slice A7 i c7,i,(bs.map (hdrP n)).flatMap encSl) :: nearM n bs nb) y9) := hide ((unhide hP).sub (List.sublist_append_left _ ([(bv,3, #[.int .i64 x])] : List Cl)) (List.Sublist.refl _))
   have q0 := (unhide hP).cell 2 1 (v := .slice (some ⟨bt,0,none⟩) n n) rfl rfl
   have hself := Ext.refl y9
   try dsimp only
   repeat ((fail_if_success (with_reducible refine wp_reg (id := 7) ?_)); (first | go_values | go_skip | go_step | go_guarded | go_upon | go_in | go_back | fail))
   with_reducible refine wp_reg (id := 7) ?_
   iterate 4
    refine wpO_want rfl ?_
    go_simp
   refine (unhide hP).putO (enc := encB) (f := fun q => .bool q) (fun _ => rfl) (fun _ => rfl) (fun _ => rfl) 0 true rfl rfl (q := i) rfl (by first | rfl | go_simp) rfl (by simp [go_sem]) (by rw [unhide hth']; exact unhide hk2) ?_
   intro y10 hQ
   replace hP : Hid (Sp w [] w [] [(r1,41, #[.slice (some ⟨bV,oV,none⟩) n cA, .slice B nE cB]),(r2,109, #[.slice none 0 0, .slice none 0 0, .slice none 0 0]),(r4,109, #[.slice A8 (i + 1) cA8, .slice (some ⟨bt,0,none⟩) n n, .slice A7 i c7])] ((4,1, .slice (some ⟨bt,0,none⟩) n n,n,(th.set i true).flatMap encB) :: (3,1, .slice A8 (i + 1) cA8,i + 1,(xs ++ [x]).flatMap encI) :: (106,1, .slice A7 i c7,i,(bs.map (hdrP n)).flatMap encSl) :: nearM n bs nb) y10) := hide hQ
   clear hQ q0 hself
   go_frame
   refine wpO_done ?_
   try go_frame
   go_wp2_with fail
   have ho4 : r4 ∉ (Value.slice A7 i c7).ownBlock.toList := (unhide hP).ne_row 2 2 rfl rfl
   have hself := Keep.refl (Value.slice A7 i c7).ownBlock.toList y10
   have q0 := (unhide hP).cellK (S := (Value.slice A7 i c7).ownBlock.toList) 2 2 (v := .slice A7 i c7) rfl rfl ho4
   refine wp_regionK (P := Tryz.prog) (Value.slice A7 i c7).ownBlock.toList [0,1,2] [7] 5 #[true,true,true,false,false,false,false,false] (by kernel_rfl) (by kernel_rfl) rfl (by rfl) ?_
   iterate 3
    refine ql_want (v := ?_) rfl (by rfl) (fun W hW => ?_) ?_
    rotate_left
    ·go_simp
     first | done | rfl
    go_frame
   refine wpQL_nil (fun y11 hxq => ?_)
   have hK := hide (hxq.keep (Value.slice A7 i c7).ownBlock.toList)
   replace hP : Hid (Sp w [] w [] [(r1,41, #[.slice (some ⟨bV,oV,none⟩) n cA, .slice B nE cB]),(r2,109, #[.slice none 0 0, .slice none 0 0, .slice none 0 0]),(r4,109, #[.slice A8 (i + 1) cA8, .slice (some ⟨bt,0,none⟩) n n, .slice A7 i c7])] ((4,1, .slice (some ⟨bt,0,none⟩) n n,n,(th.set i true).flatMap encB) :: (3,1, .slice A8 (i + 1) cA8,i + 1,(xs ++ [x]).flatMap encI) :: (106,1, .slice A7 i c7,i,(bs.map (hdrP n)).flatMap encSl) :: nearM n bs nb) y11) := hide ((unhide hP).ext hxq)
   clear hxq
   clear q0 ho4 hself
   refine lx_one (i := 3) (by kernel_rfl) rfl (by rfl) #[true,true,true,true,false,false,false,false] (by rfl) ?_
   refine (unhide hP).allocL (unhide hK) (v := fun b => .slice (some ⟨b,0,none⟩) n n) 4 (vA encB (List.replicate n false)) ?_ ?_
   ·exact run_mkA (enc := encB) (k := 1) (z := .bool false) false rfl rfl rfl (by have := unhide hlb; omega) Tryz.underlying106 infoB (by decide) rfl (fun _ => rfl) (by decide) _
   intro bn y12 hQ hK2 hg2
   replace hP : Hid (Sp w [] w [] [(r1,41, #[.slice (some ⟨bV,oV,none⟩) n cA, .slice B nE cB]),(r2,109, #[.slice none 0 0, .slice none 0 0, .slice none 0 0]),(r4,109, #[.slice A8 (i + 1) cA8, .slice (some ⟨bt,0,none⟩) n n, .slice A7 i c7]),(bn,4,vA encB (List.replicate n false))] ((4,1, .slice (some ⟨bt,0,none⟩) n n,n,(th.set i true).flatMap encB) :: (3,1, .slice A8 (i + 1) cA8,i + 1,(xs ++ [x]).flatMap encI) :: (106,1, .slice A7 i c7,i,(bs.map (hdrP n)).flatMap encSl) :: nearM n bs nb) y12) := hide hQ
   replace hK := hide hK2
   have hge_bn := hide hg2
   clear hQ hK2 hg2
   try go_frame
   refine lx_one (i := 4) (by kernel_rfl) rfl (by rfl) #[true,true,true,true,true,false,false,false] (by rfl) ?_
   refine (unhide hP).allocL (unhide hK) (v := fun b => .slice (some ⟨b,0,none⟩) 1 1) 106 #[.slice (some ⟨bn,0,none⟩) n n] ?_ ?_
   ·exact run_buildSB rfl rfl
   intro bh y13 hQ hK2 hg2
   replace hP : Hid (Sp w [] w [] [(r1,41, #[.slice (some ⟨bV,oV,none⟩) n cA, .slice B nE cB]),(r2,109, #[.slice none 0 0, .slice none 0 0, .slice none 0 0]),(r4,109, #[.slice A8 (i + 1) cA8, .slice (some ⟨bt,0,none⟩) n n, .slice A7 i c7]),(bn,4,vA encB (List.replicate n false)),(bh,106, #[.slice (some ⟨bn,0,none⟩) n n])] ((4,1, .slice (some ⟨bt,0,none⟩) n n,n,(th.set i true).flatMap encB) :: (3,1, .slice A8 (i + 1) cA8,i + 1,(xs ++ [x]).flatMap encI) :: (106,1, .slice A7 i c7,i,(bs.map (hdrP n)).flatMap encSl) :: nearM n bs nb) y13) := hide hQ
   replace hK := hide hK2
   have hge_bh := hide hg2
   clear hQ hK2 hg2
   try go_frame
   refine lx_one (i := 5) (by kernel_rfl) rfl (by rfl) #[true,true,true,true,true,true,false,false] (by rfl) ?_
   refine (unhide hP).ap1L (unhide hK) (enc := encSl) (T := 106) (ST := 107) 2 (v := .slice A7 i c7) (m := i) (xs := bs.map (hdrP n)) rfl (fun z hz => .inl hz) infoSB Tryz.underlying107 one_encSl (fun _ => rfl) (by decide) (by decide) rfl (hdrP n bn) rfl rfl ((unhide hP).get 4 rfl) (by omega) ?_
   intro A9 cA9 y14 hQ hK2 hg2
   replace hP : Hid (Sp w [] w [] [(r1,41, #[.slice (some ⟨bV,oV,none⟩) n cA, .slice B nE cB]),(r2,109, #[.slice none 0 0, .slice none 0 0, .slice none 0 0]),(r4,109, #[.slice A8 (i + 1) cA8, .slice (some ⟨bt,0,none⟩) n n, .slice A7 i c7]),(bn,4,vA encB (List.replicate n false)),(bh,106, #[.slice (some ⟨bn,0,none⟩) n n])] ((4,1, .slice (some ⟨bt,0,none⟩) n n,n,(th.set i true).flatMap encB) :: (3,1, .slice A8 (i + 1) cA8,i + 1,(xs ++ [x]).flatMap encI) :: (106,1, .slice A9 (i + 1) cA9,i + 1,(bs.map (hdrP n) ++ [hdrP n bn]).flatMap encSl) :: nearM n bs nb) y14) := hide hQ
   replace hK := hide hK2
   have hge_A9 := hide hg2
   clear hQ hK2 hg2
   try go_frame
   refine lx_one (i := 6) (by kernel_rfl) rfl (by rfl) #[true,true,true,true,true,true,true,false] (by rfl) ?_
   refine (unhide hP).valL (unhide hK) (v := .pointer (some ⟨r4,2,none⟩)) ?_ ?_
   ·go_simp
   intro y15 hQ hK2
   replace hP : Hid (Sp w [] w [] [(r1,41, #[.slice (some ⟨bV,oV,none⟩) n cA, .slice B nE cB]),(r2,109, #[.slice none 0 0, .slice none 0 0, .slice none 0 0]),(r4,109, #[.slice A8 (i + 1) cA8, .slice (some ⟨bt,0,none⟩) n n, .slice A7 i c7]),(bn,4,vA encB (List.replicate n false)),(bh,106, #[.slice (some ⟨bn,0,none⟩) n n])] ((4,1, .slice (some ⟨bt,0,none⟩) n n,n,(th.set i true).flatMap encB) :: (3,1, .slice A8 (i + 1) cA8,i + 1,(xs ++ [x]).flatMap encI) :: (106,1, .slice A9 (i + 1) cA9,i + 1,(bs.map (hdrP n) ++ [hdrP n bn]).flatMap encSl) :: nearM n bs nb) y15) := hide hQ
   replace hK := hide hK2
   clear hQ hK2
   try go_frame
   refine (unhide hP).setX 2 #[.slice A8 (i + 1) cA8, .slice (some ⟨bt,0,none⟩) n n, .slice A9 (i + 1) cA9] rfl (j := 7) (by kernel_rfl) rfl (by rfl) #[true,true,true,true,true,true,true,true] (by rfl) rfl (fun hb => run_store_fld (i := 2) (v := .slice A9 (i + 1) cA9) rfl rfl rfl rfl rfl (by simp [go_sem]) hb (by simp) rfl) ?_
   intro y16 hQ
   replace hP : Hid (Sp w [] w [] [(r1,41, #[.slice (some ⟨bV,oV,none⟩) n cA, .slice B nE cB]),(r2,109, #[.slice none 0 0, .slice none 0 0, .slice none 0 0]),(r4,109, #[.slice A8 (i + 1) cA8, .slice (some ⟨bt,0,none⟩) n n, .slice A9 (i + 1) cA9]),(bn,4,vA encB (List.replicate n false)),(bh,106, #[.slice (some ⟨bn,0,none⟩) n n])] ((4,1, .slice (some ⟨bt,0,none⟩) n n,n,(th.set i true).flatMap encB) :: (3,1, .slice A8 (i + 1) cA8,i + 1,(xs ++ [x]).flatMap encI) :: (106,1, .slice A9 (i + 1) cA9,i + 1,(bs.map (hdrP n) ++ [hdrP n bn]).flatMap encSl) :: nearM n bs nb) y16) := hide hQ
   clear hQ
   try go_frame
   refine wpX_done (by kernel_rfl) ?_
   try go_frame
   clear hK
   clear hge_bn hge_bh hge_A9
   replace hP : Hid (Sp w [] w [] [(r1,41, #[.slice (some ⟨bV,oV,none⟩) n cA, .slice B nE cB]),(r2,109, #[.slice none 0 0, .slice none 0 0, .slice none 0 0]),(r4,109, #[.slice A8 (i + 1) cA8, .slice (some ⟨bt,0,none⟩) n n, .slice A9 (i + 1) cA9]),(bn,4,vA encB (List.replicate n false))] ((4,1, .slice (some ⟨bt,0,none⟩) n n,n,(th.set i true).flatMap encB) :: (3,1, .slice A8 (i + 1) cA8,i + 1,(xs ++ [x]).flatMap encI) :: (106,1, .slice A9 (i + 1) cA9,i + 1,(bs.map (hdrP n) ++ [hdrP n bn]).flatMap encSl) :: nearM n bs nb) y16) := hide ((unhide hP).sub (List.sublist_append_left _ ([(bh,106, #[.slice (some ⟨bn,0,none⟩) n n])] : List Cl)) (List.Sublist.refl _))
   replace hP : Hid (Sp w [] w [] [(r1,41, #[.slice (some ⟨bV,oV,none⟩) n cA, .slice B nE cB]),(r2,109, #[.slice none 0 0, .slice none 0 0, .slice none 0 0]),(r4,109, #[.slice A8 (i + 1) cA8, .slice (some ⟨bt,0,none⟩) n n, .slice A9 (i + 1) cA9])] ((4,1, .slice (some ⟨bt,0,none⟩) n n,n,(th.set i true).flatMap encB) :: (3,1, .slice A8 (i + 1) cA8,i + 1,(xs ++ [x]).flatMap encI) :: (106,1, .slice A9 (i + 1) cA9,(i + 1),((bs ++ [bn]).map (hdrP n)).flatMap encSl) :: nearM n (bs ++ [bn]) (nb ++ [List.replicate n false])) y16) := hide (Sp.snocN (L := [(r1,41, #[.slice (some ⟨bV,oV,none⟩) n cA, .slice B nE cB]),(r2,109, #[.slice none 0 0, .slice none 0 0, .slice none 0 0]),(r4,109, #[.slice A8 (i + 1) cA8, .slice (some ⟨bt,0,none⟩) n n, .slice A9 (i + 1) cA9])]) (unhide hP) (by rw [unhide hlb',unhide hnb',List.length_replicate]) List.length_replicate (unhide hlb))
   have hlbn := hide (show (bs ++ [bn]).length = i + 1 by rw [List.length_append,unhide hlb']; rfl)
   have hnbn := hide (show nb ++ [List.replicate n false] = List.replicate (i + 1) (List.replicate n false) by rw [unhide hnb',List.replicate_succ'])
   have hthn := hide (show ∀ k,k < n → (th.set i true).getD k false = decide (k < i + 1) from fun k hk => by
    rw [getD_set _ _ _ _ _ (by rw [unhide hth']; exact unhide hk2)]
    by_cases hki : k = i
    ·rw [if_pos hki,decide_eq_true (by omega)]
    ·rw [if_neg hki,unhide hth2 k hk]
     by_cases h3 : k < i
     ·rw [decide_eq_true h3,decide_eq_true (by omega)]
     ·rw [decide_eq_false h3,decide_eq_false (by omega)])
   have hthl := hide (show (th.set i true).length = n by rw [List.length_set]; exact unhide hth')
   have hw1 : IntKind.i64.wrap ((i : Int) + 1) = (i : Int) + 1 := IntWalk.i64_in _ (by omega)
   go_wp2_with fail
   have h3 := unhide hk2
   refine ⟨n - (i + 1), ?_,by have := unhide hfm'; omega⟩
   rw [unhide hI4_2]
   exact ⟨i + 1,A8,cA8,A9,cA9,xs ++ [x],bs ++ [bn],nb ++ [List.replicate n false],th.set i true,(by first | rfl | trivial),(by first | rfl | trivial),(by first | rfl | trivial),(by first | rfl | trivial),(by first | rfl | trivial),(by first | rfl | (show _ = Value.int _ _; go_num) | go_num),(by first | rfl | trivial),by omega,unhide hxn,unhide hlbn,unhide hnbn,unhide hthl,unhide hthn,unhide hP,rfl⟩
  ·have hil : ¬ (i : Int) < (n : Int) := by omega
   obtain rfl : n = i := by omega
   obtain rfl : ids = xs := by rw [unhide hxs',List.take_of_length_le (by rw [unhide hids',List.length_map]; have := unhide hn'; omega)]
   obtain ⟨q,hq⟩ : ∃ q : Nat → Nat → Bool,q = fun a b => E.any (mtE (ids.getD a 0) (ids.getD b 0)) := ⟨_,rfl⟩
   have hq' := hide hq
   have hsq0 := hide (show Sqr n bs nb from ⟨unhide hlb',by rw [unhide hnb',List.length_replicate],fun i hi => by rw [unhide hnb',List.getD_eq_getElem?_getD,List.getElem?_replicate,if_pos hi]; exact List.length_replicate⟩)
   have hT0 := hide (show ∀ a b,a < n → b < n → nbG nb a b = ofT q 0 0 a b from fun a b ha hb => by
    unfold nbG
    rw [unhide hnb',List.getD_eq_getElem?_getD (l := List.replicate n (List.replicate n false)),List.getElem?_replicate,if_pos ha,Option.getD_some,List.getD_eq_getElem?_getD,List.getElem?_replicate,if_pos hb]
    simp [ofT])
   have hth3 := hide (show ∀ k,k < n → th.getD k false = true from fun k hk => by rw [unhide hth2 k hk,decide_eq_true hk])
   have hil2 := hide (show ids.length = n by rw [unhide hids',List.length_map]; exact (unhide hn').symm)
   clear hlt hin hfm' hxs' hnb' hth2 hq
   try dsimp only
   repeat ((fail_if_success (with_reducible refine wp_reg (id := 4) ?_)); (first | go_values | go_skip | go_step | go_guarded | go_upon | go_in | go_back | fail))
   with_reducible refine wp_reg (id := 4) ?_
   iterate 3
    refine wpO_want rfl ?_
    go_simp
   refine wpO_done ?_
   try go_frame
   try dsimp only
   repeat ((fail_if_success (with_reducible refine wp_reg (id := 9) ?_)); (first | go_values | go_skip | go_step | go_guarded | go_upon | go_in | go_back | fail))
   with_reducible refine wp_reg (id := 9) ?_
   refine wpO_want rfl ?_
   go_simp
   refine wpO_done ?_
   try go_frame
   go_wp2_with fail
   obtain ⟨I4_6,hI4_60⟩ : ∃ I : Nat → Act → World → Prop,I = fun fi a' wr => ∃ (i : Nat), ∃ (nb : List (List Bool)),a'.tmps.size = 115 ∧ a'.tmps.getD 1 undef = .pointer (some ⟨r1,0,none⟩) ∧ a'.tmps.getD 2 undef = .pointer (some ⟨r2,0,none⟩) ∧ a'.tmps.getD 3 undef = .int .i64 (n : Nat) ∧ a'.tmps.getD 4 undef = .pointer (some ⟨r4,0,none⟩) ∧ a'.tmps.getD 6 undef = .int .i64 (i : Nat) ∧ a'.defers = [] ∧ i ≤ n ∧ Sqr n bs nb ∧ (∀ a b,a < n → b < n → nbG nb a b = ofT q i 0 a b) ∧ Sp w [] w [] [(r1,41, #[.slice A n cA, .slice B nE cB]),(r2,109, #[.slice none 0 0, .slice none 0 0, .slice none 0 0]),(r4,109, #[.slice A6 n c6, .slice (some ⟨bt,0,none⟩) n n, .slice A7 n c7])] ((4,1, .slice (some ⟨bt,0,none⟩) n n,n,th.flatMap encB) :: (3,1, .slice A6 n c6,n,ids.flatMap encI) :: (106,1, .slice A7 n c7,n,(bs.map (hdrP n)).flatMap encSl) :: nearM n bs nb) wr ∧ fi = n - i := ⟨_,rfl⟩
   have hI4_6 := hide hI4_60
   clear hI4_60
   refine wp_loop_ix I4_6 (n - 0) ?_ ?_
   ·rw [unhide hI4_6]; exact ⟨0,nb,rfl,rfl,rfl,rfl,rfl,rfl,rfl,Nat.zero_le _,unhide hsq0,unhide hT0,unhide hP,rfl⟩
   ·rintro fi ⟨tm,dfs⟩ wr hrel
    rw [unhide hI4_6] at hrel
    obtain ⟨i,nb,hsz,e1,e2,e3,e4,e6,hdf,hin,hsq,hT,hPr,hfm⟩ := hrel
    obtain ⟨us,rfl⟩ : ∃ us : Nat → Value,tm = #[us 0,us 1,us 2,us 3,us 4,us 5,us 6,us 7,us 8,us 9,us 10,us 11,us 12,us 13,us 14,us 15,us 16,us 17,us 18,us 19,us 20,us 21,us 22,us 23,us 24,us 25,us 26,us 27,us 28,us 29,us 30,us 31,us 32,us 33,us 34,us 35,us 36,us 37,us 38,us 39,us 40,us 41,us 42,us 43,us 44,us 45,us 46,us 47,us 48,us 49,us 50,us 51,us 52,us 53,us 54,us 55,us 56,us 57,us 58,us 59,us 60,us 61,us 62,us 63,us 64,us 65,us 66,us 67,us 68,us 69,us 70,us 71,us 72,us 73,us 74,us 75,us 76,us 77,us 78,us 79,us 80,us 81,us 82,us 83,us 84,us 85,us 86,us 87,us 88,us 89,us 90,us 91,us 92,us 93,us 94,us 95,us 96,us 97,us 98,us 99,us 100,us 101,us 102,us 103,us 104,us 105,us 106,us 107,us 108,us 109,us 110,us 111,us 112,us 113,us 114] := ⟨fun i => tm.getD i undef,arr_fn hsz⟩
    have h1 : us 1 = .pointer (some ⟨r1,0,none⟩) := e1
    have h2 : us 2 = .pointer (some ⟨r2,0,none⟩) := e2
    have h3 : us 3 = .int .i64 (n : Nat) := e3
    have h4 : us 4 = .pointer (some ⟨r4,0,none⟩) := e4
    have h6 : us 6 = .int .i64 (i : Nat) := e6
    have hdf2 : dfs = [] := hdf
    subst hdf2
    clear hdf hsz e1 e2 e3 e4 e6
    simp only [h1,h2,h3,h4,h6]
    clear h1 h2 h3 h4 h6
    clear hP hsq0 hT0
    have hP := hide hPr
    have hfm' := hide hfm
    have hsq' := hide hsq
    have hT' := hide hT
    clear hPr hfm hsq hT
    by_cases hlt : i < n
    ·have hil : (i : Int) < (n : Int) := by omega
     have hk2 := hide hlt
     have hkb : (i : Int) ≤ 100 := by have := unhide hlb; omega
     clear hlt hin
     try dsimp only
     repeat ((fail_if_success (with_reducible refine wp_reg (id := 10) ?_)); (first | go_values | go_skip | go_step | go_guarded | go_upon | go_in | go_back | fail))
     with_reducible refine wp_reg (id := 10) ?_
     iterate 3
      refine wpO_want rfl ?_
      go_simp
     refine wpO_done ?_
     try go_frame
     try dsimp only
     repeat ((fail_if_success (with_reducible refine wp_reg (id := 12) ?_)); (first | go_values | go_skip | go_step | go_guarded | go_upon | go_in | go_back | fail))
     with_reducible refine wp_reg (id := 12) ?_
     refine wpO_want rfl ?_
     go_simp
     refine wpO_done ?_
     try go_frame
     go_wp2_with fail
     obtain ⟨I4_10,hI4_100⟩ : ∃ I : Nat → Act → World → Prop,I = fun fk a' wr => ∃ (k : Nat), ∃ (nb : List (List Bool)),a'.tmps.size = 115 ∧ a'.tmps.getD 1 undef = .pointer (some ⟨r1,0,none⟩) ∧ a'.tmps.getD 2 undef = .pointer (some ⟨r2,0,none⟩) ∧ a'.tmps.getD 3 undef = .int .i64 (n : Nat) ∧ a'.tmps.getD 4 undef = .pointer (some ⟨r4,0,none⟩) ∧ a'.tmps.getD 6 undef = .int .i64 (i : Nat) ∧ a'.tmps.getD 7 undef = .int .i64 (k : Nat) ∧ a'.defers = [] ∧ k ≤ n ∧ Sqr n bs nb ∧ (∀ a b,a < n → b < n → nbG nb a b = ofT q i k a b) ∧ Sp w [] w [] [(r1,41, #[.slice A n cA, .slice B nE cB]),(r2,109, #[.slice none 0 0, .slice none 0 0, .slice none 0 0]),(r4,109, #[.slice A6 n c6, .slice (some ⟨bt,0,none⟩) n n, .slice A7 n c7])] ((4,1, .slice (some ⟨bt,0,none⟩) n n,n,th.flatMap encB) :: (3,1, .slice A6 n c6,n,ids.flatMap encI) :: (106,1, .slice A7 n c7,n,(bs.map (hdrP n)).flatMap encSl) :: nearM n bs nb) wr ∧ fk = n - k := ⟨_,rfl⟩
     have hI4_10 := hide hI4_100
     clear hI4_100
     refine wp_loop_ix I4_10 (n - 0) ?_ ?_
     ·rw [unhide hI4_10]; exact ⟨0,nb,rfl,rfl,rfl,rfl,rfl,rfl,rfl,rfl,Nat.zero_le _,unhide hsq',unhide hT',unhide hP,rfl⟩
     ·rintro fk ⟨tm,dfs⟩ wr hrel
      rw [unhide hI4_10] at hrel
      obtain ⟨k,nb,hsz,e1,e2,e3,e4,e6,e7,hdf,hkn,hsq,hT,hPr,hfk⟩ := hrel
      obtain ⟨us,rfl⟩ : ∃ us : Nat → Value,tm = #[us 0,us 1,us 2,us 3,us 4,us 5,us 6,us 7,us 8,us 9,us 10,us 11,us 12,us 13,us 14,us 15,us 16,us 17,us 18,us 19,us 20,us 21,us 22,us 23,us 24,us 25,us 26,us 27,us 28,us 29,us 30,us 31,us 32,us 33,us 34,us 35,us 36,us 37,us 38,us 39,us 40,us 41,us 42,us 43,us 44,us 45,us 46,us 47,us 48,us 49,us 50,us 51,us 52,us 53,us 54,us 55,us 56,us 57,us 58,us 59,us 60,us 61,us 62,us 63,us 64,us 65,us 66,us 67,us 68,us 69,us 70,us 71,us 72,us 73,us 74,us 75,us 76,us 77,us 78,us 79,us 80,us 81,us 82,us 83,us 84,us 85,us 86,us 87,us 88,us 89,us 90,us 91,us 92,us 93,us 94,us 95,us 96,us 97,us 98,us 99,us 100,us 101,us 102,us 103,us 104,us 105,us 106,us 107,us 108,us 109,us 110,us 111,us 112,us 113,us 114] := ⟨fun i => tm.getD i undef,arr_fn hsz⟩
      have h1 : us 1 = .pointer (some ⟨r1,0,none⟩) := e1
      have h2 : us 2 = .pointer (some ⟨r2,0,none⟩) := e2
      have h3 : us 3 = .int .i64 (n : Nat) := e3
      have h4 : us 4 = .pointer (some ⟨r4,0,none⟩) := e4
      have h6 : us 6 = .int .i64 (i : Nat) := e6
      have h7 : us 7 = .int .i64 (k : Nat) := e7
      have hdf2 : dfs = [] := hdf
      subst hdf2
      clear hdf hsz e1 e2 e3 e4 e6 e7
      simp only [h1,h2,h3,h4,h6,h7]
      clear h1 h2 h3 h4 h6 h7
      clear hP hsq' hT'
      have hP := hide hPr
      have hfk' := hide hfk
      have hsq' := hide hsq
      have hT' := hide hT
      clear hPr hfk hsq hT
      by_cases hlt : k < n
      ·have hkl : (k : Int) < (n : Int) := by omega
       have hk3 := hide hlt
       have hkb2 : (k : Int) ≤ 100 := by have := unhide hlb; omega
       obtain ⟨f,hf⟩ : ∃ f : (Int × Int) × Thing → Bool,f = mtE (ids.getD i 0) (ids.getD k 0) := ⟨_,rfl⟩
       have hf' := hide hf
       have hT1 := hide (show ∀ a b,a < n → b < n → nbG nb a b = (ofT q i k a b || (decide (a = i) && decide (b = k) && (E.take 0).any f)) from fun a b ha hb => by rw [unhide hT' a b ha hb]; simp)
       clear hlt hkn hf hT'
       try dsimp only
       repeat ((fail_if_success (with_reducible refine wp_reg (id := 13) ?_)); (first | go_values | go_skip | go_step | go_guarded | go_upon | go_in | go_back | fail))
       with_reducible refine wp_reg (id := 13) ?_
       iterate 3
        refine wpO_want rfl ?_
        go_simp
       refine wpO_done ?_
       try go_frame
       try dsimp only
       repeat ((fail_if_success (with_reducible refine wp_reg (id := 15) ?_)); (first | go_values | go_skip | go_step | go_guarded | go_upon | go_in | go_back | fail))
       with_reducible refine wp_reg (id := 15) ?_
       refine wpO_want rfl ?_
       go_simp
       refine wpO_done ?_
       try go_frame
       go_wp2_with fail
       obtain ⟨I4_14,hI4_140⟩ : ∃ I : Nat → Act → World → Prop,I = fun fj a' wr => ∃ (j : Nat), ∃ (nb : List (List Bool)),a'.tmps.size = 115 ∧ a'.tmps.getD 1 undef = .pointer (some ⟨r1,0,none⟩) ∧ a'.tmps.getD 2 undef = .pointer (some ⟨r2,0,none⟩) ∧ a'.tmps.getD 3 undef = .int .i64 (n : Nat) ∧ a'.tmps.getD 4 undef = .pointer (some ⟨r4,0,none⟩) ∧ a'.tmps.getD 6 undef = .int .i64 (i : Nat) ∧ a'.tmps.getD 7 undef = .int .i64 (k : Nat) ∧ a'.tmps.getD 8 undef = .int .i64 (j : Nat) ∧ a'.defers = [] ∧ j ≤ nE ∧ Sqr n bs nb ∧ (∀ a b,a < n → b < n → nbG nb a b = (ofT q i k a b || (decide (a = i) && decide (b = k) && (E.take j).any f))) ∧ Sp w [] w [] [(r1,41, #[.slice A n cA, .slice B nE cB]),(r2,109, #[.slice none 0 0, .slice none 0 0, .slice none 0 0]),(r4,109, #[.slice A6 n c6, .slice (some ⟨bt,0,none⟩) n n, .slice A7 n c7])] ((4,1, .slice (some ⟨bt,0,none⟩) n n,n,th.flatMap encB) :: (3,1, .slice A6 n c6,n,ids.flatMap encI) :: (106,1, .slice A7 n c7,n,(bs.map (hdrP n)).flatMap encSl) :: nearM n bs nb) wr ∧ fj = nE - j := ⟨_,rfl⟩
       have hI4_14 := hide hI4_140
       clear hI4_140
       refine wp_loop_ix I4_14 (nE - 0) ?_ ?_
       ·rw [unhide hI4_14]; exact ⟨0,nb,rfl,rfl,rfl,rfl,rfl,rfl,rfl,rfl,rfl,Nat.zero_le _,unhide hsq',unhide hT1,unhide hP,rfl⟩
       ·rintro fj ⟨tm,dfs⟩ wr hrel
        rw [unhide hI4_14] at hrel
        obtain ⟨j,nb,hsz,e1,e2,e3,e4,e6,e7,e8,hdf,hjn,hsq,hT,hPr,hfj⟩ := hrel
        obtain ⟨us,rfl⟩ : ∃ us : Nat → Value,tm = #[us 0,us 1,us 2,us 3,us 4,us 5,us 6,us 7,us 8,us 9,us 10,us 11,us 12,us 13,us 14,us 15,us 16,us 17,us 18,us 19,us 20,us 21,us 22,us 23,us 24,us 25,us 26,us 27,us 28,us 29,us 30,us 31,us 32,us 33,us 34,us 35,us 36,us 37,us 38,us 39,us 40,us 41,us 42,us 43,us 44,us 45,us 46,us 47,us 48,us 49,us 50,us 51,us 52,us 53,us 54,us 55,us 56,us 57,us 58,us 59,us 60,us 61,us 62,us 63,us 64,us 65,us 66,us 67,us 68,us 69,us 70,us 71,us 72,us 73,us 74,us 75,us 76,us 77,us 78,us 79,us 80,us 81,us 82,us 83,us 84,us 85,us 86,us 87,us 88,us 89,us 90,us 91,us 92,us 93,us 94,us 95,us 96,us 97,us 98,us 99,us 100,us 101,us 102,us 103,us 104,us 105,us 106,us 107,us 108,us 109,us 110,us 111,us 112,us 113,us 114] := ⟨fun i => tm.getD i undef,arr_fn hsz⟩
        have h1 : us 1 = .pointer (some ⟨r1,0,none⟩) := e1
        have h2 : us 2 = .pointer (some ⟨r2,0,none⟩) := e2
        have h3 : us 3 = .int .i64 (n : Nat) := e3
        have h4 : us 4 = .pointer (some ⟨r4,0,none⟩) := e4
        have h6 : us 6 = .int .i64 (i : Nat) := e6
        have h7 : us 7 = .int .i64 (k : Nat) := e7
        have h8 : us 8 = .int .i64 (j : Nat) := e8
        have hdf2 : dfs = [] := hdf
        subst hdf2
        clear hdf hsz e1 e2 e3 e4 e6 e7 e8
        simp only [h1,h2,h3,h4,h6,h7,h8]
        clear h1 h2 h3 h4 h6 h7 h8
        clear hP hsq' hT1
        have hP := hide hPr
        have hfj' := hide hfj
        have hsq' := hide hsq
        have hT' := hide hT
        clear hPr hfj hsq hT
        by_cases hlt : j < nE
        ·have hjl : (j : Int) < (nE : Int) := by omega
         have hk4 := hide hlt
         have hjb : (j : Int) ≤ 1024 := by have := unhide hEb; omega
         have hjE : j < E.length := by have := unhide hnE'; omega
         obtain ⟨bE,oE,rfl,d0,d1,d2,d3⟩ := atE (unhide hE') hjE
         obtain ⟨bi,rfl⟩ := own_some1 ((unhide hP).row 1 rfl) (by have := unhide hk3; omega)
         obtain ⟨bh,rfl⟩ := own_some1 ((unhide hP).row 2 rfl) (by have := unhide hk3; omega)
         have hbl := (unhide hsq').lb
         have hbi : i < bs.length := by rw [hbl]; exact unhide hk2
         obtain ⟨br,hbr0⟩ : ∃ br,bs[i]? = some br := ⟨_,List.getElem?_eq_getElem hbi⟩
         have hbr := hide hbr0
         have hii : i < ids.length := by rw [unhide hil2]; exact unhide hk2
         have hkk : k < ids.length := by rw [unhide hil2]; exact unhide hk3
         obtain ⟨x,hx⟩ : ∃ x,x = ids[i] := ⟨_,rfl⟩
         obtain ⟨y,hy⟩ : ∃ y,y = ids[k] := ⟨_,rfl⟩
         obtain ⟨e,he⟩ : ∃ e,e = E[j] := ⟨_,rfl⟩
         have hx2 : ids.getD i 0 = x := by rw [hx,List.getD_eq_getElem?_getD,List.getElem?_eq_getElem hii]; rfl
         have hy2 : ids.getD k 0 = y := by rw [hy,List.getD_eq_getElem?_getD,List.getElem?_eq_getElem hkk]; rfl
         have htk := take_any f hjE
         rw [← he] at htk d0 d1
         have hfe : f e = ((e.1.1 == x && e.1.2 == y) || (e.1.2 == x && e.1.1 == y)) := by rw [unhide hf',hx2,hy2]; rfl
         rw [hfe] at htk
         obtain ⟨⟨u,v⟩,ew⟩ := e
         simp only at htk d0 d1
         have hx' := hide (show ids[i]? = some x by rw [hx]; exact List.getElem?_eq_getElem hii)
         have hy' := hide (show ids[k]? = some y by rw [hy]; exact List.getElem?_eq_getElem hkk)
         have htk' := hide htk
         have d0' := hide d0
         have d1' := hide d1
         clear hlt hjn hjE d0 d1 d2 d3 hbl hbi hbr0 hii hkk hx hy he hx2 hy2 htk hfe
         have q1 := (unhide hP).cell 0 1 (v := .slice (some ⟨bE,oE,none⟩) nE cB) rfl rfl
         have hself := Ext.refl wr
         try dsimp only
         repeat ((fail_if_success (with_reducible refine wp_reg (id := 16) ?_)); (first | go_values | go_skip | go_step | go_guarded | go_upon | go_in | go_back | fail))
         with_reducible refine wp_reg (id := 16) ?_
         iterate 5
          refine wpO_want rfl ?_
          go_simp
         refine wpO_done ?_
         try go_frame
         clear q1 hself
         go_wp2_with fail
         have q1 := (unhide hP).cellK (S := []) 0 1 (v := .slice (some ⟨bE,oE,none⟩) nE cB) rfl rfl (by simp)
         have hself := Keep.refl [] wr
         have d0 := fun (W : World) (hW : Keep [] wr W) => unhide d0' W ((unhide hP).extf.of_new hW (by simp))
         have d1 := fun (W : World) (hW : Keep [] wr W) => unhide d1' W ((unhide hP).extf.of_new hW (by simp))
         refine wp_regionK (P := Tryz.prog) [] [0,1,2,3,4,5,6,7,8,9,10,11,12,13] [] 0 #[true,true,true,true,true,true,true,true,true,true,true,true,true,true] (by kernel_rfl) (by kernel_rfl) rfl (by rfl) ?_
         iterate 14
          refine ql_want (v := ?_) rfl (by rfl) (fun W hW => ?_) ?_
          rotate_left
          ·go_simp
           first | done | rfl
          go_frame
         refine wpQL_nil (fun y5 hxq => ?_)
         replace hP : Hid (Sp w [] w [] [(r1,41, #[.slice A n cA, .slice (some ⟨bE,oE,none⟩) nE cB]),(r2,109, #[.slice none 0 0, .slice none 0 0, .slice none 0 0]),(r4,109, #[.slice (some ⟨bi,0,none⟩) n c6, .slice (some ⟨bt,0,none⟩) n n, .slice (some ⟨bh,0,none⟩) n c7])] ((4,1, .slice (some ⟨bt,0,none⟩) n n,n,th.flatMap encB) :: (3,1, .slice (some ⟨bi,0,none⟩) n c6,n,ids.flatMap encI) :: (106,1, .slice (some ⟨bh,0,none⟩) n c7,n,(bs.map (hdrP n)).flatMap encSl) :: nearM n bs nb) y5) := hide ((unhide hP).ext hxq)
         clear hxq
         refine wpX_done (by kernel_rfl) ?_
         try go_frame
         clear q1 hself d0 d1
         have hrow := (unhide hP).row 1 rfl
         have c0' := hide (id_at hrow (unhide hil2) (unhide hx'))
         have c1' := hide (id_at hrow (unhide hil2) (unhide hy'))
         have e2 := hide (hdr_at ((unhide hP).row 2 rfl) (unhide hsq').lb (unhide hbr))
         clear hrow
         by_cases e1 : u = x
         ·skip
          by_cases e2v : v = y
          ·skip
           have ee := hide (show u = x ∧ v = y from ⟨e1,e2v⟩)
           have f1 : (u == x) = true := by simp [e1]
           have f2 : (v == y) = true := by simp [e2v]
           clear e1 e2v
           have e2c' := e2
           have q0 := (unhide hP).cell 2 0 (v := .slice (some ⟨bi,0,none⟩) n c6) rfl rfl
           have hself := Ext.refl y5
           have c0 := unhide c0'
           have c1 := unhide c1'
           try dsimp only
           repeat ((fail_if_success (with_reducible refine wp_reg (id := 19) ?_)); (first | go_values | go_skip | go_step | go_guarded | go_upon | go_in | go_back | fail))
           with_reducible refine wp_reg (id := 19) ?_
           iterate 17
            refine wpO_want rfl ?_
            go_simp
           refine wpO_out (by rfl) ?_
           go_frame
           refine wpO_out (by rfl) ?_
           go_frame
           refine wpO_out (by rfl) ?_
           go_frame
           refine wpO_out (by rfl) ?_
           go_frame
           refine wpO_out (by rfl) ?_
           go_frame
           refine wpO_out (by rfl) ?_
           go_frame
           refine wpO_out (by rfl) ?_
           go_frame
           refine wpO_out (by rfl) ?_
           go_frame
           refine wpO_out (by rfl) ?_
           go_frame
           refine wpO_out (by rfl) ?_
           go_frame
           refine wpO_out (by rfl) ?_
           go_frame
           refine wpO_out (by rfl) ?_
           go_frame
           refine wpO_out (by rfl) ?_
           go_frame
           refine wpO_out (by rfl) ?_
           go_frame
           refine wpO_out (by rfl) ?_
           go_frame
           refine wpO_out (by rfl) ?_
           go_frame
           refine wpO_want rfl ?_
           go_simp
           refine wpO_done ?_
           try go_frame
           clear f1 f2
           clear q0 hself c0 c1
           have q2 := (unhide hP).cell 2 2 (v := .slice (some ⟨bh,0,none⟩) n c7) rfl rfl
           have hself := Ext.refl y5
           have e2c : ∀ W,Ext y5 W → W.cell? ⟨bh,i,none⟩ = some (.slice (some ⟨br,0,none⟩) n n) := unhide e2c'
           try dsimp only
           repeat ((fail_if_success (with_reducible refine wp_reg (id := 20) ?_)); (first | go_values | go_skip | go_step | go_guarded | go_upon | go_in | go_back | fail))
           with_reducible refine wp_reg (id := 20) ?_
           iterate 7
            refine wpO_want rfl ?_
            go_simp
           refine (unhide hP).putNear (i := i) (k := k) (unhide hsq') (unhide hk2) (unhide hk3) true rfl rfl (fun b hb => by obtain rfl := Option.some.inj ((unhide hbr).symm.trans hb); first | rfl | go_simp) rfl (by simp [go_sem]) ?_
           intro y6 hQ
           replace hP : Hid (Sp w [] w [] [(r1,41, #[.slice A n cA, .slice (some ⟨bE,oE,none⟩) nE cB]),(r2,109, #[.slice none 0 0, .slice none 0 0, .slice none 0 0]),(r4,109, #[.slice (some ⟨bi,0,none⟩) n c6, .slice (some ⟨bt,0,none⟩) n n, .slice (some ⟨bh,0,none⟩) n c7])] ((4,1, .slice (some ⟨bt,0,none⟩) n n,n,th.flatMap encB) :: (3,1, .slice (some ⟨bi,0,none⟩) n c6,n,ids.flatMap encI) :: (106,1, .slice (some ⟨bh,0,none⟩) n c7,n,(bs.map (hdrP n)).flatMap encSl) :: nearM n bs (putN nb i k true)) y6) := hide hQ
           clear hQ q2 hself e2c e2c'
           go_frame
           refine wpO_done ?_
           try go_frame
           have hsn := hide ((unhide hsq').put i k true)
           have hTn := hide (show ∀ a b,a < n → b < n → nbG (putN nb i k true) a b = (ofT q i k a b || (decide (a = i) && decide (b = k) && (E.take (j + 1)).any f)) by
            rw [unhide htk',show ((u == x && v == y) || (v == x && u == y)) = true by simp [unhide ee],Bool.or_true]
            exact step_yes (unhide hsq') (unhide hk2) (unhide hk3) (unhide hT'))
           have hw1 : IntKind.i64.wrap ((j : Int) + 1) = (j : Int) + 1 := IntWalk.i64_in _ (by omega)
           go_wp2_with fail
           have h3 := unhide hk4
           refine ⟨nE - (j + 1), ?_,by have := unhide hfj'; omega⟩
           rw [unhide hI4_14]
           exact ⟨j + 1,putN nb i k true,(by first | rfl | trivial),(by first | rfl | trivial),(by first | rfl | trivial),(by first | rfl | trivial),(by first | rfl | trivial),(by first | rfl | trivial),(by first | rfl | trivial),(by first | rfl | (show _ = Value.int _ _; go_num) | go_num),(by first | rfl | trivial),by omega,unhide hsn,unhide hTn,unhide hP,rfl⟩
          ·skip
           have en := hide (show u = x → ¬ v = y from fun _ => e2v)
           have f1 : (u == x) = true := by simp [e1]
           have f2 : (v == y) = false := by simp [e2v]
           clear e1 e2v
           have e2c' := e2
           by_cases e3 : v = x
           ·skip
            by_cases e4 : u = y
            ·skip
             have ee := hide (show v = x ∧ u = y from ⟨e3,e4⟩)
             have f3 : (v == x) = true := by simp [e3]
             have f4 : (u == y) = true := by simp [e4]
             clear e3 e4
             have q0 := (unhide hP).cell 2 0 (v := .slice (some ⟨bi,0,none⟩) n c6) rfl rfl
             have hself := Ext.refl y5
             have c0 := unhide c0'
             have c1 := unhide c1'
             try dsimp only
             repeat ((fail_if_success (with_reducible refine wp_reg (id := 19) ?_)); (first | go_values | go_skip | go_step | go_guarded | go_upon | go_in | go_back | fail))
             with_reducible refine wp_reg (id := 19) ?_
             iterate 17
              refine wpO_want rfl ?_
              go_simp
             iterate 8
              refine wpO_want rfl ?_
              go_simp
             iterate 7
              refine wpO_want rfl ?_
              go_simp
             iterate 2
              refine wpO_want rfl ?_
              go_simp
             refine wpO_done ?_
             try go_frame
             clear f1 f2 f3 f4
             clear q0 hself c0 c1
             have q2 := (unhide hP).cell 2 2 (v := .slice (some ⟨bh,0,none⟩) n c7) rfl rfl
             have hself := Ext.refl y5
             have e2c : ∀ W,Ext y5 W → W.cell? ⟨bh,i,none⟩ = some (.slice (some ⟨br,0,none⟩) n n) := unhide e2c'
             try dsimp only
             repeat ((fail_if_success (with_reducible refine wp_reg (id := 20) ?_)); (first | go_values | go_skip | go_step | go_guarded | go_upon | go_in | go_back | fail))
             with_reducible refine wp_reg (id := 20) ?_
             iterate 7
              refine wpO_want rfl ?_
              go_simp
             refine (unhide hP).putNear (i := i) (k := k) (unhide hsq') (unhide hk2) (unhide hk3) true rfl rfl (fun b hb => by obtain rfl := Option.some.inj ((unhide hbr).symm.trans hb); first | rfl | go_simp) rfl (by simp [go_sem]) ?_
             intro y6 hQ
             replace hP : Hid (Sp w [] w [] [(r1,41, #[.slice A n cA, .slice (some ⟨bE,oE,none⟩) nE cB]),(r2,109, #[.slice none 0 0, .slice none 0 0, .slice none 0 0]),(r4,109, #[.slice (some ⟨bi,0,none⟩) n c6, .slice (some ⟨bt,0,none⟩) n n, .slice (some ⟨bh,0,none⟩) n c7])] ((4,1, .slice (some ⟨bt,0,none⟩) n n,n,th.flatMap encB) :: (3,1, .slice (some ⟨bi,0,none⟩) n c6,n,ids.flatMap encI) :: (106,1, .slice (some ⟨bh,0,none⟩) n c7,n,(bs.map (hdrP n)).flatMap encSl) :: nearM n bs (putN nb i k true)) y6) := hide hQ
             clear hQ q2 hself e2c e2c'
             go_frame
             refine wpO_done ?_
             try go_frame
             have hsn := hide ((unhide hsq').put i k true)
             have hTn := hide (show ∀ a b,a < n → b < n → nbG (putN nb i k true) a b = (ofT q i k a b || (decide (a = i) && decide (b = k) && (E.take (j + 1)).any f)) by
              rw [unhide htk',show ((u == x && v == y) || (v == x && u == y)) = true by simp [unhide ee],Bool.or_true]
              exact step_yes (unhide hsq') (unhide hk2) (unhide hk3) (unhide hT'))
             have hw1 : IntKind.i64.wrap ((j : Int) + 1) = (j : Int) + 1 := IntWalk.i64_in _ (by omega)
             go_wp2_with fail
             have h3 := unhide hk4
             refine ⟨nE - (j + 1), ?_,by have := unhide hfj'; omega⟩
             rw [unhide hI4_14]
             exact ⟨j + 1,putN nb i k true,(by first | rfl | trivial),(by first | rfl | trivial),(by first | rfl | trivial),(by first | rfl | trivial),(by first | rfl | trivial),(by first | rfl | trivial),(by first | rfl | trivial),(by first | rfl | (show _ = Value.int _ _; go_num) | go_num),(by first | rfl | trivial),by omega,unhide hsn,unhide hTn,unhide hP,rfl⟩
            ·skip
             have ee := hide (show (u = x → ¬ v = y) ∧ (v = x → ¬ u = y) from ⟨unhide en,fun _ => e4⟩)
             have f3 : (v == x) = true := by simp [e3]
             have f4 : (u == y) = false := by simp [e4]
             clear e3 e4
             have q0 := (unhide hP).cell 2 0 (v := .slice (some ⟨bi,0,none⟩) n c6) rfl rfl
             have hself := Ext.refl y5
             have c0 := unhide c0'
             have c1 := unhide c1'
             try dsimp only
             repeat ((fail_if_success (with_reducible refine wp_reg (id := 19) ?_)); (first | go_values | go_skip | go_step | go_guarded | go_upon | go_in | go_back | fail))
             with_reducible refine wp_reg (id := 19) ?_
             iterate 17
              refine wpO_want rfl ?_
              go_simp
             iterate 8
              refine wpO_want rfl ?_
              go_simp
             iterate 7
              refine wpO_want rfl ?_
              go_simp
             iterate 2
              refine wpO_want rfl ?_
              go_simp
             refine wpO_done ?_
             try go_frame
             clear f1 f2 f3 f4
             clear q0 hself c0 c1
             clear e2c'
             have hsn := hsq'
             have hTn := hide (show ∀ a b,a < n → b < n → nbG nb a b = (ofT q i k a b || (decide (a = i) && decide (b = k) && (E.take (j + 1)).any f)) by
              rw [unhide htk',show ((u == x && v == y) || (v == x && u == y)) = false by simpa using unhide ee,Bool.or_false]
              exact unhide hT')
             have hw1 : IntKind.i64.wrap ((j : Int) + 1) = (j : Int) + 1 := IntWalk.i64_in _ (by omega)
             go_wp2_with fail
             have h3 := unhide hk4
             refine ⟨nE - (j + 1), ?_,by have := unhide hfj'; omega⟩
             rw [unhide hI4_14]
             exact ⟨j + 1,nb,(by first | rfl | trivial),(by first | rfl | trivial),(by first | rfl | trivial),(by first | rfl | trivial),(by first | rfl | trivial),(by first | rfl | trivial),(by first | rfl | trivial),(by first | rfl | (show _ = Value.int _ _; go_num) | go_num),(by first | rfl | trivial),by omega,unhide hsn,unhide hTn,unhide hP,rfl⟩
           ·skip
            have ee := hide (show (u = x → ¬ v = y) ∧ (v = x → ¬ u = y) from ⟨unhide en,fun h => absurd h e3⟩)
            have f3 : (v == x) = false := by simp [e3]
            have f4 := 0
            clear e3
            have q0 := (unhide hP).cell 2 0 (v := .slice (some ⟨bi,0,none⟩) n c6) rfl rfl
            have hself := Ext.refl y5
            have c0 := unhide c0'
            have c1 := unhide c1'
            try dsimp only
            repeat ((fail_if_success (with_reducible refine wp_reg (id := 19) ?_)); (first | go_values | go_skip | go_step | go_guarded | go_upon | go_in | go_back | fail))
            with_reducible refine wp_reg (id := 19) ?_
            iterate 17
             refine wpO_want rfl ?_
             go_simp
            iterate 8
             refine wpO_want rfl ?_
             go_simp
            refine wpO_out (by rfl) ?_
            go_frame
            refine wpO_out (by rfl) ?_
            go_frame
            refine wpO_out (by rfl) ?_
            go_frame
            refine wpO_out (by rfl) ?_
            go_frame
            refine wpO_out (by rfl) ?_
            go_frame
            refine wpO_out (by rfl) ?_
            go_frame
            refine wpO_out (by rfl) ?_
            go_frame
            iterate 2
             refine wpO_want rfl ?_
             go_simp
            refine wpO_done ?_
            try go_frame
            clear f1 f2 f3 f4
            clear q0 hself c0 c1
            clear e2c'
            have hsn := hsq'
            have hTn := hide (show ∀ a b,a < n → b < n → nbG nb a b = (ofT q i k a b || (decide (a = i) && decide (b = k) && (E.take (j + 1)).any f)) by
             rw [unhide htk',show ((u == x && v == y) || (v == x && u == y)) = false by simpa using unhide ee,Bool.or_false]
             exact unhide hT')
            have hw1 : IntKind.i64.wrap ((j : Int) + 1) = (j : Int) + 1 := IntWalk.i64_in _ (by omega)
            go_wp2_with fail
            have h3 := unhide hk4
            refine ⟨nE - (j + 1), ?_,by have := unhide hfj'; omega⟩
            rw [unhide hI4_14]
            exact ⟨j + 1,nb,(by first | rfl | trivial),(by first | rfl | trivial),(by first | rfl | trivial),(by first | rfl | trivial),(by first | rfl | trivial),(by first | rfl | trivial),(by first | rfl | trivial),(by first | rfl | (show _ = Value.int _ _; go_num) | go_num),(by first | rfl | trivial),by omega,unhide hsn,unhide hTn,unhide hP,rfl⟩
         ·skip
          have en := hide (show u = x → ¬ v = y from fun h => absurd h e1)
          have f1 : (u == x) = false := by simp [e1]
          have f2 := 0
          clear e1
          have e2c' := e2
          by_cases e3 : v = x
          ·skip
           by_cases e4 : u = y
           ·skip
            have ee := hide (show v = x ∧ u = y from ⟨e3,e4⟩)
            have f3 : (v == x) = true := by simp [e3]
            have f4 : (u == y) = true := by simp [e4]
            clear e3 e4
            have q0 := (unhide hP).cell 2 0 (v := .slice (some ⟨bi,0,none⟩) n c6) rfl rfl
            have hself := Ext.refl y5
            have c0 := unhide c0'
            have c1 := unhide c1'
            try dsimp only
            repeat ((fail_if_success (with_reducible refine wp_reg (id := 19) ?_)); (first | go_values | go_skip | go_step | go_guarded | go_upon | go_in | go_back | fail))
            with_reducible refine wp_reg (id := 19) ?_
            iterate 8
             refine wpO_want rfl ?_
             go_simp
            refine wpO_out (by rfl) ?_
            go_frame
            refine wpO_out (by rfl) ?_
            go_frame
            refine wpO_out (by rfl) ?_
            go_frame
            refine wpO_out (by rfl) ?_
            go_frame
            refine wpO_out (by rfl) ?_
            go_frame
            refine wpO_out (by rfl) ?_
            go_frame
            refine wpO_out (by rfl) ?_
            go_frame
            iterate 2
             refine wpO_want rfl ?_
             go_simp
            iterate 8
             refine wpO_want rfl ?_
             go_simp
            iterate 7
             refine wpO_want rfl ?_
             go_simp
            iterate 2
             refine wpO_want rfl ?_
             go_simp
            refine wpO_done ?_
            try go_frame
            clear f1 f2 f3 f4
            clear q0 hself c0 c1
            have q2 := (unhide hP).cell 2 2 (v := .slice (some ⟨bh,0,none⟩) n c7) rfl rfl
            have hself := Ext.refl y5
            have e2c : ∀ W,Ext y5 W → W.cell? ⟨bh,i,none⟩ = some (.slice (some ⟨br,0,none⟩) n n) := unhide e2c'
            try dsimp only
            repeat ((fail_if_success (with_reducible refine wp_reg (id := 20) ?_)); (first | go_values | go_skip | go_step | go_guarded | go_upon | go_in | go_back | fail))
            with_reducible refine wp_reg (id := 20) ?_
            iterate 7
             refine wpO_want rfl ?_
             go_simp
            refine (unhide hP).putNear (i := i) (k := k) (unhide hsq') (unhide hk2) (unhide hk3) true rfl rfl (fun b hb => by obtain rfl := Option.some.inj ((unhide hbr).symm.trans hb); first | rfl | go_simp) rfl (by simp [go_sem]) ?_
            intro y6 hQ
            replace hP : Hid (Sp w [] w [] [(r1,41, #[.slice A n cA, .slice (some ⟨bE,oE,none⟩) nE cB]),(r2,109, #[.slice none 0 0, .slice none 0 0, .slice none 0 0]),(r4,109, #[.slice (some ⟨bi,0,none⟩) n c6, .slice (some ⟨bt,0,none⟩) n n, .slice (some ⟨bh,0,none⟩) n c7])] ((4,1, .slice (some ⟨bt,0,none⟩) n n,n,th.flatMap encB) :: (3,1, .slice (some ⟨bi,0,none⟩) n c6,n,ids.flatMap encI) :: (106,1, .slice (some ⟨bh,0,none⟩) n c7,n,(bs.map (hdrP n)).flatMap encSl) :: nearM n bs (putN nb i k true)) y6) := hide hQ
            clear hQ q2 hself e2c e2c'
            go_frame
            refine wpO_done ?_
            try go_frame
            have hsn := hide ((unhide hsq').put i k true)
            have hTn := hide (show ∀ a b,a < n → b < n → nbG (putN nb i k true) a b = (ofT q i k a b || (decide (a = i) && decide (b = k) && (E.take (j + 1)).any f)) by
             rw [unhide htk',show ((u == x && v == y) || (v == x && u == y)) = true by simp [unhide ee],Bool.or_true]
             exact step_yes (unhide hsq') (unhide hk2) (unhide hk3) (unhide hT'))
            have hw1 : IntKind.i64.wrap ((j : Int) + 1) = (j : Int) + 1 := IntWalk.i64_in _ (by omega)
            go_wp2_with fail
            have h3 := unhide hk4
            refine ⟨nE - (j + 1), ?_,by have := unhide hfj'; omega⟩
            rw [unhide hI4_14]
            exact ⟨j + 1,putN nb i k true,(by first | rfl | trivial),(by first | rfl | trivial),(by first | rfl | trivial),(by first | rfl | trivial),(by first | rfl | trivial),(by first | rfl | trivial),(by first | rfl | trivial),(by first | rfl | (show _ = Value.int _ _; go_num) | go_num),(by first | rfl | trivial),by omega,unhide hsn,unhide hTn,unhide hP,rfl⟩
           ·skip
            have ee := hide (show (u = x → ¬ v = y) ∧ (v = x → ¬ u = y) from ⟨unhide en,fun _ => e4⟩)
            have f3 : (v == x) = true := by simp [e3]
            have f4 : (u == y) = false := by simp [e4]
            clear e3 e4
            have q0 := (unhide hP).cell 2 0 (v := .slice (some ⟨bi,0,none⟩) n c6) rfl rfl
            have hself := Ext.refl y5
            have c0 := unhide c0'
            have c1 := unhide c1'
            try dsimp only
            repeat ((fail_if_success (with_reducible refine wp_reg (id := 19) ?_)); (first | go_values | go_skip | go_step | go_guarded | go_upon | go_in | go_back | fail))
            with_reducible refine wp_reg (id := 19) ?_
            iterate 8
             refine wpO_want rfl ?_
             go_simp
            refine wpO_out (by rfl) ?_
            go_frame
            refine wpO_out (by rfl) ?_
            go_frame
            refine wpO_out (by rfl) ?_
            go_frame
            refine wpO_out (by rfl) ?_
            go_frame
            refine wpO_out (by rfl) ?_
            go_frame
            refine wpO_out (by rfl) ?_
            go_frame
            refine wpO_out (by rfl) ?_
            go_frame
            iterate 2
             refine wpO_want rfl ?_
             go_simp
            iterate 8
             refine wpO_want rfl ?_
             go_simp
            iterate 7
             refine wpO_want rfl ?_
             go_simp
            iterate 2
             refine wpO_want rfl ?_
             go_simp
            refine wpO_done ?_
            try go_frame
            clear f1 f2 f3 f4
            clear q0 hself c0 c1
            clear e2c'
            have hsn := hsq'
            have hTn := hide (show ∀ a b,a < n → b < n → nbG nb a b = (ofT q i k a b || (decide (a = i) && decide (b = k) && (E.take (j + 1)).any f)) by
             rw [unhide htk',show ((u == x && v == y) || (v == x && u == y)) = false by simpa using unhide ee,Bool.or_false]
             exact unhide hT')
            have hw1 : IntKind.i64.wrap ((j : Int) + 1) = (j : Int) + 1 := IntWalk.i64_in _ (by omega)
            go_wp2_with fail
            have h3 := unhide hk4
            refine ⟨nE - (j + 1), ?_,by have := unhide hfj'; omega⟩
            rw [unhide hI4_14]
            exact ⟨j + 1,nb,(by first | rfl | trivial),(by first | rfl | trivial),(by first | rfl | trivial),(by first | rfl | trivial),(by first | rfl | trivial),(by first | rfl | trivial),(by first | rfl | trivial),(by first | rfl | (show _ = Value.int _ _; go_num) | go_num),(by first | rfl | trivial),by omega,unhide hsn,unhide hTn,unhide hP,rfl⟩
          ·skip
           have ee := hide (show (u = x → ¬ v = y) ∧ (v = x → ¬ u = y) from ⟨unhide en,fun h => absurd h e3⟩)
           have f3 : (v == x) = false := by simp [e3]
           have f4 := 0
           clear e3
           have q0 := (unhide hP).cell 2 0 (v := .slice (some ⟨bi,0,none⟩) n c6) rfl rfl
           have hself := Ext.refl y5
           have c0 := unhide c0'
           have c1 := unhide c1'
           try dsimp only
           repeat ((fail_if_success (with_reducible refine wp_reg (id := 19) ?_)); (first | go_values | go_skip | go_step | go_guarded | go_upon | go_in | go_back | fail))
           with_reducible refine wp_reg (id := 19) ?_
           iterate 8
            refine wpO_want rfl ?_
            go_simp
           refine wpO_out (by rfl) ?_
           go_frame
           refine wpO_out (by rfl) ?_
           go_frame
           refine wpO_out (by rfl) ?_
           go_frame
           refine wpO_out (by rfl) ?_
           go_frame
           refine wpO_out (by rfl) ?_
           go_frame
           refine wpO_out (by rfl) ?_
           go_frame
           refine wpO_out (by rfl) ?_
           go_frame
           iterate 2
            refine wpO_want rfl ?_
            go_simp
           iterate 8
            refine wpO_want rfl ?_
            go_simp
           refine wpO_out (by rfl) ?_
           go_frame
           refine wpO_out (by rfl) ?_
           go_frame
           refine wpO_out (by rfl) ?_
           go_frame
           refine wpO_out (by rfl) ?_
           go_frame
           refine wpO_out (by rfl) ?_
           go_frame
           refine wpO_out (by rfl) ?_
           go_frame
           refine wpO_out (by rfl) ?_
           go_frame
           iterate 2
            refine wpO_want rfl ?_
            go_simp
           refine wpO_done ?_
           try go_frame
           clear f1 f2 f3 f4
           clear q0 hself c0 c1
           clear e2c'
           have hsn := hsq'
           have hTn := hide (show ∀ a b,a < n → b < n → nbG nb a b = (ofT q i k a b || (decide (a = i) && decide (b = k) && (E.take (j + 1)).any f)) by
            rw [unhide htk',show ((u == x && v == y) || (v == x && u == y)) = false by simpa using unhide ee,Bool.or_false]
            exact unhide hT')
           have hw1 : IntKind.i64.wrap ((j : Int) + 1) = (j : Int) + 1 := IntWalk.i64_in _ (by omega)
           go_wp2_with fail
           have h3 := unhide hk4
           refine ⟨nE - (j + 1), ?_,by have := unhide hfj'; omega⟩
           rw [unhide hI4_14]
           exact ⟨j + 1,nb,(by first | rfl | trivial),(by first | rfl | trivial),(by first | rfl | trivial),(by first | rfl | trivial),(by first | rfl | trivial),(by first | rfl | trivial),(by first | rfl | trivial),(by first | rfl | (show _ = Value.int _ _; go_num) | go_num),(by first | rfl | trivial),by omega,unhide hsn,unhide hTn,unhide hP,rfl⟩
        ·have hjl : ¬ (j : Int) < (nE : Int) := by omega
         obtain rfl : nE = j := by omega
         have hTn := hide (show ∀ a b,a < n → b < n → nbG nb a b = ofT q i (k + 1) a b from fun a b ha hb => by
          rw [ofT_next,unhide hT' a b ha hb,List.take_of_length_le (by have := unhide hnE'; omega),unhide hf',unhide hq'])
         clear hlt hjn hfj' hT'
         have q1 := (unhide hP).cell 0 1 (v := .slice B nE cB) rfl rfl
         have hself := Ext.refl wr
         try dsimp only
         repeat ((fail_if_success (with_reducible refine wp_reg (id := 16) ?_)); (first | go_values | go_skip | go_step | go_guarded | go_upon | go_in | go_back | fail))
         with_reducible refine wp_reg (id := 16) ?_
         iterate 5
          refine wpO_want rfl ?_
          go_simp
         refine wpO_done ?_
         try go_frame
         clear q1 hself
         have hw1 : IntKind.i64.wrap ((k : Int) + 1) = (k : Int) + 1 := IntWalk.i64_in _ (by omega)
         go_wp2_with fail
         have h3 := unhide hk3
         refine ⟨n - (k + 1), ?_,by have := unhide hfk'; omega⟩
         rw [unhide hI4_10]
         exact ⟨k + 1,nb,(by first | rfl | trivial),(by first | rfl | trivial),(by first | rfl | trivial),(by first | rfl | trivial),(by first | rfl | trivial),(by first | rfl | trivial),(by first | rfl | (show _ = Value.int _ _; go_num) | go_num),(by first | rfl | trivial),by omega,unhide hsq',unhide hTn,unhide hP,rfl⟩
      ·have hkl : ¬ (k : Int) < (n : Int) := by omega
       obtain rfl : n = k := by omega
       have hTn := hide (show ∀ a b,a < n → b < n → nbG nb a b = ofT q (i + 1) 0 a b from fun a b ha hb => by rw [ofT_row q i n a b hb]; exact unhide hT' a b ha hb)
       clear hlt hkn hfk' hT'
       try dsimp only
       repeat ((fail_if_success (with_reducible refine wp_reg (id := 13) ?_)); (first | go_values | go_skip | go_step | go_guarded | go_upon | go_in | go_back | fail))
       with_reducible refine wp_reg (id := 13) ?_
       iterate 3
        refine wpO_want rfl ?_
        go_simp
       refine wpO_done ?_
       try go_frame
       have hw1 : IntKind.i64.wrap ((i : Int) + 1) = (i : Int) + 1 := IntWalk.i64_in _ (by omega)
       go_wp2_with fail
       have h3 := unhide hk2
       refine ⟨n - (i + 1), ?_,by have := unhide hfm'; omega⟩
       rw [unhide hI4_6]
       exact ⟨i + 1,nb,(by first | rfl | trivial),(by first | rfl | trivial),(by first | rfl | trivial),(by first | rfl | trivial),(by first | rfl | trivial),(by first | rfl | (show _ = Value.int _ _; go_num) | go_num),(by first | rfl | trivial),by omega,unhide hsq',unhide hTn,unhide hP,rfl⟩
    ·have hil : ¬ (i : Int) < (n : Int) := by omega
     obtain rfl : n = i := by omega
     have hTn := hide (show ∀ a b,a < n → b < n → nbG nb a b = nr0 E (ids.getD a 0) (ids.getD b 0) from fun a b ha hb => by
      rw [unhide hT' a b ha hb, ← mtE_near (unhide hi'),unhide hq']
      simp [ofT,ha])
     clear hlt hin hfm' hT'
     try dsimp only
     repeat ((fail_if_success (with_reducible refine wp_reg (id := 10) ?_)); (first | go_values | go_skip | go_step | go_guarded | go_upon | go_in | go_back | fail))
     with_reducible refine wp_reg (id := 10) ?_
     iterate 3
      refine wpO_want rfl ?_
      go_simp
     refine wpO_done ?_
     try go_frame
     try dsimp only
     repeat ((fail_if_success (with_reducible refine wp_reg (id := 21) ?_)); (first | go_values | go_skip | go_step | go_guarded | go_upon | go_in | go_back | fail))
     with_reducible refine wp_reg (id := 21) ?_
     refine wpO_val rfl (run_load_agg (cs := #[.slice A6 n c6, .slice (some ⟨bt,0,none⟩) n n, .slice A7 n c7]) rfl rfl (by simp [go_sem]) (by simp [go_sem]) ((unhide hP).get 2 rfl).whole) ?_
     go_frame
     refine (unhide hP).setO 1 #[.slice A6 n c6, .slice (some ⟨bt,0,none⟩) n n, .slice A7 n c7] rfl rfl (fun hb => run_store_row (v := .agg #[.slice A6 n c6, .slice (some ⟨bt,0,none⟩) n n, .slice A7 n c7]) rfl (by rfl) (by rfl) (by simp [go_sem]) hb rfl (fun u hu => by simp [Value.cells] at hu; rcases hu with rfl | rfl | rfl <;> rfl)) ?_
     intro y5 hQ
     replace hP : Hid (Sp w [] w [] [(r1,41, #[.slice A n cA, .slice B nE cB]),(r2,109, #[.slice A6 n c6, .slice (some ⟨bt,0,none⟩) n n, .slice A7 n c7]),(r4,109, #[.slice A6 n c6, .slice (some ⟨bt,0,none⟩) n n, .slice A7 n c7])] ((4,1, .slice (some ⟨bt,0,none⟩) n n,n,th.flatMap encB) :: (3,1, .slice A6 n c6,n,ids.flatMap encI) :: (106,1, .slice A7 n c7,n,(bs.map (hdrP n)).flatMap encSl) :: nearM n bs nb) y5) := hide hQ
     clear hQ
     refine wpO_done ?_
     try go_frame
     go_wp2_with fail
     refine (unhide hP).leaves ?_
     intro w' hx hst
     refine ⟨_,ret_cell1 (t := 2) rfl rfl (load_Pv _ r2 _ _ _ (hst.get 1 rfl)), ?_⟩
     exact ⟨_,_,_,_,_,_,bs,nb,th,n,(unhide hil2).symm,rfl,hst.sub (List.nil_sublist _) (List.Sublist.refl _),unhide hsq',unhide hth',unhide hth3,unhide hTn,hx⟩
end Go.Proofs.YtoacpebmhbkmbaaGreatDoor
