/- Parts of a proof,laid together. Each part says its own conditions. -/
import Derived.Test.YtmfkkkhddigkfaaGreatDoorP42
import Derived.Test.YtmfkkkhddigkfaaGreatDoorP48
namespace Go.Proofs.YtmfkkkhddigkfaaGreatDoor
open Go Go.RowKit Go.Shelf
attribute [local go_sem] qUpon lUpon
attribute [local irreducible] wpO wpX wpQL
theorem infoRz : (Tryz.prog.info? 48).map (fun i => (i.zero,i.size,i.bytes)) = some (some (.slice none 0 0),1,24) := by kernel_rfl
theorem and_toL (A B : Nat) : andR (toL A) (toL B) = toL (A &&& B) := by
 unfold andR
 exact sorted_ext ((toL_sorted A).filter _) (toL_sorted _) fun x => by rw [List.mem_filter,decide_eq_true_eq,mem_and]
theorem fold_out {l : List Nat} {inn : List Bool} {k : Nat} (h : inn.getD k false = true) : ∀ (Q : List Nat) (s : Int × Int × Int),Q.foldl (stepK l inn k) s = s
 | [],_ => rfl
 | q :: Q,s => by rw [List.foldl_cons,step_out (.inl h),fold_out h Q]
def treeJ (l : List Nat) : Nat → TSt
 | 0 => (List.replicate l.length false,List.replicate l.length 0,List.replicate l.length 0)
 | j + 1 => treeN l j
def TrPost (w : World) (up : List Int) (KK : List (List Int)) (e : Ending) (w' : World) : Prop := ∃ A B c d,e = .returned (.tuple #[.slice A up.length c, .slice B KK.length d]) ∧ SlAt encI 1 w' A up ∧ SSAt w' B KK ∧ Ext w w'
theorem TrPost.mk {w w' : World} {up : List Int} {KK : List (List Int)} {A B : Option Addr} {m c d : Nat} (h1 : m = up.length) (h2 : m = KK.length) (hA : SlAt encI 1 w' A up) (hB : SSAt w' B KK) (hx : Ext w w') : TrPost w up KK (.returned (.tuple #[.slice A m c, .slice B m d])) w' := ⟨A,B,c,d,by rw [← h1, ← h2],hA,hB,hx⟩
def ShOk (J : List (Sl × List Int)) (ps : List Sl) (sh : List Nat) : Prop := ∀ (k : Nat) (h1 : k < ps.length) (h2 : k < sh.length),(ps[k] = ((none,0,0) : Sl) ∧ toL sh[k] = []) ∨ (ps[k],toL sh[k]) ∈ J
theorem ShOk.set {J : List (Sl × List Int)} {ps : List Sl} {sh : List Nat} (h : ShOk J ps sh) (b : Nat) (p : Sl) (c : Nat) : ShOk (J ++ [(p,toL c)]) (ps.set b p) (sh.set b c) := by
 intro k h1 h2
 rw [List.getElem_set,List.getElem_set]
 by_cases hb : b = k
 ·rw [if_pos hb,if_pos hb]; exact .inr (by simp)
 ·rw [if_neg hb,if_neg hb]
  rcases h k (by simpa using h1) (by simpa using h2) with h3 | h3
  ·exact .inl h3
  ·exact .inr (List.mem_append.2 (.inl h3))
theorem toL_zero' : toL 0 = [] := toL_nil fun k _ => Nat.zero_testBit k
theorem Sp.rowsJ {wf w W : World} {T0 : List Nat} {ds : List Deferred} {L : List Cl} {J : List (Sl × List Int)} (h : Sp wf T0 w ds L (J.map rowJ) W) {p : Sl × List Int} (hp : p ∈ J) (hl : p.1.2.1 = p.2.length) : SlAt encI 1 W p.1.1 p.2 := by
 obtain ⟨k,hk,rfl⟩ := List.getElem_of_mem hp
 have h1 := h.row k (T := 3) (k := 1) (v := .slice J[k].1.1 J[k].1.2.1 J[k].1.2.2) (n := J[k].1.2.1) (xs := J[k].2.flatMap encI) (by rw [List.getElem?_map,List.getElem?_eq_getElem hk]; rfl)
 rw [hl] at h1
 exact own_at (enc := encI) h1 (fun _ => rfl)
theorem rowK_step {l : List Nat} {inn : List Bool} {i k : Nat} {x y z : Int} (h1 : inn.getD i false = false) (h2 : inn.getD k false = true) : stepK l inn i (x,y,z) k = if z < (capS l i k : Int) then ((i : Int),(k : Int),(capS l i k : Int)) else (x,y,z) := step_in h1 h2
theorem joinR (J : List (Sl × List Int)) (p : Sl × List Int) : J.map rowJ ++ [rowJ p] = (J ++ [p]).map rowJ := by rw [List.map_append]; rfl
theorem andQ_len {l : List Nat} {i k : Nat} {a b : Nat} (ha : l.getD i 0 = a) (hb : l.getD k 0 = b) : (andR (toL a) (toL b)).length = capS l k i := by rw [and_toL,cap_comm]; unfold capS; rw [ha,hb]
set_option maxRecDepth 100000 in
set_option maxHeartbeats 16000000 in
theorem treeR_any (l : List Nat) (A : Option Addr) (m c : Nat) (w : World) (hA : SSAt w A (l.map toL)) (hm : m = l.length) (hl : m ≤ 4096) :
  Calls Tryz.prog 37 #[.slice A m c] w (TrPost w (treeS l).2.1 ((treeS l).2.2.map toL)) := by
 have hA' := hide hA
 have hm' := hide hm
 have hl' := hide hl
 obtain ⟨up0,hu0⟩ : ∃ u,u = (treeS l).2.1 := ⟨_,rfl⟩
 obtain ⟨sh0,hs0⟩ : ∃ s,s = (treeS l).2.2 := ⟨_,rfl⟩
 rw [← hu0, ← hs0]
 have hu0' := hide hu0
 have hs0' := hide hs0
 have hm100 : m ≤ 100000 := by omega
 clear hA hm hl hu0 hs0
 have hP := hide (Sp.new w)
 refine callsIn_wide.1 (callsIn_of_wp_marks (n := 0) Tryz.func37 rfl trivial (wpIn_wide.2 ?_))
 simp only [Tryz.ntmps37,List.size_toArray,List.length_cons,List.length_nil,Nat.reduceAdd,Nat.reduceSub,Array.replicate_succ,Array.replicate_zero,List.push_toArray,List.append_toArray,List.nil_append,List.cons_append]
 go_wp2_with fail
 refine wp_regionK (P := Tryz.prog) [] [0,1,3,4] [] 4 #[true,true,false,true,true,false,false,false] (by kernel_rfl) (by kernel_rfl) rfl (by rfl) ?_
 iterate 4
  refine ql_want (v := ?_) rfl (by rfl) (fun W hW => ?_) ?_
  rotate_left
  ·go_simp
   first | done | rfl
  go_frame
 refine wpQL_nil (fun y1 hxq => ?_)
 have hK := hide (hxq.keep [])
 replace hP : Hid (Sp w [] w [] [] [] y1) := hide ((unhide hP).ext hxq)
 clear hxq
 refine (unhide hP).alloc2A (unhide hK) (i := 2) (k := 5) (j := 6) (by kernel_rfl) rfl (fun _ => rfl) #[true,true,true,true,true,false,false,false] (by rfl) rfl (fun _ => rfl) #[true,true,false,true,true,true,false,false] (by rfl) rfl (fun _ => rfl) #[true,true,true,true,true,true,false,false] (by kernel_rfl) (by rfl) (by kernel_rfl) (by rfl) #[true,true,true,true,true,false,true,false] (by rfl) (by kernel_rfl) #[true,true,true,true,true,true,true,false] (by rfl) (by kernel_rfl) (by rfl) rfl rfl rfl (by decide) (by decide) (vi := fun b => .slice (some ⟨b,0,none⟩) m m) (vk := fun b => .slice (some ⟨b,0,none⟩) m m) 3 48 (vA encI (List.replicate m 0)) (vA encSl (List.replicate m ((none,0,0) : Sl))) (fun W => run_mkA (enc := encI) 0 rfl rfl rfl hm100 Tryz.underlying31 infoIz (by decide) rfl (fun _ => rfl) (by decide) W) (fun W => run_mkA (enc := encSl) ((none,0,0) : Sl) rfl rfl rfl hm100 Tryz.underlying46 infoRz (by decide) rfl (fun _ => rfl) (by decide) W) (fun v W => run_mkA (enc := encI) 0 rfl rfl rfl hm100 Tryz.underlying31 infoIz (by decide) rfl (fun _ => rfl) (by decide) W) (fun v W => run_mkA (enc := encSl) ((none,0,0) : Sl) rfl rfl rfl hm100 Tryz.underlying46 infoRz (by decide) rfl (fun _ => rfl) (by decide) W) (fun v u W => run_mkA (enc := encSl) ((none,0,0) : Sl) rfl rfl rfl hm100 Tryz.underlying46 infoRz (by decide) rfl (fun _ => rfl) (by decide) W) (fun v W => rfl) (fun v u W => rfl) ?_
 intro r4 r5 y2 hQ hK2 _ _
 replace hP : Hid (Sp w [] w [] [(r4,3,vA encI (List.replicate m 0)),(r5,48,vA encSl (List.replicate m ((none,0,0) : Sl)))] [] y2) := hide hQ
 replace hK := hide hK2
 clear hQ hK2
 try go_frame
 refine lx_rekeep (unhide hK) [7] [] 0 1 #[true,true,true,true,true,true,true,false] #[true,true,true,true,true,true,true,true] (by kernel_rfl) rfl (by rfl) ?_
 clear hK
 iterate 1
  refine ql_want (v := ?_) rfl (by rfl) (fun W hW => ?_) ?_
  rotate_left
  ·go_simp
   first | done | rfl
  go_frame
 refine wpQL_nil (fun y3 hxq => ?_)
 replace hP : Hid (Sp w [] w [] [(r4,3,vA encI (List.replicate m 0)),(r5,48,vA encSl (List.replicate m ((none,0,0) : Sl)))] [] y3) := hide ((unhide hP).ext hxq)
 clear hxq
 refine wpX_done (by kernel_rfl) ?_
 try go_frame
 try dsimp only
 repeat ((fail_if_success (with_reducible refine wp_reg (id := 2) ?_)); (first | go_values | go_skip | go_step | go_guarded | go_upon | go_in | go_back | fail))
 with_reducible refine wp_reg (id := 2) ?_
 iterate 2
  refine wpO_want rfl ?_
  go_simp
 refine (unhide hP).allocVO (v := fun b => .slice (some ⟨b,0,none⟩) m m) 4 (vA encB (List.replicate m false)) rfl (run_mkA (enc := encB) false rfl rfl rfl hm100 Tryz.underlying114 infoBz (by decide) rfl (fun _ => rfl) (by decide)  _) ?_
 intro r6 y4 hQ
 replace hP : Hid (Sp w [] w [] [(r4,3,vA encI (List.replicate m 0)),(r5,48,vA encSl (List.replicate m ((none,0,0) : Sl))),(r6,4,vA encB (List.replicate m false))] [] y4) := hide hQ
 clear hQ
 go_frame
 refine wpO_want rfl ?_
 go_simp
 refine wpO_done ?_
 try go_frame
 replace hP : Hid (Sp w [] w [] [(r4,3,vA encI (List.replicate m 0)),(r5,48,vA encSl (List.replicate m ((none,0,0) : Sl))),(r6,4,vA encB (List.replicate m false))] (([] : List (Sl × List Int)).map rowJ) y4) := hide (unhide hP)
 try dsimp only
 repeat ((fail_if_success (with_reducible refine wp_reg (id := 3) ?_)); (first | go_values | go_skip | go_step | go_guarded | go_upon | go_in | go_back | fail))
 with_reducible refine wp_reg (id := 3) ?_
 refine wpO_want rfl ?_
 go_simp
 refine wpO_done ?_
 try go_frame
 go_wp2_with fail
 obtain ⟨I4_2,hI4_20⟩ : ∃ I : Nat → Act → World → Prop,I = fun fi a' wr => ∃ (n : Nat), ∃ (inn : List Bool), ∃ (up : List Int), ∃ (sh : List Nat), ∃ (ps : List Sl), ∃ (J : List (Sl × List Int)),a'.tmps.size = 97 ∧ a'.tmps.getD 0 undef = .slice A m c ∧ a'.tmps.getD 4 undef = .slice (some ⟨r4,0,none⟩) m m ∧ a'.tmps.getD 5 undef = .slice (some ⟨r5,0,none⟩) m m ∧ a'.tmps.getD 6 undef = .slice (some ⟨r6,0,none⟩) m m ∧ a'.tmps.getD 7 undef = .int .i64 (n : Nat) ∧ a'.defers = [] ∧ n ≤ m ∧ (inn,up,sh) = treeJ l n ∧ ps.length = m ∧ ShOk J ps sh ∧ (∀ p ∈ J,p.1.2.1 = p.2.length) ∧ Sp w [] w [] [(r4,3,vA encI up),(r5,48,vA encSl ps),(r6,4,vA encB inn)] (J.map rowJ) wr ∧ fi = m - n := ⟨_,rfl⟩
 have hI4_2 := hide hI4_20
 clear hI4_20
 refine wp_loop_ix I4_2 (m - 0) ?_ ?_
 ·rw [unhide hI4_2]; exact ⟨0,_,_,_,_,[],rfl,rfl,rfl,rfl,rfl,rfl,rfl,Nat.zero_le _,(by rw [unhide hm']; rfl),List.length_replicate,(fun k h1 h2 => .inl ⟨by rw [List.getElem_replicate],by rw [List.getElem_replicate,toL_zero']⟩),(fun p h => by cases h),unhide hP,rfl⟩
 ·rintro fi ⟨tm,dfs⟩ wr hrel
  rw [unhide hI4_2] at hrel
  obtain ⟨n,inn,up,sh,ps,J,hsz,e0,e4,e5,e6,e7,hdf,hn,hst,hpl,hso,hJl,hPr,hfm⟩ := hrel
  obtain ⟨us,rfl⟩ : ∃ us : Nat → Value,tm = #[us 0,us 1,us 2,us 3,us 4,us 5,us 6,us 7,us 8,us 9,us 10,us 11,us 12,us 13,us 14,us 15,us 16,us 17,us 18,us 19,us 20,us 21,us 22,us 23,us 24,us 25,us 26,us 27,us 28,us 29,us 30,us 31,us 32,us 33,us 34,us 35,us 36,us 37,us 38,us 39,us 40,us 41,us 42,us 43,us 44,us 45,us 46,us 47,us 48,us 49,us 50,us 51,us 52,us 53,us 54,us 55,us 56,us 57,us 58,us 59,us 60,us 61,us 62,us 63,us 64,us 65,us 66,us 67,us 68,us 69,us 70,us 71,us 72,us 73,us 74,us 75,us 76,us 77,us 78,us 79,us 80,us 81,us 82,us 83,us 84,us 85,us 86,us 87,us 88,us 89,us 90,us 91,us 92,us 93,us 94,us 95,us 96] := ⟨fun i => tm.getD i undef,arr_fn hsz⟩
  have h0 : us 0 = .slice A m c := e0
  have h4 : us 4 = .slice (some ⟨r4,0,none⟩) m m := e4
  have h5 : us 5 = .slice (some ⟨r5,0,none⟩) m m := e5
  have h6 : us 6 = .slice (some ⟨r6,0,none⟩) m m := e6
  have h7 : us 7 = .int .i64 (n : Nat) := e7
  have hdf2 : dfs = [] := hdf
  subst hdf2
  clear hdf hsz e0 e4 e5 e6 e7
  simp only [h0,h4,h5,h6,h7]
  clear h0 h4 h5 h6 h7
  clear hP
  have hP := hide hPr
  have hst' := hide hst
  have hpl' := hide hpl
  have hso' := hide hso
  have hJl' := hide hJl
  have hfm' := hide hfm
  clear hPr hst hpl hso hJl hfm
  by_cases hlt : n < m
  ·have hil : (n : Int) < (m : Int) := by omega
   have hn2 := hide hlt
   have hnb : (n : Int) ≤ 4096 := by have := unhide hl'; omega
   have hne := hide (show l ≠ [] by rintro rfl; have := unhide hm'; simp at this; omega)
   clear hn hlt
   try dsimp only
   repeat ((fail_if_success (with_reducible refine wp_reg (id := 4) ?_)); (first | go_values | go_skip | go_step | go_guarded | go_upon | go_in | go_back | fail))
   with_reducible refine wp_reg (id := 4) ?_
   iterate 4
    refine wpO_want rfl ?_
    go_simp
   refine wpO_done ?_
   try go_frame
   clear hil
   cases n with
   | zero =>
    have hlens : inn = List.replicate m false ∧ up = List.replicate m 0 ∧ sh = List.replicate m 0 := by
     have h := unhide hst'
     rw [show treeJ l 0 = (List.replicate l.length false,List.replicate l.length 0,List.replicate l.length 0) from rfl, ← unhide hm'] at h
     injection h with h1 h2
     injection h2 with h2 h3
     exact ⟨h1,h2,h3⟩
    obtain ⟨rfl,rfl,rfl⟩ := hlens
    have hnew := hide (show ((List.replicate m false).set 0 true,(List.replicate m (0 : Int)).set 0 (-1),List.replicate m 0) = treeJ l 1 by rw [unhide hm']; rfl)
    have hmq := unhide hn2
    try dsimp only
    repeat ((fail_if_success (with_reducible refine wp_reg (id := 6) ?_)); (first | go_values | go_skip | go_step | go_guarded | go_upon | go_in | go_back | fail))
    with_reducible refine wp_reg (id := 6) ?_
    iterate 2
     refine wpO_want rfl ?_
     go_simp
    refine wpO_done ?_
    try go_frame
    try dsimp only
    repeat ((fail_if_success (with_reducible refine wp_reg (id := 7) ?_)); (first | go_values | go_skip | go_step | go_guarded | go_upon | go_in | go_back | fail))
    with_reducible refine wp_reg (id := 7) ?_
    iterate 3
     refine wpO_want rfl ?_
     go_simp
    refine (unhide hP).setO 0 (vA encI ((List.replicate m 0).set 0 (-1))) rfl rfl (fun hb => run_store_elem1 (enc := encI) (i := 0) (v := .int .i64 (-1)) (-1) rfl (by first | rfl | (go_simp; done)) rfl rfl (fun _ => rfl) one_encI (Tryz.sizeOf3 _) hb (by rw [List.length_replicate]; exact unhide hn2)) ?_
    intro y5 hQ
    replace hP : Hid (Sp w [] w [] [(r4,3,vA encI ((List.replicate m 0).set 0 (-1))),(r5,48,vA encSl ps),(r6,4,vA encB (List.replicate m false))] (J.map rowJ) y5) := hide hQ
    clear hQ
    try go_frame
    refine wpO_want rfl ?_
    go_simp
    refine (unhide hP).setO 2 (vA encB ((List.replicate m false).set 0 true)) rfl rfl (fun hb => run_store_elem1 (enc := encB) (i := 0) (v := .bool true) true rfl (by first | rfl | (go_simp; done)) rfl rfl (fun _ => rfl) one_encB (Tryz.sizeOf4 _) hb (by rw [List.length_replicate]; exact unhide hn2)) ?_
    intro y6 hQ
    replace hP : Hid (Sp w [] w [] [(r4,3,vA encI ((List.replicate m 0).set 0 (-1))),(r5,48,vA encSl ps),(r6,4,vA encB ((List.replicate m false).set 0 true))] (J.map rowJ) y6) := hide hQ
    clear hQ
    try go_frame
    refine wpO_done ?_
    try go_frame
    clear hmq
    go_wp2_with fail
    have h1 := unhide hn2
    refine ⟨m - 1, ?_,by have := unhide hfm'; omega⟩
    rw [unhide hI4_2]
    exact ⟨1,_,_,_,ps,J,(by first | rfl | trivial),(by first | rfl | trivial),(by first | rfl | trivial),(by first | rfl | trivial),(by first | rfl | trivial),(by first | rfl | (show _ = Value.int _ _; go_num) | go_num),(by first | rfl | trivial),by omega,unhide hnew,unhide hpl',unhide hso',unhide hJl',unhide hP,rfl⟩
   | succ n =>
    have hnz : (((n + 1 : Nat) : Int) == 0) = false := by simp; omega
    have hst1 := hide (show (inn,up,sh) = treeN l n from unhide hst')
    obtain ⟨t1,t2,t3,tb,tt,ht1,ht2,ht3,ht4⟩ := tree_round (unhide hne) (n := n) (by have := unhide hn2; have := unhide hm'; omega) (s0 := (0,0, -1)) rfl (unhide hst1)
    have hil' := hide (show inn.length = m by rw [t1,unhide hm'])
    have hul' := hide (show up.length = m by rw [t2,unhide hm'])
    have hsl' := hide (show sh.length = m by rw [t3,unhide hm'])
    have htb := hide (show tb < m by rw [unhide hm']; exact ht1)
    have htt := hide (show tt < m by rw [unhide hm']; exact ht2)
    have hpk := hide (show (List.range m).foldl (rowK l inn) (0,0, -1) = ((tb : Int),(tt : Int),(capS l tb tt : Int)) by rw [unhide hm']; exact ht3)
    have hnx := hide ht4
    clear t1 t2 t3 ht1 ht2 ht3 ht4 hst'
    obtain ⟨bL,oL,rfl,hget⟩ := (unhide hA').get (by rw [List.length_map, ← unhide hm']; have := unhide hn2; omega)
    have hKt := hide (fun (k : Nat) (h : k < l.length) => show ∃ a c,(∀ W,Ext w W → W.cell? ⟨bL,oL + k,none⟩ = some (.slice a (toL (l.getD k 0)).length c)) ∧ SlAt encI 1 w a (toL (l.getD k 0)) by
     obtain ⟨a,c,h1,h2⟩ := hget k (by rw [List.length_map]; exact h)
     rw [List.getElem_map, ← getD_get h] at h1 h2
     exact ⟨a,c,fun W hW => h1 [] W (hW.keep []) (by simp),h2⟩)
    clear hget
    try dsimp only
    repeat ((fail_if_success (with_reducible refine wp_reg (id := 6) ?_)); (first | go_values | go_skip | go_step | go_guarded | go_upon | go_in | go_back | fail))
    with_reducible refine wp_reg (id := 6) ?_
    iterate 2
     refine wpO_want rfl ?_
     go_simp
    refine wpO_done ?_
    try go_frame
    clear hnz
    try dsimp only
    repeat ((fail_if_success (with_reducible refine wp_reg (id := 8) ?_)); (first | go_values | go_skip | go_step | go_guarded | go_upon | go_in | go_back | fail))
    with_reducible refine wp_reg (id := 8) ?_
    iterate 3
     refine wpO_want rfl ?_
     go_simp
    refine wpO_done ?_
    try go_frame
    try dsimp only
    repeat ((fail_if_success (with_reducible refine wp_reg (id := 9) ?_)); (first | go_values | go_skip | go_step | go_guarded | go_upon | go_in | go_back | fail))
    with_reducible refine wp_reg (id := 9) ?_
    refine wpO_want rfl ?_
    go_simp
    refine wpO_done ?_
    try go_frame
    go_wp2_with fail
    obtain ⟨I4_8,hI4_80⟩ : ∃ I : Nat → Act → World → Prop,I = fun fj a' wr => ∃ (k : Nat), ∃ (xx : Int), ∃ (yy : Int), ∃ (zz : Int),a'.tmps.size = 97 ∧ a'.tmps.getD 0 undef = .slice (some ⟨bL,oL,none⟩) m c ∧ a'.tmps.getD 4 undef = .slice (some ⟨r4,0,none⟩) m m ∧ a'.tmps.getD 5 undef = .slice (some ⟨r5,0,none⟩) m m ∧ a'.tmps.getD 6 undef = .slice (some ⟨r6,0,none⟩) m m ∧ a'.tmps.getD 7 undef = .int .i64 ((n + 1 : Nat) : Int) ∧ a'.tmps.getD 8 undef = .int .i64 zz ∧ a'.tmps.getD 9 undef = .int .i64 xx ∧ a'.tmps.getD 10 undef = .int .i64 yy ∧ a'.tmps.getD 11 undef = .int .i64 (k : Nat) ∧ a'.defers = [] ∧ k ≤ m ∧ (xx,yy,zz) = (List.range k).foldl (rowK l inn) (0,0, -1) ∧ Sp w [] w [] [(r4,3,vA encI up),(r5,48,vA encSl ps),(r6,4,vA encB inn)] (J.map rowJ) wr ∧ fj = m - k := ⟨_,rfl⟩
    have hI4_8 := hide hI4_80
    clear hI4_80
    refine wp_loop_ix I4_8 (m - 0) ?_ ?_
    ·rw [unhide hI4_8]; exact ⟨0,0,0, -1,rfl,rfl,rfl,rfl,rfl,rfl,rfl,rfl,rfl,rfl,rfl,Nat.zero_le _,rfl,unhide hP,rfl⟩
    ·rintro fj ⟨tm,dfs⟩ wr hrel
     rw [unhide hI4_8] at hrel
     obtain ⟨k,xx,yy,zz,hsz,e0,e4,e5,e6,e7,e8,e9,e10,e11,hdf,hk,hxy,hPr,hfi⟩ := hrel
     obtain ⟨us,rfl⟩ : ∃ us : Nat → Value,tm = #[us 0,us 1,us 2,us 3,us 4,us 5,us 6,us 7,us 8,us 9,us 10,us 11,us 12,us 13,us 14,us 15,us 16,us 17,us 18,us 19,us 20,us 21,us 22,us 23,us 24,us 25,us 26,us 27,us 28,us 29,us 30,us 31,us 32,us 33,us 34,us 35,us 36,us 37,us 38,us 39,us 40,us 41,us 42,us 43,us 44,us 45,us 46,us 47,us 48,us 49,us 50,us 51,us 52,us 53,us 54,us 55,us 56,us 57,us 58,us 59,us 60,us 61,us 62,us 63,us 64,us 65,us 66,us 67,us 68,us 69,us 70,us 71,us 72,us 73,us 74,us 75,us 76,us 77,us 78,us 79,us 80,us 81,us 82,us 83,us 84,us 85,us 86,us 87,us 88,us 89,us 90,us 91,us 92,us 93,us 94,us 95,us 96] := ⟨fun i => tm.getD i undef,arr_fn hsz⟩
     have h0 : us 0 = .slice (some ⟨bL,oL,none⟩) m c := e0
     have h4 : us 4 = .slice (some ⟨r4,0,none⟩) m m := e4
     have h5 : us 5 = .slice (some ⟨r5,0,none⟩) m m := e5
     have h6 : us 6 = .slice (some ⟨r6,0,none⟩) m m := e6
     have h7 : us 7 = .int .i64 ((n + 1 : Nat) : Int) := e7
     have h8 : us 8 = .int .i64 zz := e8
     have h9 : us 9 = .int .i64 xx := e9
     have h10 : us 10 = .int .i64 yy := e10
     have h11 : us 11 = .int .i64 (k : Nat) := e11
     have hdf2 : dfs = [] := hdf
     subst hdf2
     clear hdf hsz e0 e4 e5 e6 e7 e8 e9 e10 e11
     simp only [h0,h4,h5,h6,h7,h8,h9,h10,h11]
     clear h0 h4 h5 h6 h7 h8 h9 h10 h11
     clear hP
     have hP := hide hPr
     have hxy' := hide hxy
     have hfi' := hide hfi
     clear hPr hxy hfi
     by_cases hlt : k < m
     ·have hil : (k : Int) < (m : Int) := by omega
      have hk2 := hide hlt
      have hkb : (k : Int) ≤ 4096 := by have := unhide hl'; omega
      have hkL : k < l.length := by rw [← unhide hm']; exact hlt
      have hkI := hide (show k < inn.length by rw [unhide hil']; exact hlt)
      obtain ⟨ak,ck,hck,hsk⟩ := unhide hKt k hkL
      obtain ⟨Ck,hCk⟩ : ∃ C,C = l.getD k 0 := ⟨_,rfl⟩
      rw [← hCk] at hck hsk
      obtain ⟨nk,hnk⟩ : ∃ n,n = (toL Ck).length := ⟨_,rfl⟩
      rw [← hnk] at hck
      have hck' := hide hck
      have hsk' := hide hsk
      have hnk' := hide hnk
      have hnkb := hide (show nk ≤ 1024 by rw [hnk]; exact toL_len_le _)
      have hCk' := hide hCk
      obtain ⟨qk,hqk⟩ : ∃ q,q = inn[k]'(unhide hkI) := ⟨_,rfl⟩
      have hgk := hide (show inn.getD k false = qk by rw [hqk]; exact getB _)
      have hqk' := hide hqk
      clear hk hlt hck hsk hnk hCk hqk
      try dsimp only
      repeat ((fail_if_success (with_reducible refine wp_reg (id := 10) ?_)); (first | go_values | go_skip | go_step | go_guarded | go_upon | go_in | go_back | fail))
      with_reducible refine wp_reg (id := 10) ?_
      iterate 4
       refine wpO_want rfl ?_
       go_simp
      refine wpO_done ?_
      try go_frame
      try dsimp only
      repeat ((fail_if_success (with_reducible refine wp_reg (id := 12) ?_)); (first | go_values | go_skip | go_step | go_guarded | go_upon | go_in | go_back | fail))
      with_reducible refine wp_reg (id := 12) ?_
      refine wpO_want rfl ?_
      go_simp
      refine wpO_done ?_
      try go_frame
      go_wp2_with fail
      obtain ⟨I4_12,hI4_120⟩ : ∃ I : Nat → Act → World → Prop,I = fun fk a' wr => ∃ (i : Nat), ∃ (x' : Int), ∃ (y' : Int), ∃ (z' : Int),a'.tmps.size = 97 ∧ a'.tmps.getD 0 undef = .slice (some ⟨bL,oL,none⟩) m c ∧ a'.tmps.getD 4 undef = .slice (some ⟨r4,0,none⟩) m m ∧ a'.tmps.getD 5 undef = .slice (some ⟨r5,0,none⟩) m m ∧ a'.tmps.getD 6 undef = .slice (some ⟨r6,0,none⟩) m m ∧ a'.tmps.getD 7 undef = .int .i64 ((n + 1 : Nat) : Int) ∧ a'.tmps.getD 8 undef = .int .i64 z' ∧ a'.tmps.getD 9 undef = .int .i64 x' ∧ a'.tmps.getD 10 undef = .int .i64 y' ∧ a'.tmps.getD 11 undef = .int .i64 (k : Nat) ∧ a'.tmps.getD 12 undef = .int .i64 (i : Nat) ∧ a'.defers = [] ∧ i ≤ m ∧ (x',y',z') = (List.range i).foldl (stepK l inn k) (xx,yy,zz) ∧ Sp w [] w [] [(r4,3,vA encI up),(r5,48,vA encSl ps),(r6,4,vA encB inn)] (J.map rowJ) wr ∧ fk = m - i := ⟨_,rfl⟩
      have hI4_12 := hide hI4_120
      clear hI4_120
      refine wp_loop_ix I4_12 (m - 0) ?_ ?_
      ·rw [unhide hI4_12]; exact ⟨0,xx,yy,zz,rfl,rfl,rfl,rfl,rfl,rfl,rfl,rfl,rfl,rfl,rfl,rfl,Nat.zero_le _,rfl,unhide hP,rfl⟩
      ·rintro fk ⟨tm,dfs⟩ wr hrel
       rw [unhide hI4_12] at hrel
       obtain ⟨i,x',y',z',hsz,e0,e4,e5,e6,e7,e8,e9,e10,e11,e12,hdf,hi,hxk,hPr,hfk⟩ := hrel
       obtain ⟨us,rfl⟩ : ∃ us : Nat → Value,tm = #[us 0,us 1,us 2,us 3,us 4,us 5,us 6,us 7,us 8,us 9,us 10,us 11,us 12,us 13,us 14,us 15,us 16,us 17,us 18,us 19,us 20,us 21,us 22,us 23,us 24,us 25,us 26,us 27,us 28,us 29,us 30,us 31,us 32,us 33,us 34,us 35,us 36,us 37,us 38,us 39,us 40,us 41,us 42,us 43,us 44,us 45,us 46,us 47,us 48,us 49,us 50,us 51,us 52,us 53,us 54,us 55,us 56,us 57,us 58,us 59,us 60,us 61,us 62,us 63,us 64,us 65,us 66,us 67,us 68,us 69,us 70,us 71,us 72,us 73,us 74,us 75,us 76,us 77,us 78,us 79,us 80,us 81,us 82,us 83,us 84,us 85,us 86,us 87,us 88,us 89,us 90,us 91,us 92,us 93,us 94,us 95,us 96] := ⟨fun i => tm.getD i undef,arr_fn hsz⟩
       have h0 : us 0 = .slice (some ⟨bL,oL,none⟩) m c := e0
       have h4 : us 4 = .slice (some ⟨r4,0,none⟩) m m := e4
       have h5 : us 5 = .slice (some ⟨r5,0,none⟩) m m := e5
       have h6 : us 6 = .slice (some ⟨r6,0,none⟩) m m := e6
       have h7 : us 7 = .int .i64 ((n + 1 : Nat) : Int) := e7
       have h8 : us 8 = .int .i64 z' := e8
       have h9 : us 9 = .int .i64 x' := e9
       have h10 : us 10 = .int .i64 y' := e10
       have h11 : us 11 = .int .i64 (k : Nat) := e11
       have h12 : us 12 = .int .i64 (i : Nat) := e12
       have hdf2 : dfs = [] := hdf
       subst hdf2
       clear hdf hsz e0 e4 e5 e6 e7 e8 e9 e10 e11 e12
       simp only [h0,h4,h5,h6,h7,h8,h9,h10,h11,h12]
       clear h0 h4 h5 h6 h7 h8 h9 h10 h11 h12
       clear hP
       have hP := hide hPr
       have hxk' := hide hxk
       have hfk' := hide hfk
       clear hPr hxk hfk
       by_cases hlt : i < m
       ·have hil2 : (i : Int) < (m : Int) := by omega
        have hi2 := hide hlt
        have hib : (i : Int) ≤ 4096 := by have := unhide hl'; omega
        have hiL : i < l.length := by rw [← unhide hm']; exact hlt
        have hiI := hide (show i < inn.length by rw [unhide hil']; exact hlt)
        have hnk2 := hide (range_next (stepK l inn k) (xx,yy,zz) i)
        rw [← unhide hxk'] at hnk2
        have c0 := (unhide hP).cell 2 k (v := .bool qk) rfl (by rw [vA1_get (enc := encB) (f := Value.bool) (fun _ => rfl) (unhide hkI),unhide hqk'])
        clear hi hlt
        have hself := Ext.refl wr
        have hkm : (k : Int) < (m : Int) := by have := unhide hk2; omega
        cases qk with
        | true =>
         try dsimp only
         repeat ((fail_if_success (with_reducible refine wp_reg (id := 13) ?_)); (first | go_values | go_skip | go_step | go_guarded | go_upon | go_in | go_back | fail))
         with_reducible refine wp_reg (id := 13) ?_
         iterate 11
          refine wpO_want rfl ?_
          go_simp
         refine wpO_done ?_
         try go_frame
         clear c0 hself hkm hil2
         have hxn := hide (show (x',y',z') = (List.range (k + 1)).foldl (rowK l inn) (0,0, -1) by rw [range_next, ← unhide hxy']; show _ = (List.range l.length).foldl (stepK l inn k) (xx,yy,zz); rw [unhide hxk']; rw [fold_out (unhide hgk),fold_out (unhide hgk)])
         clear hfk' hxk' hxy'
         go_wp2_with fail
         have h1 := unhide hk2
         refine ⟨m - (k + 1), ?_,by have := unhide hfi'; omega⟩
         rw [unhide hI4_8]
         exact ⟨k + 1,x',y',z',(by first | rfl | trivial),(by first | rfl | trivial),(by first | rfl | trivial),(by first | rfl | trivial),(by first | rfl | trivial),(by first | rfl | trivial),(by first | rfl | trivial),(by first | rfl | trivial),(by first | rfl | trivial),(by first | rfl | (show _ = Value.int _ _; go_num) | go_num),(by first | rfl | trivial),by omega,unhide hxn,unhide hP,rfl⟩
        | false =>
         try dsimp only
         repeat ((fail_if_success (with_reducible refine wp_reg (id := 13) ?_)); (first | go_values | go_skip | go_step | go_guarded | go_upon | go_in | go_back | fail))
         with_reducible refine wp_reg (id := 13) ?_
         iterate 11
          refine wpO_want rfl ?_
          go_simp
         refine wpO_done ?_
         try go_frame
         clear c0 hself hkm hil2
         go_wp2_with fail
         obtain ⟨ai,ci,hci,hsi⟩ := unhide hKt i hiL
         obtain ⟨Ci,hCi⟩ : ∃ C,C = l.getD i 0 := ⟨_,rfl⟩
         rw [← hCi] at hci hsi
         obtain ⟨ni,hni⟩ : ∃ n,n = (toL Ci).length := ⟨_,rfl⟩
         rw [← hni] at hci
         have hci' := hide hci
         have hsi' := hide hsi
         have hni' := hide hni
         have hnib := hide (show ni ≤ 1024 by rw [hni]; exact toL_len_le _)
         obtain ⟨cp,hcp⟩ : ∃ c,c = capS l k i := ⟨_,rfl⟩
         have hcl := hide (show (andR (toL Ci) (toL Ck)).length = cp by rw [hcp]; exact andQ_len hCi.symm (unhide hCk').symm)
         have hcpb : (cp : Int) ≤ 1024 := by have := cap_le l k i; omega
         have hsn := hide (rowK_step (l := l) (inn := inn) (i := k) (k := i) (x := x') (y := y') (z := z') (unhide hgk))
         rw [← hcp] at hsn
         clear hcp
         obtain ⟨qi,hqi⟩ : ∃ q,q = inn[i]'(unhide hiI) := ⟨_,rfl⟩
         have hgi := hide (show inn.getD i false = qi by rw [hqi]; exact getB _)
         have hqi' := hide hqi
         clear hci hsi hni hCi hqi
         have c0 := fun W (hW : Keep [] wr W) => unhide hci' W ((unhide hP).extf.trans hW.ext)
         have c1 := fun W (hW : Keep [] wr W) => unhide hck' W ((unhide hP).extf.trans hW.ext)
         have hkm : (k : Int) < (m : Int) := by have := unhide hk2; omega
         have him : (i : Int) < (m : Int) := by have := unhide hi2; omega
         have hself := Keep.refl [] wr
         refine wp_regionK (P := Tryz.prog) [] [0,1,2,3,4,5,6,7] [] 3 #[true,true,true,true,true,true,true,true,false,false,false] (by kernel_rfl) (by kernel_rfl) rfl (by rfl) ?_
         iterate 8
          refine ql_want (v := ?_) rfl (by rfl) (fun W hW => ?_) ?_
          rotate_left
          ·go_simp
           first | done | rfl
          go_frame
         refine wpQL_nil (fun y5 hxq => ?_)
         have hK := hide (hxq.keep [])
         replace hP : Hid (Sp w [] w [] [(r4,3,vA encI up),(r5,48,vA encSl ps),(r6,4,vA encB inn)] (J.map rowJ) y5) := hide ((unhide hP).ext hxq)
         clear hxq
         clear c0 c1 hself hkm him
         refine lx_one (i := 8) (by kernel_rfl) rfl (by rfl) #[true,true,true,true,true,true,true,true,true,false,false] (by rfl) ?_
         have hca := andQ_any ai ak (toL Ci) (toL Ck) ni nk ci ck y5 ((unhide hsi').ext (unhide hP).extf) ((unhide hsk').ext (unhide hP).extf) (unhide hni') (unhide hnk') (by have := unhide hnib; omega) (by have := unhide hnkb; omega)
         unfold OwI at hca
         rw [unhide hcl] at hca
         go_simp
         refine (hca).mono ?_
         rintro _ zy6 ⟨Ax,cx,rfl,hox,hxc⟩
         refine ⟨_,rfl,(unhide hK).trans (hxc.keep _),fun y6 hxd => ?_⟩
         replace hP : Hid (Sp w [] w [] [(r4,3,vA encI up),(r5,48,vA encSl ps),(r6,4,vA encB inn)] (J.map rowJ) y6) := hide ((unhide hP).ext (hxc.trans hxd))
         replace hK := hide ((unhide hK).trans ((hxc.trans hxd).keep _))
         clear hox
         clear hxc hxd
         try go_frame
         clear hca
         refine lx_rekeep (unhide hK) [9,10] [] 0 2 #[true,true,true,true,true,true,true,true,true,false,false] #[true,true,true,true,true,true,true,true,true,true,true] (by kernel_rfl) rfl (by rfl) ?_
         clear hK
         iterate 2
          refine ql_want (v := ?_) rfl (by rfl) (fun W hW => ?_) ?_
          rotate_left
          ·go_simp
           first | done | rfl
          go_frame
         refine wpQL_nil (fun y7 hxq => ?_)
         replace hP : Hid (Sp w [] w [] [(r4,3,vA encI up),(r5,48,vA encSl ps),(r6,4,vA encB inn)] (J.map rowJ) y7) := hide ((unhide hP).ext hxq)
         clear hxq
         refine wpX_done (by kernel_rfl) ?_
         try go_frame
         have c0 := (unhide hP).cell 2 i (v := .bool qi) rfl (by rw [vA1_get (enc := encB) (f := Value.bool) (fun _ => rfl) (unhide hiI),unhide hqi'])
         have him : (i : Int) < (m : Int) := by have := unhide hi2; omega
         have hself := Ext.refl y7
         cases qi with
         | false =>
          try dsimp only
          repeat ((fail_if_success (with_reducible refine wp_reg (id := 16) ?_)); (first | go_values | go_skip | go_step | go_guarded | go_upon | go_in | go_back | fail))
          with_reducible refine wp_reg (id := 16) ?_
          iterate 5
           refine wpO_want rfl ?_
           go_simp
          refine wpO_out (by rfl) ?_
          go_frame
          refine wpO_out (by rfl) ?_
          go_frame
          refine wpO_out (by rfl) ?_
          go_frame
          refine wpO_want rfl ?_
          go_simp
          refine wpO_done ?_
          try go_frame
          clear c0 hself him
          go_wp2_with fail
          have h1 := unhide hi2
          refine ⟨m - (i + 1), ?_,by have := unhide hfk'; omega⟩
          rw [unhide hI4_12]
          exact ⟨i + 1,x',y',z',(by first | rfl | trivial),(by first | rfl | trivial),(by first | rfl | trivial),(by first | rfl | trivial),(by first | rfl | trivial),(by first | rfl | trivial),(by first | rfl | trivial),(by first | rfl | trivial),(by first | rfl | trivial),(by first | rfl | trivial),(by first | rfl | (show _ = Value.int _ _; go_num) | go_num),(by first | rfl | trivial),by omega,by rw [unhide hnk2,step_out (.inr (unhide hgi))],unhide hP,rfl⟩
         | true =>
          by_cases hzc : z' < (cp : Int)
          ·have hzg : (cp : Int) > z' := hzc
           try dsimp only
           repeat ((fail_if_success (with_reducible refine wp_reg (id := 16) ?_)); (first | go_values | go_skip | go_step | go_guarded | go_upon | go_in | go_back | fail))
           with_reducible refine wp_reg (id := 16) ?_
           iterate 9
            refine wpO_want rfl ?_
            go_simp
           refine wpO_done ?_
           try go_frame
           clear c0 hself him
           try dsimp only
           repeat ((fail_if_success (with_reducible refine wp_reg (id := 17) ?_)); (first | go_values | go_skip | go_step | go_guarded | go_upon | go_in | go_back | fail))
           with_reducible refine wp_reg (id := 17) ?_
           iterate 6
            refine wpO_want rfl ?_
            go_simp
           refine wpO_done ?_
           try go_frame
           replace hzc := hide hzc
           clear hzg
           go_wp2_with fail
           have h1 := unhide hi2
           refine ⟨m - (i + 1), ?_,by have := unhide hfk'; omega⟩
           rw [unhide hI4_12]
           exact ⟨i + 1,(k : Int),(i : Int),(cp : Int),(by first | rfl | trivial),(by first | rfl | trivial),(by first | rfl | trivial),(by first | rfl | trivial),(by first | rfl | trivial),(by first | rfl | trivial),(by first | rfl | trivial),(by first | rfl | trivial),(by first | rfl | trivial),(by first | rfl | trivial),(by first | rfl | (show _ = Value.int _ _; go_num) | go_num),(by first | rfl | trivial),by omega,by rw [unhide hnk2,unhide hsn (unhide hgi),if_pos (unhide hzc)],unhide hP,rfl⟩
          ·have hzg : ¬ (cp : Int) > z' := hzc
           try dsimp only
           repeat ((fail_if_success (with_reducible refine wp_reg (id := 16) ?_)); (first | go_values | go_skip | go_step | go_guarded | go_upon | go_in | go_back | fail))
           with_reducible refine wp_reg (id := 16) ?_
           iterate 9
            refine wpO_want rfl ?_
            go_simp
           refine wpO_done ?_
           try go_frame
           clear c0 hself him hzg
           replace hzc := hide hzc
           go_wp2_with fail
           have h1 := unhide hi2
           refine ⟨m - (i + 1), ?_,by have := unhide hfk'; omega⟩
           rw [unhide hI4_12]
           exact ⟨i + 1,x',y',z',(by first | rfl | trivial),(by first | rfl | trivial),(by first | rfl | trivial),(by first | rfl | trivial),(by first | rfl | trivial),(by first | rfl | trivial),(by first | rfl | trivial),(by first | rfl | trivial),(by first | rfl | trivial),(by first | rfl | trivial),(by first | rfl | (show _ = Value.int _ _; go_num) | go_num),(by first | rfl | trivial),by omega,by rw [unhide hnk2,unhide hsn (unhide hgi),if_neg (by have := unhide hzc; omega)],unhide hP,rfl⟩
       ·have hil2 : ¬ (i : Int) < (m : Int) := by omega
        obtain rfl : i = m := by omega
        clear hlt hi
        try dsimp only
        repeat ((fail_if_success (with_reducible refine wp_reg (id := 13) ?_)); (first | go_values | go_skip | go_step | go_guarded | go_upon | go_in | go_back | fail))
        with_reducible refine wp_reg (id := 13) ?_
        iterate 5
         refine wpO_want rfl ?_
         go_simp
        refine wpO_out (by rfl) ?_
        go_frame
        refine wpO_out (by rfl) ?_
        go_frame
        refine wpO_out (by rfl) ?_
        go_frame
        refine wpO_out (by rfl) ?_
        go_frame
        refine wpO_out (by rfl) ?_
        go_frame
        refine wpO_want rfl ?_
        go_simp
        refine wpO_done ?_
        try go_frame
        clear hil2
        have hxn := hide (show (x',y',z') = (List.range (k + 1)).foldl (rowK l inn) (0,0, -1) by rw [range_next, ← unhide hxy']; show _ = (List.range l.length).foldl (stepK l inn k) (xx,yy,zz); rw [unhide hxk']; rw [unhide hm'])
        clear hfk' hxk' hxy'
        go_wp2_with fail
        have h1 := unhide hk2
        refine ⟨i - (k + 1), ?_,by have := unhide hfi'; omega⟩
        rw [unhide hI4_8]
        exact ⟨k + 1,x',y',z',(by first | rfl | trivial),(by first | rfl | trivial),(by first | rfl | trivial),(by first | rfl | trivial),(by first | rfl | trivial),(by first | rfl | trivial),(by first | rfl | trivial),(by first | rfl | trivial),(by first | rfl | trivial),(by first | rfl | (show _ = Value.int _ _; go_num) | go_num),(by first | rfl | trivial),by omega,unhide hxn,unhide hP,rfl⟩
     ·have hil : ¬ (k : Int) < (m : Int) := by omega
      obtain rfl : k = m := by omega
      have hpk2 := (unhide hxy').trans (unhide hpk)
      injection hpk2 with e1 e2
      injection e2 with e2 e3
      subst e1
      subst e2
      clear hlt hfi' hxy' hk
      have htbL : tb < l.length := by rw [← unhide hm']; exact unhide htb
      have httL : tt < l.length := by rw [← unhide hm']; exact unhide htt
      obtain ⟨aa,ca,hca1,hsa⟩ := unhide hKt tb htbL
      obtain ⟨at_,ct,hct1,hst2⟩ := unhide hKt tt httL
      obtain ⟨C1,hC1⟩ : ∃ c,c = l.getD tb 0 := ⟨_,rfl⟩
      obtain ⟨C2,hC2⟩ : ∃ c,c = l.getD tt 0 := ⟨_,rfl⟩
      rw [← hC1] at hca1 hsa
      rw [← hC2] at hct1 hst2
      have hnx2 := unhide hnx
      rw [← hC1, ← hC2] at hnx2
      have hnx' := hide hnx2
      obtain ⟨n1,hn1⟩ : ∃ n,n = (toL C1).length := ⟨_,rfl⟩
      obtain ⟨n2,hn2x⟩ : ∃ n,n = (toL C2).length := ⟨_,rfl⟩
      rw [← hn1] at hca1
      rw [← hn2x] at hct1
      have hcA := hide hca1
      have hcT := hide hct1
      have hsa' := hide hsa
      have hst3 := hide hst2
      have hn1' := hide hn1
      have hn2' := hide hn2x
      have hnb1 := hide (show n1 ≤ 1024 ∧ n2 ≤ 1024 from ⟨by rw [hn1]; exact toL_len_le _,by rw [hn2x]; exact toL_len_le _⟩)
      obtain ⟨nr,hnr⟩ : ∃ n,n = (toL (C1 &&& C2)).length := ⟨_,rfl⟩
      have hnr' := hide hnr
      clear hC1 hC2 hnx2 hca1 hct1 hsa hst2 hn1 hn2x hnr
      try dsimp only
      repeat ((fail_if_success (with_reducible refine wp_reg (id := 10) ?_)); (first | go_values | go_skip | go_step | go_guarded | go_upon | go_in | go_back | fail))
      with_reducible refine wp_reg (id := 10) ?_
      iterate 4
       refine wpO_want rfl ?_
       go_simp
      refine wpO_done ?_
      try go_frame
      clear hil
      go_wp2_with fail
      have hge3 := hide (fun (W : World) (hW : Keep [r4,r5,r6] wr W) => show Ext w W from (unhide hP).extf.of_new hW (fun z hz => (unhide hP).st.ge z (by unfold stT; refine List.mem_append.2 (.inl ?_); simpa using hz)))
      have c0 := fun W (hW : Keep [r4,r5,r6] wr W) => unhide hcA W (unhide hge3 W hW)
      have c1 := fun W (hW : Keep [r4,r5,r6] wr W) => unhide hcT W (unhide hge3 W hW)
      have htbi : (tb : Int) < (k : Int) := by have := unhide htb; omega
      have htti : (tt : Int) < (k : Int) := by have := unhide htt; omega
      have hself := Keep.refl [r4,r5,r6] wr
      refine wp_regionK (P := Tryz.prog) [r4,r5,r6] [0,1,2,3,4,5,6,7,8,9,10,11,12,13,14] [] 7 #[true,true,true,true,true,true,true,true,true,true,true,true,true,true,true,false,false,false,false,false,false,false] (by kernel_rfl) (by kernel_rfl) rfl (by rfl) ?_
      iterate 15
       refine ql_want (v := ?_) rfl (by rfl) (fun W hW => ?_) ?_
       rotate_left
       ·go_simp
        first | done | rfl
       go_frame
      refine wpQL_nil (fun y5 hxq => ?_)
      have hK := hide (hxq.keep [r4,r5,r6])
      replace hP : Hid (Sp w [] w [] [(r4,3,vA encI up),(r5,48,vA encSl ps),(r6,4,vA encB inn)] (J.map rowJ) y5) := hide ((unhide hP).ext hxq)
      clear hxq
      clear c0 c1 hself hge3
      refine lx_one (i := 15) (by kernel_rfl) rfl (by rfl) #[true,true,true,true,true,true,true,true,true,true,true,true,true,true,true,true,false,false,false,false,false,false] (by rfl) ?_
      have hca := andQ_any aa at_ (toL C1) (toL C2) n1 n2 ca ct y5 ((unhide hsa').ext (unhide hP).extf) ((unhide hst3).ext (unhide hP).extf) (unhide hn1') (unhide hn2') (by have := unhide hnb1; omega) (by have := unhide hnb1; omega)
      rw [and_toL] at hca
      unfold OwI at hca
      rw [← unhide hnr'] at hca
      go_simp
      refine hca.mono ?_
      rintro _ zy6 ⟨Ax,cx,rfl,hox,hxc⟩
      refine ⟨_,rfl,(unhide hK).trans (hxc.keep _),fun y6 hxd => ?_⟩
      replace hP : Hid (Sp w [] w [] [(r4,3,vA encI up),(r5,48,vA encSl ps),(r6,4,vA encB inn)] (J.map rowJ ++ [(3,1, .slice Ax nr cx,nr,(toL (C1 &&& C2)).flatMap encI)]) y6) := hide (((unhide hP).addRow hxc hox).ext hxd)
      replace hK := hide ((unhide hK).trans ((hxc.trans hxd).keep _))
      clear hxc hxd hox hca
      try go_frame
      refine lx_one (i := 16) (by kernel_rfl) rfl (by rfl) #[true,true,true,true,true,true,true,true,true,true,true,true,true,true,true,true,true,false,false,false,false,false] (by rfl) ?_
      refine (unhide hP).valL (unhide hK) (v := .pointer (some ⟨r6,tb,none⟩)) ?_ ?_
      ·go_simp
      intro y7 hQ hK2
      replace hP : Hid (Sp w [] w [] [(r4,3,vA encI up),(r5,48,vA encSl ps),(r6,4,vA encB inn)] (J.map rowJ ++ [(3,1, .slice Ax nr cx,nr,(toL (C1 &&& C2)).flatMap encI)]) y7) := hide hQ
      replace hK := hide hK2
      clear hQ hK2
      try go_frame
      refine lx_one (i := 17) (by kernel_rfl) rfl (by rfl) #[true,true,true,true,true,true,true,true,true,true,true,true,true,true,true,true,true,true,false,false,false,false] (by rfl) ?_
      refine (unhide hP).setL (unhide hK) 2 (vA encB (inn.set tb true)) rfl (by simp) (fun hb => run_store_elem1 (enc := encB) (i := tb) (v := .bool true) true rfl (by first | rfl | (go_simp; done)) rfl rfl (fun _ => rfl) one_encB (Tryz.sizeOf4 _) hb (by rw [unhide hil']; exact unhide htb)) ?_
      intro y8 hQ hK2
      replace hP : Hid (Sp w [] w [] [(r4,3,vA encI up),(r5,48,vA encSl ps),(r6,4,vA encB (inn.set tb true))] (J.map rowJ ++ [(3,1, .slice Ax nr cx,nr,(toL (C1 &&& C2)).flatMap encI)]) y8) := hide hQ
      replace hK := hide hK2
      clear hQ hK2
      try go_frame
      refine lx_one (i := 18) (by kernel_rfl) rfl (by rfl) #[true,true,true,true,true,true,true,true,true,true,true,true,true,true,true,true,true,true,true,false,false,false] (by rfl) ?_
      refine (unhide hP).valL (unhide hK) (v := .pointer (some ⟨r4,tb,none⟩)) ?_ ?_
      ·go_simp
      intro y9 hQ hK2
      replace hP : Hid (Sp w [] w [] [(r4,3,vA encI up),(r5,48,vA encSl ps),(r6,4,vA encB (inn.set tb true))] (J.map rowJ ++ [(3,1, .slice Ax nr cx,nr,(toL (C1 &&& C2)).flatMap encI)]) y9) := hide hQ
      replace hK := hide hK2
      clear hQ hK2
      try go_frame
      refine lx_one (i := 19) (by kernel_rfl) rfl (by rfl) #[true,true,true,true,true,true,true,true,true,true,true,true,true,true,true,true,true,true,true,true,false,false] (by rfl) ?_
      refine (unhide hP).setL (unhide hK) 0 (vA encI (up.set tb (tt : Int))) rfl (by simp) (fun hb => run_store_elem1 (enc := encI) (i := tb) (v := .int .i64 (tt : Int)) (tt : Int) rfl (by first | rfl | (go_simp; done)) rfl rfl (fun _ => rfl) one_encI (Tryz.sizeOf3 _) hb (by rw [unhide hul']; exact unhide htb)) ?_
      intro y10 hQ hK2
      replace hP : Hid (Sp w [] w [] [(r4,3,vA encI (up.set tb (tt : Int))),(r5,48,vA encSl ps),(r6,4,vA encB (inn.set tb true))] (J.map rowJ ++ [(3,1, .slice Ax nr cx,nr,(toL (C1 &&& C2)).flatMap encI)]) y10) := hide hQ
      replace hK := hide hK2
      clear hQ hK2
      try go_frame
      refine lx_one (i := 20) (by kernel_rfl) rfl (by rfl) #[true,true,true,true,true,true,true,true,true,true,true,true,true,true,true,true,true,true,true,true,true,false] (by rfl) ?_
      refine (unhide hP).valL (unhide hK) (v := .pointer (some ⟨r5,tb,none⟩)) ?_ ?_
      ·go_simp
      intro y11 hQ hK2
      replace hP : Hid (Sp w [] w [] [(r4,3,vA encI (up.set tb (tt : Int))),(r5,48,vA encSl ps),(r6,4,vA encB (inn.set tb true))] (J.map rowJ ++ [(3,1, .slice Ax nr cx,nr,(toL (C1 &&& C2)).flatMap encI)]) y11) := hide hQ
      replace hK := hide hK2
      clear hQ hK2
      try go_frame
      refine lx_one (i := 21) (by kernel_rfl) rfl (by rfl) #[true,true,true,true,true,true,true,true,true,true,true,true,true,true,true,true,true,true,true,true,true,true] (by rfl) ?_
      refine (unhide hP).setL (unhide hK) 1 (vA encSl (ps.set tb ((Ax,nr,cx) : Sl))) rfl (by simp) (fun hb => run_store_elem1 (enc := encSl) (i := tb) (v := .slice Ax nr cx) ((Ax,nr,cx) : Sl) rfl (by first | rfl | (go_simp; done)) rfl rfl (fun _ => rfl) one_encSl (Tryz.sizeOf48 _) hb (by rw [unhide hpl']; exact unhide htb)) ?_
      intro y12 hQ hK2
      replace hP : Hid (Sp w [] w [] [(r4,3,vA encI (up.set tb (tt : Int))),(r5,48,vA encSl (ps.set tb ((Ax,nr,cx) : Sl))),(r6,4,vA encB (inn.set tb true))] (J.map rowJ ++ [(3,1, .slice Ax nr cx,nr,(toL (C1 &&& C2)).flatMap encI)]) y12) := hide hQ
      replace hK := hide hK2
      clear hQ hK2
      try go_frame
      refine wpX_done (by kernel_rfl) ?_
      try go_frame
      clear hK
      have hPj := hide (show Sp w [] w [] [(r4,3,vA encI (up.set tb (tt : Int))),(r5,48,vA encSl (ps.set tb ((Ax,nr,cx) : Sl))),(r6,4,vA encB (inn.set tb true))] ((J ++ [((Ax,nr,cx),toL (C1 &&& C2))]).map rowJ) y12 by rw [← joinR]; exact unhide hP)
      replace hP := hPj
      clear hPj htbi htti
      go_wp2_with fail
      have h1 := unhide hn2
      have h2 := unhide hm'
      refine ⟨k - (n + 1 + 1), ?_,by have := unhide hfm'; omega⟩
      rw [unhide hI4_2]
      exact ⟨n + 1 + 1,inn.set tb true,up.set tb (tt : Int),sh.set tb (C1 &&& C2),ps.set tb ((Ax,nr,cx) : Sl),J ++ [((Ax,nr,cx),toL (C1 &&& C2))],(by first | rfl | trivial),(by first | rfl | trivial),(by first | rfl | trivial),(by first | rfl | trivial),(by first | rfl | trivial),(by first | rfl | (show _ = Value.int _ _; go_num) | go_num),(by first | rfl | trivial),by omega,unhide hnx',(by rw [List.length_set]; exact unhide hpl'),(unhide hso').set _ _ _,(fun p hp => by rcases List.mem_append.1 hp with hp | hp; exact unhide hJl' p hp; rw [List.mem_singleton] at hp; subst hp; exact unhide hnr'),unhide hP,rfl⟩
  ·have hil : ¬ (n : Int) < (m : Int) := by omega
   obtain rfl : n = m := by omega
   have hfin : (inn,up,sh) = treeS l := by
    rw [unhide hst']
    cases n with
    | zero =>
     have hl0 : l = [] := List.length_eq_zero_iff.1 (unhide hm').symm
     subst hl0
     rfl
    | succ n =>
     unfold treeS treeJ
     rw [← unhide hm']
     rfl
   have hue := hide (show up0 = up by rw [unhide hu0', ← hfin])
   have hse := hide (show sh0 = sh by rw [unhide hs0', ← hfin])
   have hlens := hide (show up.length = n ∧ sh.length = n by
    by_cases hne : l = []
    ·subst hne
     have h0 : n = 0 := unhide hm'
     subst h0
     injection hfin with h1 h2
     injection h2 with h2 h3
     subst h2
     subst h3
     exact ⟨rfl,rfl⟩
    ·obtain ⟨ord,hv,_⟩ := tree_full hne
     rw [← hfin] at hv
     exact ⟨by rw [unhide hm']; exact hv.lu,by rw [unhide hm']; exact hv.ls⟩)
   clear hfin hst' hfm' hlt hn
   try dsimp only
   repeat ((fail_if_success (with_reducible refine wp_reg (id := 4) ?_)); (first | go_values | go_skip | go_step | go_guarded | go_upon | go_in | go_back | fail))
   with_reducible refine wp_reg (id := 4) ?_
   iterate 4
    refine wpO_want rfl ?_
    go_simp
   refine wpO_done ?_
   try go_frame
   go_wp2_with fail
   refine Sp.leaves0 ?_
   rw [unhide hue,unhide hse]
   exact ⟨_,results_tmp2 (t := 2) (u := 3) rfl _ _ _,TrPost.mk (c := n) (d := n) (unhide hlens).1.symm (by rw [List.length_map]; exact (unhide hlens).2.symm) (slat_blk up ((unhide hP).get 0 rfl) (flat_length (enc := encI) (k := 1) (fun _ => rfl) up) (fun _ => rfl) (by have := (unhide hlens).1; omega)) ⟨ps,by rw [List.length_map,unhide hpl']; exact (unhide hlens).2.symm,slat_blk ps ((unhide hP).get 1 rfl) (flat_length (enc := encSl) (k := 1) (fun _ => rfl) ps) (fun _ => rfl) (by have := unhide hpl'; omega),fun i h1 h2 => by
    rw [List.getElem_map]
    rcases unhide hso' i h1 (by simpa using h2) with ⟨h3,h4⟩ | h3
    ·rw [h3,h4]; exact ⟨rfl,fun h => absurd rfl h⟩
    ·have h5 := unhide hJl' _ h3
     exact ⟨h5,(unhide hP).rowsJ h3 h5⟩⟩ (unhide hP).extf⟩
end Go.Proofs.YtmfkkkhddigkfaaGreatDoor
