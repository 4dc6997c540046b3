/- Parts of a proof,laid together. Each part says its own conditions. -/
import Derived.Test.YtmfkkkhddigkfaaGreatDoorP46
import Derived.Test.YtmfkkkhddigkfaaGreatDoorP47
import Derived.Test.YtmfkkkhddigkfaaGreatDoorP32
import Derived.Test.YtmfkkkhddigkfaaGreatDoorP25
namespace Go.Proofs.YtmfkkkhddigkfaaGreatDoor
open Go Go.RowKit Go.Shelf
attribute [local go_sem] qUpon lUpon
attribute [local irreducible] wpO wpX wpQL
theorem infoBz : (Tryz.prog.info? 4).map (fun i => (i.zero,i.size,i.bytes)) = some (some (.bool false),1,1) := by kernel_rfl
theorem infoIz : (Tryz.prog.info? 3).map (fun i => (i.zero,i.size,i.bytes)) = some (some (.int .i64 0),1,8) := by kernel_rfl
theorem infoSz : (Tryz.prog.info? 51).map (fun i => (i.zero,i.size,i.bytes)) = some (some (.agg (setC 0)),16,128) := by kernel_rfl
noncomputable def ctS (V : List (Int × Thing)) (E : List ((Int × Int) × Thing)) : List Int × List Nat × Int := if (mcS V E).2 = 0 ∧ (mcS V E).1 ≠ [] then ((treeS (mcS V E).1).2.1,(treeS (mcS V E).1).2.2,0) else ([],[],(mcS V E).2)
def CtPost (w : World) (r : List Int × List Nat × Int) (e : Ending) (w' : World) : Prop := ∃ A B c d,e = .returned (.tuple #[.slice A r.1.length c, .slice B r.2.1.length d, .int .i64 r.2.2]) ∧ SlAt encI 1 w' A r.1 ∧ SlAt encS 16 w' B r.2.1 ∧ Ext w w'
theorem CtPost.mk0 {w w' : World} {err : Int} (hx : Ext w w') : CtPost w ([],[],err) (.returned (.tuple #[.slice none 0 0, .slice none 0 0, .int .i64 err])) w' := ⟨Option.none,Option.none,0,0,rfl,fun h => absurd rfl h,fun h => absurd rfl h,hx⟩
theorem CtPost.mk {w w' : World} {u : List Int} {s : List Nat} {A B : Option Addr} {m c d : Nat} (h1 : m = u.length) (h2 : m = s.length) (hA : SlAt encI 1 w' A u) (hB : SlAt encS 16 w' B s) (hx : Ext w w') : CtPost w (u,s,0) (.returned (.tuple #[.slice A m c, .slice B m d, .int .i64 0])) w' := ⟨A,B,c,d,by rw [← h1, ← h2],hA,hB,hx⟩
theorem mcS_cases (V : List (Int × Thing)) (E : List ((Int × Int) × Thing)) : (mcS V E).2 = 0 ∨ (mcS V E).2 = 3 ∧ (mcS V E).1 = [] := by
 unfold mcS
 by_cases h : (peoS V E).isSome = true
 ·rw [if_pos h]; exact .inl rfl
 ·rw [if_neg h]; exact .inr ⟨rfl,rfl⟩
theorem cliques_le {V : List (Int × Thing)} {E : List ((Int × Int) × Thing)} (hi : GInv V E) : (mcS V E).1.length ≤ 1025 := by
 unfold mcS
 cases hpo : peoS V E with
 | none => simp
 | some o =>
  obtain ⟨hpm,hpe⟩ := peoS_sound hi hpo
  have h := cliques_perm (N := vS V) hi (hpm.nodup_iff.2 (toL_nodup _)) (fun x => by rw [hpm.mem_iff,mem_vS hi]) (fun x => by rw [hpm.mem_iff]) hpe
  have h2 := outK_le (allC E o (vS V)) (allC E o (vS V)).length
  have h3 : (outK (allC E o (vS V)) (allC E o (vS V)).length) = outC (allC E o (vS V)) := rfl
  rw [h3, ← h.length_eq,allC_len] at h2
  have h4 := peo_len2 (V := V) (E := E)
  rw [hpo] at h4
  exact Nat.le_trans h2 h4
theorem range_next {α : Type} (f : α → Nat → α) (s : α) (k : Nat) : (List.range (k + 1)).foldl f s = f ((List.range k).foldl f s) k := by rw [List.range_succ,List.foldl_append]; rfl
theorem cap_le (l : List Nat) (i k : Nat) : capS l i k ≤ 1024 := toL_len_le _
theorem step_out {l : List Nat} {inn : List Bool} {i k : Nat} {s : Int × Int × Int} (h : inn.getD i false = true ∨ inn.getD k false = false) : stepK l inn i s k = s := by
 unfold stepK admB
 rw [if_neg]
 rintro ⟨h1,_⟩
 rw [Bool.and_eq_true,Bool.not_eq_true'] at h1
 rcases h with h | h
 ·rw [h] at h1; exact Bool.noConfusion h1.1
 ·rw [h] at h1; exact Bool.noConfusion h1.2
theorem step_in {l : List Nat} {inn : List Bool} {i k : Nat} {x y z : Int} (h1 : inn.getD i false = false) (h2 : inn.getD k false = true) : stepK l inn i (x,y,z) k = if z < (capS l i k : Int) then ((i : Int),(k : Int),(capS l i k : Int)) else (x,y,z) := by
 unfold stepK admB
 rw [h1,h2]
 simp
theorem cnt_toK2 (N : Nat) : ∀ k,cntF N k = (toK N k).length
 | 0 => rfl
 | k + 1 => by
  rw [toK_next]
  show cntF N k + (N.testBit k).toNat = _
  rw [cnt_toK2 N k]
  cases N.testBit k <;> simp
theorem capS_cnt {l : List Nat} {i k a b : Nat} (hi : l.getD i 0 = a) (hk : l.getD k 0 = b) : capS l i k = cntF (a &&& b) 1024 := by
 unfold capS
 rw [hi,hk,cnt_toK2]; rfl
theorem getB {l : List Bool} {i : Nat} (h : i < l.length) : l.getD i false = l[i] := by simp [List.getD,h]
set_option maxRecDepth 100000 in
set_option maxHeartbeats 16000000 in
theorem cliqueTree_any (og : Option Addr) (V : List (Int × Thing)) (E : List ((Int × Int) × Thing)) (w : World) (hg : GL w og V E) (hT : Tab w) :
  Calls Tryz.prog 36 #[.pointer og] w (CtPost w (ctS V E)) := by
 have hg' := hide hg
 have hT' := hide hT
 obtain ⟨r,hr⟩ : ∃ r,r = ctS V E := ⟨_,rfl⟩
 have hcs := mcS_cases V E
 have hle := hide (cliques_le hg.inv)
 have hr0 := hr
 unfold ctS at hr0
 rw [← hr]
 obtain ⟨p,hp⟩ : ∃ p,p = mcS V E := ⟨_,rfl⟩
 rw [← hp] at hcs hle hr0
 have hp' := hide hp
 have hr' := hide hr0
 obtain ⟨l,err⟩ := p
 dsimp only at hcs hle hr'
 have hcs' := hide hcs
 clear hg hT hr hr0 hp hcs
 have hP := hide (Sp.new w)
 refine callsIn_wide.1 (callsIn_of_wp_marks (n := 0) Tryz.func36 rfl trivial (wpIn_wide.2 ?_))
 simp only [Tryz.ntmps36,List.size_toArray,List.length_cons,List.length_nil,Nat.reduceAdd,Nat.reduceSub,Array.replicate_succ,Array.replicate_zero,List.push_toArray,List.append_toArray,List.nil_append,List.cons_append]
 try dsimp only
 repeat ((fail_if_success (with_reducible refine wp_reg (id := 1) ?_)); (first | go_values | go_skip | go_step | go_guarded | go_upon | go_in | go_back | fail))
 with_reducible refine wp_reg (id := 1) ?_
 refine wpO_val rfl (run_move rfl rfl) ?_
 go_frame
 refine wpO_want rfl ?_
 go_simp
 have hca := maxCliques_any og V E w ((unhide hg').ext (unhide hP).extf) ((unhide hT').ext (unhide hP).extf)
 rw [← unhide hp'] at hca
 obtain ⟨m,hm⟩ : ∃ m,m = l.length := ⟨_,rfl⟩
 rw [← hm] at hle
 have hm' := hide hm
 clear hm
 refine (hca).mono ?_
 rintro _ y1 ⟨A5,c5,rfl,ho,hxc⟩
 dsimp only at ho ⊢
 rw [← unhide hm'] at ho
 rw [← unhide hm']
 clear hca
 refine ⟨_,rfl, ?_⟩
 replace hP : Hid (Sp w [] w [] [] [(51,16, .slice A5 m c5,m,l.flatMap encS)] y1) := hide ((unhide hP).addRow hxc ho)
 clear hxc ho
 generalize htu0 : Value.tuple _ = tu
 have htu := hide htu0
 clear htu0
 refine wpO_val rfl (run_move rfl rfl) ?_
 go_frame
 refine wpO_val rfl (run_extract (i := 0) (v := .slice A5 m c5) rfl (unhide htu).symm rfl) ?_
 go_frame
 refine wpO_val rfl (run_extract (i := 1) (v := .int .i64 err) rfl (unhide htu).symm rfl) ?_
 go_frame
 iterate 2
  refine wpO_want rfl ?_
  go_simp
 refine wpO_done ?_
 try go_frame
 clear htu
 rcases unhide hcs' with he | he
 ·subst he
  by_cases hm0 : m = 0
  ·subst hm0
   have hre := hide (show r = ([],[],0) by rw [unhide hr',if_neg]; rintro ⟨_,h⟩; exact h (List.length_eq_zero_iff.1 (unhide hm').symm))
   try dsimp only
   repeat ((fail_if_success (with_reducible refine wp_reg (id := 2) ?_)); (first | go_values | go_skip | go_step | go_guarded | go_upon | go_in | go_back | fail))
   with_reducible refine wp_reg (id := 2) ?_
   iterate 7
    refine wpO_want rfl ?_
    go_simp
   refine wpO_done ?_
   try go_frame
   go_wp2_with fail
   refine Sp.leaves0 ?_
   rw [unhide hre]
   exact ⟨_,results_tmp3 (t := 2) (u := 3) (v := 4) rfl _ _ _,CtPost.mk0 (unhide hP).extf⟩
  ·have hmi : ((m : Int) == 0) = false := by simp [hm0]
   have hmp := hide (show 0 < m by omega)
   have hne := hide (show l ≠ [] by rintro rfl; exact hm0 (unhide hm'))
   have hre := hide (show r = ((treeS l).2.1,(treeS l).2.2,0) by rw [unhide hr',if_pos ⟨rfl,unhide hne⟩])
   clear hm0
   try dsimp only
   repeat ((fail_if_success (with_reducible refine wp_reg (id := 2) ?_)); (first | go_values | go_skip | go_step | go_guarded | go_upon | go_in | go_back | fail))
   with_reducible refine wp_reg (id := 2) ?_
   iterate 7
    refine wpO_want rfl ?_
    go_simp
   refine wpO_done ?_
   try go_frame
   clear hmi
   go_wp2_with fail
   obtain ⟨b5,o5,rfl,hb5,hcells⟩ := SlAt.sets (own_at (enc := encS) (by have h := (unhide hP).row 0 rfl; rw [unhide hm'] at h; exact h) (fun _ => rfl)) (by rw [← unhide hm']; exact unhide hmp)
   have hx0 := hide (unhide hP).extf
   have hcl := hide (fun (i : Nat) (h : i < l.length) (W : World) (hW : Ext y1 W) => hcells i h [] W (hW.keep []) (by simp))
   clear hP hcells hb5
   have hP : Hid (Sp y1 [] y1 [] [] [] y1) := hide (Sp.new y1)
   have hm100 : m ≤ 100000 := by have := unhide hle; omega
   have hm0 : (0 : Int) < (m : Int) := by have := unhide hmp; omega
   have hmq := unhide hmp
   refine wp_regionK (P := Tryz.prog) [] [0,1,3,4] [] 4 #[true,true,false,true,true,false,false,false] (by kernel_rfl) (by kernel_rfl) rfl (by rfl) ?_
   iterate 4
    refine ql_want (v := ?_) rfl (by rfl) (fun W hW => ?_) ?_
    rotate_left
    ·go_simp
     first | done | rfl
    go_frame
   refine wpQL_nil (fun y2 hxq => ?_)
   have hK := hide (hxq.keep [])
   replace hP : Hid (Sp y1 [] y1 [] [] [] y2) := hide ((unhide hP).ext hxq)
   clear hxq
   refine (unhide hP).alloc2A (unhide hK) (i := 2) (k := 5) (j := 6) (by kernel_rfl) rfl (fun _ => rfl) #[true,true,true,true,true,false,false,false] (by rfl) rfl (fun _ => rfl) #[true,true,false,true,true,true,false,false] (by rfl) rfl (fun _ => rfl) #[true,true,true,true,true,true,false,false] (by kernel_rfl) (by rfl) (by kernel_rfl) (by rfl) #[true,true,true,true,true,false,true,false] (by rfl) (by kernel_rfl) #[true,true,true,true,true,true,true,false] (by rfl) (by kernel_rfl) (by rfl) rfl rfl rfl (by decide) (by decide) (vi := fun b => .slice (some ⟨b,0,none⟩) m m) (vk := fun b => .slice (some ⟨b,0,none⟩) m m) 3 51 (vA encI (List.replicate m 0)) (vA encS (List.replicate m 0)) (fun W => run_mkA (enc := encI) 0 rfl rfl rfl hm100 Tryz.underlying31 infoIz (by decide) rfl (fun _ => rfl) (by decide) W) (fun W => run_mkA (enc := encS) 0 rfl rfl rfl hm100 Tryz.underlying66 infoSz (by decide) rfl (fun _ => rfl) (by decide) W) (fun v W => run_mkA (enc := encI) 0 rfl rfl rfl hm100 Tryz.underlying31 infoIz (by decide) rfl (fun _ => rfl) (by decide) W) (fun v W => run_mkA (enc := encS) 0 rfl rfl rfl hm100 Tryz.underlying66 infoSz (by decide) rfl (fun _ => rfl) (by decide) W) (fun v u W => run_mkA (enc := encS) 0 rfl rfl rfl hm100 Tryz.underlying66 infoSz (by decide) rfl (fun _ => rfl) (by decide) W) (fun v W => rfl) (fun v u W => rfl) ?_
   intro r7 r8 y3 hQ hK2 _ _
   replace hP : Hid (Sp y1 [] y1 [] [(r7,3,vA encI (List.replicate m 0)),(r8,51,vA encS (List.replicate m 0))] [] y3) := hide hQ
   replace hK := hide hK2
   clear hQ hK2
   try go_frame
   refine lx_rekeep (unhide hK) [7] [] 0 1 #[true,true,true,true,true,true,true,false] #[true,true,true,true,true,true,true,true] (by kernel_rfl) rfl (by rfl) ?_
   clear hK
   iterate 1
    refine ql_want (v := ?_) rfl (by rfl) (fun W hW => ?_) ?_
    rotate_left
    ·go_simp
     first | done | rfl
    go_frame
   refine wpQL_nil (fun y4 hxq => ?_)
   replace hP : Hid (Sp y1 [] y1 [] [(r7,3,vA encI (List.replicate m 0)),(r8,51,vA encS (List.replicate m 0))] [] y4) := hide ((unhide hP).ext hxq)
   clear hxq
   refine wpX_done (by kernel_rfl) ?_
   try go_frame
   try dsimp only
   repeat ((fail_if_success (with_reducible refine wp_reg (id := 5) ?_)); (first | go_values | go_skip | go_step | go_guarded | go_upon | go_in | go_back | fail))
   with_reducible refine wp_reg (id := 5) ?_
   iterate 2
    refine wpO_want rfl ?_
    go_simp
   refine (unhide hP).allocVO (v := fun b => .slice (some ⟨b,0,none⟩) m m) 4 (vA encB (List.replicate m false)) rfl (run_mkA (enc := encB) false rfl rfl rfl hm100 Tryz.underlying114 infoBz (by decide) rfl (fun _ => rfl) (by decide)  _) ?_
   intro r9 y5 hQ
   replace hP : Hid (Sp y1 [] y1 [] [(r7,3,vA encI (List.replicate m 0)),(r8,51,vA encS (List.replicate m 0)),(r9,4,vA encB (List.replicate m false))] [] y5) := hide hQ
   clear hQ
   go_frame
   refine wpO_want rfl ?_
   go_simp
   refine wpO_done ?_
   try go_frame
   try dsimp only
   repeat ((fail_if_success (with_reducible refine wp_reg (id := 6) ?_)); (first | go_values | go_skip | go_step | go_guarded | go_upon | go_in | go_back | fail))
   with_reducible refine wp_reg (id := 6) ?_
   iterate 3
    refine wpO_want rfl ?_
    go_simp
   refine (unhide hP).setO 2 (vA encB ((List.replicate m false).set 0 true)) rfl rfl (fun hb => run_store_elem1 (enc := encB) (i := 0) (v := .bool true) true rfl (by first | rfl | (go_simp; done)) rfl rfl (fun _ => rfl) one_encB (Tryz.sizeOf4 _) hb (by rw [List.length_replicate]; exact unhide hmp)) ?_
   intro y6 hQ
   replace hP : Hid (Sp y1 [] y1 [] [(r7,3,vA encI (List.replicate m 0)),(r8,51,vA encS (List.replicate m 0)),(r9,4,vA encB ((List.replicate m false).set 0 true))] [] y6) := hide hQ
   clear hQ
   try go_frame
   refine wpO_want rfl ?_
   go_simp
   refine (unhide hP).setO 0 (vA encI ((List.replicate m 0).set 0 (-1))) rfl rfl (fun hb => run_store_elem1 (enc := encI) (i := 0) (v := .int .i64 (-1)) (-1) rfl (by first | rfl | (go_simp; done)) rfl rfl (fun _ => rfl) one_encI (Tryz.sizeOf3 _) hb (by rw [List.length_replicate]; exact unhide hmp)) ?_
   intro y7 hQ
   replace hP : Hid (Sp y1 [] y1 [] [(r7,3,vA encI ((List.replicate m 0).set 0 (-1))),(r8,51,vA encS (List.replicate m 0)),(r9,4,vA encB ((List.replicate m false).set 0 true))] [] y7) := hide hQ
   clear hQ
   try go_frame
   refine wpO_done ?_
   try go_frame
   have hwm : IntKind.i64.wrap ((m : Int) - 1) = (m : Int) - 1 := IntWalk.i64_in _ (by omega)
   have hmm : (m : Int) - 1 = ((m - 1 : Nat) : Int) := by omega
   rw [hmm] at hwm
   try dsimp only
   repeat ((fail_if_success (with_reducible refine wp_reg (id := 7) ?_)); (first | go_values | go_skip | go_step | go_guarded | go_upon | go_in | go_back | fail))
   with_reducible refine wp_reg (id := 7) ?_
   iterate 3
    refine wpO_want rfl ?_
    go_simp
   try rw [hmm]
   refine wpO_want rfl ?_
   go_simp
   refine wpO_done ?_
   try go_frame
   clear hwm hmm hm0 hmq
   go_wp2_with fail
   obtain ⟨I7_6,hI7_60⟩ : ∃ I : Nat → Act → World → Prop,I = fun fi a' wr => ∃ (n : Nat), ∃ (inn : List Bool), ∃ (up : List Int), ∃ (sh : List Nat),a'.tmps.size = 108 ∧ a'.tmps.getD 5 undef = .slice (some ⟨b5,o5,none⟩) m c5 ∧ a'.tmps.getD 7 undef = .slice (some ⟨r7,0,none⟩) m m ∧ a'.tmps.getD 8 undef = .slice (some ⟨r8,0,none⟩) m m ∧ a'.tmps.getD 9 undef = .slice (some ⟨r9,0,none⟩) m m ∧ a'.tmps.getD 44 undef = .int .i64 ((m - 1 : Nat) : Int) ∧ a'.tmps.getD 45 undef = .int .i64 (n : Nat) ∧ a'.defers = [] ∧ n ≤ m - 1 ∧ (inn,up,sh) = treeN l n ∧ Sp y1 [] y1 [] [(r7,3,vA encI up),(r8,51,vA encS sh),(r9,4,vA encB inn)] [] wr ∧ fi = m - 1 - n := ⟨_,rfl⟩
   have hI7_6 := hide hI7_60
   clear hI7_60
   refine wp_loop_ix I7_6 (m - 1 - 0) ?_ ?_
   ·rw [unhide hI7_6]; exact ⟨0,_,_,_,rfl,rfl,rfl,rfl,rfl,rfl,rfl,rfl,Nat.zero_le _,(by rw [unhide hm']; rfl),unhide hP,rfl⟩
   ·rintro fi ⟨tm,dfs⟩ wr hrel
    rw [unhide hI7_6] at hrel
    obtain ⟨n,inn,up,sh,hsz,e5,e7,e8,e9,e44,e45,hdf,hn,hst,hPr,hfm⟩ := hrel
    obtain ⟨us,rfl⟩ : ∃ us : Nat → Value,tm = #[us 0,us 1,us 2,us 3,us 4,us 5,us 6,us 7,us 8,us 9,us 10,us 11,us 12,us 13,us 14,us 15,us 16,us 17,us 18,us 19,us 20,us 21,us 22,us 23,us 24,us 25,us 26,us 27,us 28,us 29,us 30,us 31,us 32,us 33,us 34,us 35,us 36,us 37,us 38,us 39,us 40,us 41,us 42,us 43,us 44,us 45,us 46,us 47,us 48,us 49,us 50,us 51,us 52,us 53,us 54,us 55,us 56,us 57,us 58,us 59,us 60,us 61,us 62,us 63,us 64,us 65,us 66,us 67,us 68,us 69,us 70,us 71,us 72,us 73,us 74,us 75,us 76,us 77,us 78,us 79,us 80,us 81,us 82,us 83,us 84,us 85,us 86,us 87,us 88,us 89,us 90,us 91,us 92,us 93,us 94,us 95,us 96,us 97,us 98,us 99,us 100,us 101,us 102,us 103,us 104,us 105,us 106,us 107] := ⟨fun i => tm.getD i undef,arr_fn hsz⟩
    have h5 : us 5 = .slice (some ⟨b5,o5,none⟩) m c5 := e5
    have h7 : us 7 = .slice (some ⟨r7,0,none⟩) m m := e7
    have h8 : us 8 = .slice (some ⟨r8,0,none⟩) m m := e8
    have h9 : us 9 = .slice (some ⟨r9,0,none⟩) m m := e9
    have h44 : us 44 = .int .i64 ((m - 1 : Nat) : Int) := e44
    have h45 : us 45 = .int .i64 (n : Nat) := e45
    have hdf2 : dfs = [] := hdf
    subst hdf2
    clear hdf hsz e5 e7 e8 e9 e44 e45
    simp only [h5,h7,h8,h9,h44,h45]
    clear h5 h7 h8 h9 h44 h45
    clear hP
    have hP := hide hPr
    have hst' := hide hst
    have hfm' := hide hfm
    clear hPr hst hfm
    by_cases hlt : n < m - 1
    ·have hil : (n : Int) < ((m - 1 : Nat) : Int) := by omega
     have hn2 := hide (show n + 1 < l.length by rw [← unhide hm']; omega)
     have hnb : (n : Int) ≤ 1025 := by have := unhide hle; omega
     obtain ⟨t1,t2,t3,tb,tt,ht1,ht2,ht3,ht4⟩ := tree_round (unhide hne) (unhide hn2) (s0 := (-1, -1, -1)) rfl (unhide hst')
     have hil' := hide (show inn.length = m by rw [t1,unhide hm'])
     have hul' := hide (show up.length = m by rw [t2,unhide hm'])
     have hsl' := hide (show sh.length = m by rw [t3,unhide hm'])
     have htb := hide (show tb < m by rw [unhide hm']; exact ht1)
     have htt := hide (show tt < m by rw [unhide hm']; exact ht2)
     have hpk := hide (show (List.range m).foldl (rowK l inn) (-1, -1, -1) = ((tb : Int),(tt : Int),(capS l tb tt : Int)) by rw [unhide hm']; exact ht3)
     have hnx := hide ht4
     clear t1 t2 t3 ht1 ht2 ht3 ht4 hst'
     try dsimp only
     repeat ((fail_if_success (with_reducible refine wp_reg (id := 8) ?_)); (first | go_values | go_skip | go_step | go_guarded | go_upon | go_in | go_back | fail))
     with_reducible refine wp_reg (id := 8) ?_
     refine wpO_want rfl ?_
     go_simp
     refine wpO_done ?_
     try go_frame
     try dsimp only
     repeat ((fail_if_success (with_reducible refine wp_reg (id := 9) ?_)); (first | go_values | go_skip | go_step | go_guarded | go_upon | go_in | go_back | fail))
     with_reducible refine wp_reg (id := 9) ?_
     iterate 3
      refine wpO_want rfl ?_
      go_simp
     refine wpO_done ?_
     try go_frame
     try dsimp only
     repeat ((fail_if_success (with_reducible refine wp_reg (id := 10) ?_)); (first | go_values | go_skip | go_step | go_guarded | go_upon | go_in | go_back | fail))
     with_reducible refine wp_reg (id := 10) ?_
     iterate 3
      refine wpO_want rfl ?_
      go_simp
     refine wpO_done ?_
     try go_frame
     go_wp2_with fail
     obtain ⟨I7_10,hI7_100⟩ : ∃ I : Nat → Act → World → Prop,I = fun fi a' wr => ∃ (i : Nat), ∃ (x : Int), ∃ (y : Int), ∃ (z : Int),a'.tmps.size = 108 ∧ a'.tmps.getD 5 undef = .slice (some ⟨b5,o5,none⟩) m c5 ∧ a'.tmps.getD 7 undef = .slice (some ⟨r7,0,none⟩) m m ∧ a'.tmps.getD 8 undef = .slice (some ⟨r8,0,none⟩) m m ∧ a'.tmps.getD 9 undef = .slice (some ⟨r9,0,none⟩) m m ∧ a'.tmps.getD 44 undef = .int .i64 ((m - 1 : Nat) : Int) ∧ a'.tmps.getD 45 undef = .int .i64 (n : Nat) ∧ a'.tmps.getD 10 undef = .int .i64 x ∧ a'.tmps.getD 11 undef = .int .i64 y ∧ a'.tmps.getD 12 undef = .int .i64 z ∧ a'.tmps.getD 47 undef = .slice (some ⟨b5,o5,none⟩) m c5 ∧ a'.tmps.getD 48 undef = .int .i64 (m : Nat) ∧ a'.tmps.getD 49 undef = .int .i64 (i : Nat) ∧ a'.defers = [] ∧ i ≤ m ∧ (x,y,z) = (List.range i).foldl (rowK l inn) (-1, -1, -1) ∧ Sp y1 [] y1 [] [(r7,3,vA encI up),(r8,51,vA encS sh),(r9,4,vA encB inn)] [] wr ∧ fi = m - i := ⟨_,rfl⟩
     have hI7_10 := hide hI7_100
     clear hI7_100
     refine wp_loop_ix I7_10 (m - 0) ?_ ?_
     ·rw [unhide hI7_10]; exact ⟨0, -1, -1, -1,rfl,rfl,rfl,rfl,rfl,rfl,rfl,rfl,rfl,rfl,rfl,rfl,rfl,rfl,Nat.zero_le _,rfl,unhide hP,rfl⟩
     ·rintro fi ⟨tm,dfs⟩ wr hrel
      rw [unhide hI7_10] at hrel
      obtain ⟨i,x,y,z,hsz,e5,e7,e8,e9,e44,e45,e10,e11,e12,e47,e48,e49,hdf,hi,hxy,hPr,hfi⟩ := hrel
      obtain ⟨us,rfl⟩ : ∃ us : Nat → Value,tm = #[us 0,us 1,us 2,us 3,us 4,us 5,us 6,us 7,us 8,us 9,us 10,us 11,us 12,us 13,us 14,us 15,us 16,us 17,us 18,us 19,us 20,us 21,us 22,us 23,us 24,us 25,us 26,us 27,us 28,us 29,us 30,us 31,us 32,us 33,us 34,us 35,us 36,us 37,us 38,us 39,us 40,us 41,us 42,us 43,us 44,us 45,us 46,us 47,us 48,us 49,us 50,us 51,us 52,us 53,us 54,us 55,us 56,us 57,us 58,us 59,us 60,us 61,us 62,us 63,us 64,us 65,us 66,us 67,us 68,us 69,us 70,us 71,us 72,us 73,us 74,us 75,us 76,us 77,us 78,us 79,us 80,us 81,us 82,us 83,us 84,us 85,us 86,us 87,us 88,us 89,us 90,us 91,us 92,us 93,us 94,us 95,us 96,us 97,us 98,us 99,us 100,us 101,us 102,us 103,us 104,us 105,us 106,us 107] := ⟨fun i => tm.getD i undef,arr_fn hsz⟩
      have h5 : us 5 = .slice (some ⟨b5,o5,none⟩) m c5 := e5
      have h7 : us 7 = .slice (some ⟨r7,0,none⟩) m m := e7
      have h8 : us 8 = .slice (some ⟨r8,0,none⟩) m m := e8
      have h9 : us 9 = .slice (some ⟨r9,0,none⟩) m m := e9
      have h44 : us 44 = .int .i64 ((m - 1 : Nat) : Int) := e44
      have h45 : us 45 = .int .i64 (n : Nat) := e45
      have h10 : us 10 = .int .i64 x := e10
      have h11 : us 11 = .int .i64 y := e11
      have h12 : us 12 = .int .i64 z := e12
      have h47 : us 47 = .slice (some ⟨b5,o5,none⟩) m c5 := e47
      have h48 : us 48 = .int .i64 (m : Nat) := e48
      have h49 : us 49 = .int .i64 (i : Nat) := e49
      have hdf2 : dfs = [] := hdf
      subst hdf2
      clear hdf hsz e5 e7 e8 e9 e44 e45 e10 e11 e12 e47 e48 e49
      simp only [h5,h7,h8,h9,h44,h45,h10,h11,h12,h47,h48,h49]
      clear h5 h7 h8 h9 h44 h45 h10 h11 h12 h47 h48 h49
      clear hP
      have hP := hide hPr
      have hxy' := hide hxy
      have hfi' := hide hfi
      clear hPr hxy hfi
      by_cases hlt : i < m
      ·have hil : (i : Int) < (m : Int) := by omega
       have hi2 := hide hlt
       have hib : (i : Int) ≤ 1025 := by have := unhide hle; omega
       have hiL : i < l.length := by rw [← unhide hm']; exact hlt
       have hiI := hide (show i < inn.length by rw [unhide hil']; exact hlt)
       clear hi hlt
       try dsimp only
       repeat ((fail_if_success (with_reducible refine wp_reg (id := 11) ?_)); (first | go_values | go_skip | go_step | go_guarded | go_upon | go_in | go_back | fail))
       with_reducible refine wp_reg (id := 11) ?_
       refine wpO_want rfl ?_
       go_simp
       refine wpO_done ?_
       try go_frame
       try dsimp only
       repeat ((fail_if_success (with_reducible refine wp_reg (id := 12) ?_)); (first | go_values | go_skip | go_step | go_guarded | go_upon | go_in | go_back | fail))
       with_reducible refine wp_reg (id := 12) ?_
       iterate 2
        refine wpO_want rfl ?_
        go_simp
       refine wpO_done ?_
       try go_frame
       try dsimp only
       repeat ((fail_if_success (with_reducible refine wp_reg (id := 13) ?_)); (first | go_values | go_skip | go_step | go_guarded | go_upon | go_in | go_back | fail))
       with_reducible refine wp_reg (id := 13) ?_
       iterate 3
        refine wpO_want rfl ?_
        go_simp
       refine wpO_done ?_
       try go_frame
       go_wp2_with fail
       obtain ⟨I7_14,hI7_140⟩ : ∃ I : Nat → Act → World → Prop,I = fun fk a' wr => ∃ (k : Nat), ∃ (x' : Int), ∃ (y' : Int), ∃ (z' : Int),a'.tmps.size = 108 ∧ a'.tmps.getD 5 undef = .slice (some ⟨b5,o5,none⟩) m c5 ∧ a'.tmps.getD 7 undef = .slice (some ⟨r7,0,none⟩) m m ∧ a'.tmps.getD 8 undef = .slice (some ⟨r8,0,none⟩) m m ∧ a'.tmps.getD 9 undef = .slice (some ⟨r9,0,none⟩) m m ∧ a'.tmps.getD 44 undef = .int .i64 ((m - 1 : Nat) : Int) ∧ a'.tmps.getD 45 undef = .int .i64 (n : Nat) ∧ a'.tmps.getD 10 undef = .int .i64 x' ∧ a'.tmps.getD 11 undef = .int .i64 y' ∧ a'.tmps.getD 12 undef = .int .i64 z' ∧ a'.tmps.getD 47 undef = .slice (some ⟨b5,o5,none⟩) m c5 ∧ a'.tmps.getD 48 undef = .int .i64 (m : Nat) ∧ a'.tmps.getD 49 undef = .int .i64 (i : Nat) ∧ a'.tmps.getD 13 undef = .int .i64 (i : Nat) ∧ a'.tmps.getD 52 undef = .slice (some ⟨b5,o5,none⟩) m c5 ∧ a'.tmps.getD 53 undef = .int .i64 (m : Nat) ∧ a'.tmps.getD 54 undef = .int .i64 (k : Nat) ∧ a'.defers = [] ∧ k ≤ m ∧ (x',y',z') = (List.range k).foldl (stepK l inn i) (x,y,z) ∧ Sp y1 [] y1 [] [(r7,3,vA encI up),(r8,51,vA encS sh),(r9,4,vA encB inn)] [] wr ∧ fk = m - k := ⟨_,rfl⟩
       have hI7_14 := hide hI7_140
       clear hI7_140
       refine wp_loop_ix I7_14 (m - 0) ?_ ?_
       ·rw [unhide hI7_14]; exact ⟨0,x,y,z,rfl,rfl,rfl,rfl,rfl,rfl,rfl,rfl,rfl,rfl,rfl,rfl,rfl,rfl,rfl,rfl,rfl,rfl,Nat.zero_le _,rfl,unhide hP,rfl⟩
       ·rintro fk ⟨tm,dfs⟩ wr hrel
        rw [unhide hI7_14] at hrel
        obtain ⟨k,x',y',z',hsz,e5,e7,e8,e9,e44,e45,e10,e11,e12,e47,e48,e49,e13,e52,e53,e54,hdf,hk,hxk,hPr,hfk⟩ := hrel
        obtain ⟨us,rfl⟩ : ∃ us : Nat → Value,tm = #[us 0,us 1,us 2,us 3,us 4,us 5,us 6,us 7,us 8,us 9,us 10,us 11,us 12,us 13,us 14,us 15,us 16,us 17,us 18,us 19,us 20,us 21,us 22,us 23,us 24,us 25,us 26,us 27,us 28,us 29,us 30,us 31,us 32,us 33,us 34,us 35,us 36,us 37,us 38,us 39,us 40,us 41,us 42,us 43,us 44,us 45,us 46,us 47,us 48,us 49,us 50,us 51,us 52,us 53,us 54,us 55,us 56,us 57,us 58,us 59,us 60,us 61,us 62,us 63,us 64,us 65,us 66,us 67,us 68,us 69,us 70,us 71,us 72,us 73,us 74,us 75,us 76,us 77,us 78,us 79,us 80,us 81,us 82,us 83,us 84,us 85,us 86,us 87,us 88,us 89,us 90,us 91,us 92,us 93,us 94,us 95,us 96,us 97,us 98,us 99,us 100,us 101,us 102,us 103,us 104,us 105,us 106,us 107] := ⟨fun i => tm.getD i undef,arr_fn hsz⟩
        have h5 : us 5 = .slice (some ⟨b5,o5,none⟩) m c5 := e5
        have h7 : us 7 = .slice (some ⟨r7,0,none⟩) m m := e7
        have h8 : us 8 = .slice (some ⟨r8,0,none⟩) m m := e8
        have h9 : us 9 = .slice (some ⟨r9,0,none⟩) m m := e9
        have h44 : us 44 = .int .i64 ((m - 1 : Nat) : Int) := e44
        have h45 : us 45 = .int .i64 (n : Nat) := e45
        have h10 : us 10 = .int .i64 x' := e10
        have h11 : us 11 = .int .i64 y' := e11
        have h12 : us 12 = .int .i64 z' := e12
        have h47 : us 47 = .slice (some ⟨b5,o5,none⟩) m c5 := e47
        have h48 : us 48 = .int .i64 (m : Nat) := e48
        have h49 : us 49 = .int .i64 (i : Nat) := e49
        have h13 : us 13 = .int .i64 (i : Nat) := e13
        have h52 : us 52 = .slice (some ⟨b5,o5,none⟩) m c5 := e52
        have h53 : us 53 = .int .i64 (m : Nat) := e53
        have h54 : us 54 = .int .i64 (k : Nat) := e54
        have hdf2 : dfs = [] := hdf
        subst hdf2
        clear hdf hsz e5 e7 e8 e9 e44 e45 e10 e11 e12 e47 e48 e49 e13 e52 e53 e54
        simp only [h5,h7,h8,h9,h44,h45,h10,h11,h12,h47,h48,h49,h13,h52,h53,h54]
        clear h5 h7 h8 h9 h44 h45 h10 h11 h12 h47 h48 h49 h13 h52 h53 h54
        clear hP
        have hP := hide hPr
        have hxk' := hide hxk
        have hfk' := hide hfk
        clear hPr hxk hfk
        by_cases hlt : k < m
        ·have hil2 : (k : Int) < (m : Int) := by omega
         have hk2 := hide hlt
         have hkb : (k : Int) ≤ 1025 := by have := unhide hle; omega
         have hkL : k < l.length := by rw [← unhide hm']; exact hlt
         have hkI := hide (show k < inn.length by rw [unhide hil']; exact hlt)
         have hnk := hide (range_next (stepK l inn i) (x,y,z) k)
         rw [← unhide hxk'] at hnk
         clear hk hlt
         try dsimp only
         repeat ((fail_if_success (with_reducible refine wp_reg (id := 14) ?_)); (first | go_values | go_skip | go_step | go_guarded | go_upon | go_in | go_back | fail))
         with_reducible refine wp_reg (id := 14) ?_
         refine wpO_want rfl ?_
         go_simp
         refine wpO_done ?_
         try go_frame
         try dsimp only
         repeat ((fail_if_success (with_reducible refine wp_reg (id := 15) ?_)); (first | go_values | go_skip | go_step | go_guarded | go_upon | go_in | go_back | fail))
         with_reducible refine wp_reg (id := 15) ?_
         iterate 2
          refine wpO_want rfl ?_
          go_simp
         refine wpO_done ?_
         try go_frame
         obtain ⟨qi,hqi⟩ : ∃ q,q = inn[i]'(unhide hiI) := ⟨_,rfl⟩
         obtain ⟨qk,hqk⟩ : ∃ q,q = inn[k]'(unhide hkI) := ⟨_,rfl⟩
         have c0 := (unhide hP).cell 2 i (v := .bool qi) rfl (by rw [vA1_get (enc := encB) (f := Value.bool) (fun _ => rfl) (unhide hiI),hqi])
         have c1 := (unhide hP).cell 2 k (v := .bool qk) rfl (by rw [vA1_get (enc := encB) (f := Value.bool) (fun _ => rfl) (unhide hkI),hqk])
         have hgi := hide (show inn.getD i false = qi by rw [hqi]; exact getB _)
         have hgk := hide (show inn.getD k false = qk by rw [hqk]; exact getB _)
         clear hqi hqk
         have hself := Ext.refl wr
         cases qi with
         | true =>
          try dsimp only
          repeat ((fail_if_success (with_reducible refine wp_reg (id := 16) ?_)); (first | go_values | go_skip | go_step | go_guarded | go_upon | go_in | go_back | fail))
          with_reducible refine wp_reg (id := 16) ?_
          iterate 5
           refine wpO_want rfl ?_
           go_simp
          refine wpO_out (by rfl) ?_
          go_frame
          refine wpO_out (by rfl) ?_
          go_frame
          refine wpO_out (by rfl) ?_
          go_frame
          refine wpO_out (by rfl) ?_
          go_frame
          refine wpO_out (by rfl) ?_
          go_frame
          refine wpO_want rfl ?_
          go_simp
          refine wpO_done ?_
          try go_frame
          clear c0 c1 hself
          go_wp2_with fail
          have h1 := unhide hk2
          refine ⟨m - (k + 1), ?_,by have := unhide hfk'; omega⟩
          rw [unhide hI7_14]
          exact ⟨k + 1,x',y',z',(by first | rfl | trivial),(by first | rfl | trivial),(by first | rfl | trivial),(by first | rfl | trivial),(by first | rfl | trivial),(by first | rfl | trivial),(by first | rfl | trivial),(by first | rfl | trivial),(by first | rfl | trivial),(by first | rfl | trivial),(by first | rfl | trivial),(by first | rfl | trivial),(by first | rfl | trivial),(by first | rfl | trivial),(by first | rfl | trivial),(by first | rfl | trivial),(by first | rfl | (show _ = Value.int _ _; go_num) | go_num),(by first | rfl | trivial),by omega,by rw [unhide hnk,step_out (.inl (unhide hgi))],unhide hP,rfl⟩
         | false =>
          cases qk with
          | false =>
           try dsimp only
           repeat ((fail_if_success (with_reducible refine wp_reg (id := 16) ?_)); (first | go_values | go_skip | go_step | go_guarded | go_upon | go_in | go_back | fail))
           with_reducible refine wp_reg (id := 16) ?_
           iterate 11
            refine wpO_want rfl ?_
            go_simp
           refine wpO_done ?_
           try go_frame
           clear c0 c1 hself
           go_wp2_with fail
           have h1 := unhide hk2
           refine ⟨m - (k + 1), ?_,by have := unhide hfk'; omega⟩
           rw [unhide hI7_14]
           exact ⟨k + 1,x',y',z',(by first | rfl | trivial),(by first | rfl | trivial),(by first | rfl | trivial),(by first | rfl | trivial),(by first | rfl | trivial),(by first | rfl | trivial),(by first | rfl | trivial),(by first | rfl | trivial),(by first | rfl | trivial),(by first | rfl | trivial),(by first | rfl | trivial),(by first | rfl | trivial),(by first | rfl | trivial),(by first | rfl | trivial),(by first | rfl | trivial),(by first | rfl | trivial),(by first | rfl | (show _ = Value.int _ _; go_num) | go_num),(by first | rfl | trivial),by omega,by rw [unhide hnk,step_out (.inr (unhide hgk))],unhide hP,rfl⟩
          | true =>
           try dsimp only
           repeat ((fail_if_success (with_reducible refine wp_reg (id := 16) ?_)); (first | go_values | go_skip | go_step | go_guarded | go_upon | go_in | go_back | fail))
           with_reducible refine wp_reg (id := 16) ?_
           iterate 11
            refine wpO_want rfl ?_
            go_simp
           refine wpO_done ?_
           try go_frame
           clear c0 c1 hself
           go_wp2_with fail
           obtain ⟨ci,hci⟩ : ∃ c,c = l[i] := ⟨_,rfl⟩
           obtain ⟨ck,hck⟩ : ∃ c,c = l[k] := ⟨_,rfl⟩
           have hsi := hide (fun W hW => unhide hcl i hiL W hW)
           have hsk := hide (fun W hW => unhide hcl k hkL W hW)
           rw [← hci] at hsi
           rw [← hck] at hsk
           obtain ⟨cp,hcp⟩ : ∃ c,c = capS l i k := ⟨_,rfl⟩
           have hcp2 := hide (show cntF (ci &&& ck) 1024 = cp by rw [hcp,capS_cnt (by rw [getD_get hiL, ← hci]) (by rw [getD_get hkL, ← hck])])
           have hcpb : (cp : Int) ≤ 1024 := by have := cap_le l i k; omega
           have hsn := hide (step_in (l := l) (x := x') (y := y') (z := z') (unhide hgi) (unhide hgk))
           rw [← hcp] at hsn
           clear hci hck hcp
           refine wp_regionK (P := Tryz.prog) [] [0,1,2,3,4,5,6,7,8,9,10] [] 0 #[true,true,true,true,true,true,true,true,true,true,true] (by kernel_rfl) (by kernel_rfl) rfl (by rfl) ?_
           iterate 3
            refine ql_want (v := ?_) rfl (by rfl) (fun W hW => ?_) ?_
            rotate_left
            ·go_simp
             first | done | rfl
            go_frame
           refine ql_want (v := .agg (setC ci)) rfl (by rfl) (fun W hW => qUpon_ofX (load_SetR rfl rfl (unhide hsi W ((unhide hP).extf.trans ((Ext.refl _).of_new hW (by simp)))))) ?_
           go_frame
           iterate 3
            refine ql_want (v := ?_) rfl (by rfl) (fun W hW => ?_) ?_
            rotate_left
            ·go_simp
             first | done | rfl
            go_frame
           refine ql_want (v := .agg (setC ck)) rfl (by rfl) (fun W hW => qUpon_ofX (load_SetR rfl rfl (unhide hsk W ((unhide hP).extf.trans ((Ext.refl _).of_new hW (by simp)))))) ?_
           go_frame
           refine ql_want (v := .agg (setC (ci &&& ck))) rfl (by rfl) (fun W hW => ?_) ?_
           ·go_simp
            refine (inter_any ci ck W).mono ?_
            rintro _ _ ⟨h1,h2⟩
            exact ⟨_,h1,rfl,h2⟩
           go_frame
           refine ql_want (v := .int .i64 (cp : Nat)) rfl (by rfl) (fun W hW => ?_) ?_
           ·go_simp
            refine (slen_any (ci &&& ck) W).mono ?_
            rw [unhide hcp2]
            rintro _ _ ⟨h1,h2⟩
            exact ⟨_,h1,rfl,h2⟩
           go_frame
           iterate 1
            refine ql_want (v := ?_) rfl (by rfl) (fun W hW => ?_) ?_
            rotate_left
            ·go_simp
             first | done | rfl
            go_frame
           refine wpQL_nil (fun y8 hxq => ?_)
           replace hP : Hid (Sp y1 [] y1 [] [(r7,3,vA encI up),(r8,51,vA encS sh),(r9,4,vA encB inn)] [] y8) := hide ((unhide hP).ext hxq)
           clear hxq
           refine wpX_done (by kernel_rfl) ?_
           try go_frame
           by_cases hzc : z' < (cp : Int)
           ·have hzg : (cp : Int) > z' := hzc
            try dsimp only
            repeat ((fail_if_success (with_reducible refine wp_reg (id := 18) ?_)); (first | go_values | go_skip | go_step | go_guarded | go_upon | go_in | go_back | fail))
            with_reducible refine wp_reg (id := 18) ?_
            iterate 3
             refine wpO_want rfl ?_
             go_simp
            refine wpO_done ?_
            try go_frame
            try dsimp only
            repeat ((fail_if_success (with_reducible refine wp_reg (id := 19) ?_)); (first | go_values | go_skip | go_step | go_guarded | go_upon | go_in | go_back | fail))
            with_reducible refine wp_reg (id := 19) ?_
            iterate 6
             refine wpO_want rfl ?_
             go_simp
            refine wpO_done ?_
            try go_frame
            replace hzc := hide hzc
            clear hzg
            go_wp2_with fail
            have h1 := unhide hk2
            refine ⟨m - (k + 1), ?_,by have := unhide hfk'; omega⟩
            rw [unhide hI7_14]
            exact ⟨k + 1,(i : Int),(k : Int),(cp : Int),(by first | rfl | trivial),(by first | rfl | trivial),(by first | rfl | trivial),(by first | rfl | trivial),(by first | rfl | trivial),(by first | rfl | trivial),(by first | rfl | trivial),(by first | rfl | trivial),(by first | rfl | trivial),(by first | rfl | trivial),(by first | rfl | trivial),(by first | rfl | trivial),(by first | rfl | trivial),(by first | rfl | trivial),(by first | rfl | trivial),(by first | rfl | trivial),(by first | rfl | (show _ = Value.int _ _; go_num) | go_num),(by first | rfl | trivial),by omega,by rw [unhide hnk,unhide hsn,if_pos (unhide hzc)],unhide hP,rfl⟩
           ·have hzg : ¬ (cp : Int) > z' := hzc
            try dsimp only
            repeat ((fail_if_success (with_reducible refine wp_reg (id := 18) ?_)); (first | go_values | go_skip | go_step | go_guarded | go_upon | go_in | go_back | fail))
            with_reducible refine wp_reg (id := 18) ?_
            iterate 3
             refine wpO_want rfl ?_
             go_simp
            refine wpO_done ?_
            try go_frame
            replace hzc := hide hzc
            clear hzg
            go_wp2_with fail
            have h1 := unhide hk2
            refine ⟨m - (k + 1), ?_,by have := unhide hfk'; omega⟩
            rw [unhide hI7_14]
            exact ⟨k + 1,x',y',z',(by first | rfl | trivial),(by first | rfl | trivial),(by first | rfl | trivial),(by first | rfl | trivial),(by first | rfl | trivial),(by first | rfl | trivial),(by first | rfl | trivial),(by first | rfl | trivial),(by first | rfl | trivial),(by first | rfl | trivial),(by first | rfl | trivial),(by first | rfl | trivial),(by first | rfl | trivial),(by first | rfl | trivial),(by first | rfl | trivial),(by first | rfl | trivial),(by first | rfl | (show _ = Value.int _ _; go_num) | go_num),(by first | rfl | trivial),by omega,by rw [unhide hnk,unhide hsn,if_neg (by have := unhide hzc; omega)],unhide hP,rfl⟩
        ·have hil2 : ¬ (k : Int) < (m : Int) := by omega
         obtain rfl : k = m := by omega
         have hxn := hide (show (x',y',z') = (List.range (i + 1)).foldl (rowK l inn) (-1, -1, -1) by rw [range_next, ← unhide hxy',unhide hxk',unhide hm']; rfl)
         clear hlt hfk' hxk' hxy'
         try dsimp only
         repeat ((fail_if_success (with_reducible refine wp_reg (id := 14) ?_)); (first | go_values | go_skip | go_step | go_guarded | go_upon | go_in | go_back | fail))
         with_reducible refine wp_reg (id := 14) ?_
         refine wpO_want rfl ?_
         go_simp
         refine wpO_done ?_
         try go_frame
         go_wp2_with fail
         have h1 := unhide hi2
         refine ⟨k - (i + 1), ?_,by have := unhide hfi'; omega⟩
         rw [unhide hI7_10]
         exact ⟨i + 1,x',y',z',(by first | rfl | trivial),(by first | rfl | trivial),(by first | rfl | trivial),(by first | rfl | trivial),(by first | rfl | trivial),(by first | rfl | trivial),(by first | rfl | trivial),(by first | rfl | trivial),(by first | rfl | trivial),(by first | rfl | trivial),(by first | rfl | trivial),(by first | rfl | trivial),(by first | rfl | (show _ = Value.int _ _; go_num) | go_num),(by first | rfl | trivial),by omega,unhide hxn,unhide hP,rfl⟩
      ·have hil : ¬ (i : Int) < (m : Int) := by omega
       obtain rfl : i = m := by omega
       have hpk2 := (unhide hxy').trans (unhide hpk)
       injection hpk2 with e1 e2
       injection e2 with e2 e3
       subst e1
       subst e2
       clear hlt hfi' hxy' hi
       obtain ⟨c1,hc1⟩ : ∃ c,c = l.getD tb 0 := ⟨_,rfl⟩
       obtain ⟨c2,hc2⟩ : ∃ c,c = l.getD tt 0 := ⟨_,rfl⟩
       have htbL : tb < l.length := by rw [← unhide hm']; exact unhide htb
       have httL : tt < l.length := by rw [← unhide hm']; exact unhide htt
       have hsi := hide (fun W hW => unhide hcl tb htbL W hW)
       have hsk := hide (fun W hW => unhide hcl tt httL W hW)
       rw [← getD_get htbL, ← hc1] at hsi
       rw [← getD_get httL, ← hc2] at hsk
       have hnx2 := unhide hnx
       rw [← hc1, ← hc2] at hnx2
       have hnx' := hide hnx2
       have htbi : (tb : Int) < (i : Int) := by have := unhide htb; omega
       have htti : (tt : Int) < (i : Int) := by have := unhide htt; omega
       clear hc1 hc2 hnx2
       try dsimp only
       repeat ((fail_if_success (with_reducible refine wp_reg (id := 11) ?_)); (first | go_values | go_skip | go_step | go_guarded | go_upon | go_in | go_back | fail))
       with_reducible refine wp_reg (id := 11) ?_
       refine wpO_want rfl ?_
       go_simp
       refine wpO_done ?_
       try go_frame
       go_wp2_with fail
       have hge3 := hide (fun (W : World) (hW : Keep [r7,r8,r9] wr W) => show Ext y1 W from (unhide hP).extf.of_new hW (fun z hz => (unhide hP).st.ge z (by simp [stT] at hz ⊢; rcases hz with rfl | rfl | rfl <;> simp)))
       refine wp_regionK (P := Tryz.prog) [r7,r8,r9] [0,1,2,3,4,5,6,7,8,9,10,11,12,13,14,15,16] [] 5 #[true,true,true,true,true,true,true,true,true,true,true,true,true,true,true,true,true,false,false,false,false,false] (by kernel_rfl) (by kernel_rfl) rfl (by rfl) ?_
       iterate 10
        refine ql_want (v := ?_) rfl (by rfl) (fun W hW => ?_) ?_
        rotate_left
        ·go_simp
         first | done | rfl
        go_frame
       refine ql_want (v := .agg (setC c1)) rfl (by rfl) (fun W hW => qUpon_ofX (load_SetR rfl rfl (unhide hsi W (unhide hge3 W hW)))) ?_
       go_frame
       iterate 3
        refine ql_want (v := ?_) rfl (by rfl) (fun W hW => ?_) ?_
        rotate_left
        ·go_simp
         first | done | rfl
        go_frame
       refine ql_want (v := .agg (setC c2)) rfl (by rfl) (fun W hW => qUpon_ofX (load_SetR rfl rfl (unhide hsk W (unhide hge3 W hW)))) ?_
       go_frame
       refine ql_want (v := .agg (setC (c1 &&& c2))) rfl (by rfl) (fun W hW => ?_) ?_
       ·go_simp
        refine (inter_any c1 c2 W).mono ?_
        rintro _ _ ⟨h1,h2⟩
        exact ⟨_,h1,rfl,h2⟩
       go_frame
       iterate 1
        refine ql_want (v := ?_) rfl (by rfl) (fun W hW => ?_) ?_
        rotate_left
        ·go_simp
         first | done | rfl
        go_frame
       refine wpQL_nil (fun y8 hxq => ?_)
       have hK := hide (hxq.keep [r7,r8,r9])
       replace hP : Hid (Sp y1 [] y1 [] [(r7,3,vA encI up),(r8,51,vA encS sh),(r9,4,vA encB inn)] [] y8) := hide ((unhide hP).ext hxq)
       clear hxq
       clear hge3
       refine lx_one (i := 17) (by kernel_rfl) rfl (by rfl) #[true,true,true,true,true,true,true,true,true,true,true,true,true,true,true,true,true,true,false,false,false,false] (by rfl) ?_
       refine (unhide hP).setL (unhide hK) 2 (vA encB (inn.set tb true)) rfl (by simp) (fun hb => run_store_elem1 (enc := encB) (i := tb) (v := .bool true) true rfl (by first | rfl | (go_simp; done)) rfl rfl (fun _ => rfl) one_encB (Tryz.sizeOf4 _) hb (by rw [unhide hil']; exact unhide htb)) ?_
       intro y9 hQ hK2
       replace hP : Hid (Sp y1 [] y1 [] [(r7,3,vA encI up),(r8,51,vA encS sh),(r9,4,vA encB (inn.set tb true))] [] y9) := hide hQ
       replace hK := hide hK2
       clear hQ hK2
       try go_frame
       refine lx_one (i := 18) (by kernel_rfl) rfl (by rfl) #[true,true,true,true,true,true,true,true,true,true,true,true,true,true,true,true,true,true,true,false,false,false] (by rfl) ?_
       refine (unhide hP).valL (unhide hK) (v := .pointer (some ⟨r7,tb,none⟩)) ?_ ?_
       ·go_simp
       intro y10 hQ hK2
       replace hP : Hid (Sp y1 [] y1 [] [(r7,3,vA encI up),(r8,51,vA encS sh),(r9,4,vA encB (inn.set tb true))] [] y10) := hide hQ
       replace hK := hide hK2
       clear hQ hK2
       try go_frame
       refine lx_one (i := 19) (by kernel_rfl) rfl (by rfl) #[true,true,true,true,true,true,true,true,true,true,true,true,true,true,true,true,true,true,true,true,false,false] (by rfl) ?_
       refine (unhide hP).setL (unhide hK) 0 (vA encI (up.set tb (tt : Int))) rfl (by simp) (fun hb => run_store_elem1 (enc := encI) (i := tb) (v := .int .i64 (tt : Int)) (tt : Int) rfl (by first | rfl | (go_simp; done)) rfl rfl (fun _ => rfl) one_encI (Tryz.sizeOf3 _) hb (by rw [unhide hul']; exact unhide htb)) ?_
       intro y11 hQ hK2
       replace hP : Hid (Sp y1 [] y1 [] [(r7,3,vA encI (up.set tb (tt : Int))),(r8,51,vA encS sh),(r9,4,vA encB (inn.set tb true))] [] y11) := hide hQ
       replace hK := hide hK2
       clear hQ hK2
       try go_frame
       refine lx_one (i := 20) (by kernel_rfl) rfl (by rfl) #[true,true,true,true,true,true,true,true,true,true,true,true,true,true,true,true,true,true,true,true,true,false] (by rfl) ?_
       refine (unhide hP).valL (unhide hK) (v := .pointer (some ⟨r8,tb * 16,none⟩)) ?_ ?_
       ·go_simp
       intro y12 hQ hK2
       replace hP : Hid (Sp y1 [] y1 [] [(r7,3,vA encI (up.set tb (tt : Int))),(r8,51,vA encS sh),(r9,4,vA encB (inn.set tb true))] [] y12) := hide hQ
       replace hK := hide hK2
       clear hQ hK2
       try go_frame
       refine lx_one (i := 21) (by kernel_rfl) rfl (by rfl) #[true,true,true,true,true,true,true,true,true,true,true,true,true,true,true,true,true,true,true,true,true,true] (by rfl) ?_
       refine (unhide hP).setL (unhide hK) 1 (vA encS (sh.set tb (c1 &&& c2))) rfl (by simp) (fun hb => run_store_elem (k := 16) (enc := encS) (i := tb) (v := .agg (setC (c1 &&& c2))) (c1 &&& c2) rfl (by first | rfl | (go_simp; done)) rfl rfl (fun _ => rfl) one_encS (Tryz.sizeOf51 _) hb (by rw [unhide hsl']; exact unhide htb)) ?_
       intro y13 hQ hK2
       replace hP : Hid (Sp y1 [] y1 [] [(r7,3,vA encI (up.set tb (tt : Int))),(r8,51,vA encS (sh.set tb (c1 &&& c2))),(r9,4,vA encB (inn.set tb true))] [] y13) := hide hQ
       replace hK := hide hK2
       clear hQ hK2
       try go_frame
       refine wpX_done (by kernel_rfl) ?_
       try go_frame
       clear hK
       clear htbi htti
       go_wp2_with fail
       have h1 := unhide hn2
       have h2 := unhide hm'
       refine ⟨i - 1 - (n + 1), ?_,by have := unhide hfm'; omega⟩
       rw [unhide hI7_6]
       exact ⟨n + 1,inn.set tb true,up.set tb (tt : Int),sh.set tb (c1 &&& c2),(by first | rfl | trivial),(by first | rfl | trivial),(by first | rfl | trivial),(by first | rfl | trivial),(by first | rfl | trivial),(by first | rfl | trivial),(by first | rfl | (show _ = Value.int _ _; go_num) | go_num),(by first | rfl | trivial),by omega,unhide hnx',unhide hP,rfl⟩
    ·have hil : ¬ (n : Int) < ((m - 1 : Nat) : Int) := by omega
     have hfin : (inn,up,sh) = treeS l := by
      rw [unhide hst']
      unfold treeS
      congr 1
      rw [← unhide hm']; omega
     have hlens : up.length = m ∧ sh.length = m := by
      obtain ⟨ord,hv,_⟩ := tree_full (unhide hne)
      rw [← hfin] at hv
      exact ⟨by rw [unhide hm']; exact hv.lu,by rw [unhide hm']; exact hv.ls⟩
     have hlens' := hide hlens
     have hre2 := hide (show r = (up,sh,0) by rw [unhide hre, ← hfin])
     clear hfin hlens hst' hfm' hlt hn
     try dsimp only
     repeat ((fail_if_success (with_reducible refine wp_reg (id := 8) ?_)); (first | go_values | go_skip | go_step | go_guarded | go_upon | go_in | go_back | fail))
     with_reducible refine wp_reg (id := 8) ?_
     refine wpO_want rfl ?_
     go_simp
     refine wpO_done ?_
     try go_frame
     go_wp2_with fail
     refine Sp.leaves0 ?_
     rw [unhide hre2]
     exact ⟨_,results_tmp3 (t := 2) (u := 3) (v := 4) rfl _ _ _,CtPost.mk (c := m) (d := m) (unhide hlens').1.symm (unhide hlens').2.symm (slat_blk up ((unhide hP).get 0 rfl) (flat_length (enc := encI) (k := 1) (fun _ => rfl) up) (fun _ => rfl) (by have := (unhide hlens').1; omega)) (slat_blk sh ((unhide hP).get 1 rfl) (flat_length (enc := encS) (k := 16) (fun _ => rfl) sh) (fun _ => rfl) (by have := (unhide hlens').2; omega)) ((unhide hx0).trans (unhide hP).extf)⟩
 ·obtain ⟨rfl,rfl⟩ := he
  have hre := hide (show r = ([],[],3) by rw [unhide hr',if_neg]; rintro ⟨h,_⟩; cases h)
  try dsimp only
  repeat ((fail_if_success (with_reducible refine wp_reg (id := 2) ?_)); (first | go_values | go_skip | go_step | go_guarded | go_upon | go_in | go_back | fail))
  with_reducible refine wp_reg (id := 2) ?_
  iterate 3
   refine wpO_want rfl ?_
   go_simp
  refine wpO_out (by rfl) ?_
  go_frame
  refine wpO_out (by rfl) ?_
  go_frame
  refine wpO_out (by rfl) ?_
  go_frame
  refine wpO_want rfl ?_
  go_simp
  refine wpO_done ?_
  try go_frame
  go_wp2_with fail
  refine Sp.leaves0 ?_
  rw [unhide hre]
  exact ⟨_,results_tmp3 (t := 2) (u := 3) (v := 4) rfl _ _ _,CtPost.mk0 (unhide hP).extf⟩
end Go.Proofs.YtmfkkkhddigkfaaGreatDoor
