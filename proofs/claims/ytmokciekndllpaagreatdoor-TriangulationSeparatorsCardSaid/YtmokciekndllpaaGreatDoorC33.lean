/- Parts of a proof, laid together. Each part says its own conditions. -/
import Derived.Test.YtmokciekndllpaaGreatDoorC32
import Derived.Test.YtmokciekndllpaaGreatDoorC19
import Derived.Laws.CopyRow
namespace Go.Proofs.YtmokciekndllpaaGreatDoor
open Go Go.RowKit Go.Shelf Go.Sort
attribute [local go_sem] qUpon lUpon
attribute [local irreducible] wpO wpX wpQL
def fiL (bl bg : Nat) (og : Option Addr) (A : Option Addr) (n c : Nat) : List Cl := [(bl,57, #[.slice A n c]),(bg,26, #[.pointer og])]
def fiR (A : Option Addr) (n c : Nat) (es : List (Int × Int)) : List Rw := [(61,4, .slice A n c,n,(es.map edgeP).flatMap encE)]
def FiJ (E : List ((Int × Int) × Thing)) (bl bg : Nat) (og : Option Addr) (told : List (Int × Nat)) (L : List Cl) (R : List Rw) : Prop := ∃ (A : Option Addr) (n c : Nat),n = (fillL E told).length ∧ L = fiL bl bg og A n c ∧ R = fiR A n c (fillL E told)
def FiPost (wf : World) (E : List ((Int × Int) × Thing)) (bl bg : Nat) (og : Option Addr) (told : List (Int × Nat)) (T : List Nat) (w : World) (e : Ending) (w' : World) : Prop := e = .returned (.tuple #[]) ∧ ∃ L' R',FiJ E bl bg og told L' R' ∧ St wf.heap.size L' R' w' ∧ Keep T w w' ∧ tIn T w.heap.size (stT L' R')
theorem fillL_len (E : List ((Int × Int) × Thing)) : ∀ told : List (Int × Nat),(fillL E told).length ≤ told.length * 1024
 | [] => by simp [fillL]
 | p :: l => by
  have ih := fillL_len E l
  unfold fillL at *
  rw [List.flatMap_cons,List.length_append,List.length_cons]
  have h : (fillP E p).length ≤ 1024 := by unfold fillP; rw [List.length_map]; exact toL_len _
  omega
set_option maxHeartbeats 1000000 in
theorem fillin2_any (a b la wa c d lb wb : Int) (w : World) :
  Calls Tryz.prog 79 #[.agg #[.int .i64 a, .int .i64 b, .int .u8 la, .int .i64 wa], .agg #[.int .i64 c, .int .i64 d, .int .u8 lb, .int .i64 wb]] w fun e w' => e = .returned (.int .i64 (cmpE (a,b) (c,d))) ∧ Gr w w' := by
 go_enter Tryz.func79,Tryz.ntmps79
 go_wp2
 refine wp_abs (fun W => Gr w W ∧ Blk W w.heap.size 61 #[.int .i64 a, .int .i64 b, .int .u8 la, .int .i64 wa] ∧ Blk W (w.heap.size + 1) 61 #[.int .i64 c, .int .i64 d, .int .u8 lb, .int .i64 wb]) ⟨((Gr.refl w).alloc _).alloc _,(Blk.new w _ _).ext (ext_self1 _ _),by have := Blk.new (w.alloc (.cells #[.int .i64 a, .int .i64 b, .int .u8 la, .int .i64 wa] 61)) 61 #[.int .i64 c, .int .i64 d, .int .u8 lb, .int .i64 wb]; simpa using this⟩ ?_
 rintro w1 ⟨hx1,hb0,hb1⟩
 have c0 : ∀ W,Gr w1 W → W.cell? ⟨w.heap.size,0,none⟩ = some (.int .i64 a) := fun W h => hb0.cells 0 rfl W h.ext
 have c1 : ∀ W,Gr w1 W → W.cell? ⟨w.heap.size,1,none⟩ = some (.int .i64 b) := fun W h => hb0.cells 1 rfl W h.ext
 have c2 : ∀ W,Gr w1 W → W.cell? ⟨w.heap.size + 1,0,none⟩ = some (.int .i64 c) := fun W h => hb1.cells 0 rfl W h.ext
 have c3 : ∀ W,Gr w1 W → W.cell? ⟨w.heap.size + 1,1,none⟩ = some (.int .i64 d) := fun W h => hb1.cells 1 rfl W h.ext
 clear hb0 hb1
 refine wp_region_ql (P := Tryz.prog) (fun a b => b = a) (Gr w1) [0,1,2,3,4,5,6,7,8,9] [] 3 #[true,true,true,true,true,true,true,true,true,true,false,false,false] (by kernel_rfl) (by kernel_rfl) rfl (by rfl) (fun _ => rfl) (fun _ _ _ h1 h2 => h2.trans h1) (fun _ _ h e => by rw [e]; exact h) (Gr.refl w1).drew ?_
 iterate 10
  refine ql_want (v := ?_) rfl (by rfl) (fun W hW => ?_) ?_
  rotate_left
  ·go_simp
   first | done | rfl | (go_at_call 81; refine (cmp_any _ _ _).mono ?_; rintro _ _ ⟨h1,h2⟩; refine ⟨_,h1, ?_,h2⟩; rfl)
  go_frame
 refine wpQL_nil (fun w2 hx2 => ?_)
 refine lx_one (i := 10) (by kernel_rfl) rfl (by rfl) #[true,true,true,true,true,true,true,true,true,true,true,false,false] (by rfl) ?_
 go_simp
 refine ⟨hx2.alloc _, ?_⟩
 try go_frame
 refine lx_one (i := 11) (by kernel_rfl) rfl (by rfl) #[true,true,true,true,true,true,true,true,true,true,true,true,false] (by rfl) ?_
 go_simp
 refine (or_any (cmpI a c) (cmpI b d) w2.heap.size 2 _ (by go_simp) (by go_simp)).mono ?_
 rintro e w3 ⟨rfl,rfl⟩
 refine ⟨_,rfl,hx2.alloc _, ?_⟩
 try go_frame
 refine lx_one (i := 12) (by kernel_rfl) rfl (by rfl) #[true,true,true,true,true,true,true,true,true,true,true,true,true] (by rfl) ?_
 go_simp
 refine ⟨hx2.alloc _, ?_⟩
 refine wpX_done (by kernel_rfl) ?_
 try go_frame
 go_wp2
 go_ret
 exact ⟨rfl,(hx1.trans hx2).alloc _⟩
theorem sortFI_any (base : Nat) (v : Value) (xs S : List ((Int × Int) × Thing)) (w : World) (hown : w.ownsRow base 61 4 v xs.length (xs.flatMap encE)) (hp : S.Perm xs) (hS : S.Pairwise ltE) (hsz : xs.length ≤ 10000000) :
  Calls Tryz.prog 78 #[v, .func (.func 79) #[] #[]] w fun e w' => e = .returned (.tuple #[]) ∧ w'.ownsRow base 61 4 v xs.length (S.flatMap encE) ∧ w.grownBy w' v.ownBlock := by
 have h := sortRow_any Tryz.sortE 4 (by omega) Tryz.isAgg61 Tryz.sizeOf61 encE (fun _ => rfl) one_encE (fun x y => cmpE x.1 y.1) swoE 79 (Go.Proofs.enters_of Tryz.func79 (by kernel_rfl) rfl) (fun x y W => fillin2_any _ _ _ _ _ _ _ _ _)
  base 61 v xs S w hown hp (hS.imp fun h => (ltOf_E _ _).2 h) (by omega)
 exact h
set_option maxRecDepth 100000 in
set_option maxHeartbeats 16000000 in
theorem fillin1_any (wf : World) (og : Option Addr) (V : List (Int × Thing)) (E : List ((Int × Int) × Thing)) (bl bg : Nat) (told : List (Int × Nat)) (p : Int × Nat) (A : Option Addr) (n c : Nat) (w : World) (hn : n = (fillL E told).length) (hl : told.length ≤ 1024) (hx : Ext wf w) (hg : GL wf og V E) (hT : Tab wf) (hst : St wf.heap.size (fiL bl bg og A n c) (fiR A n c (fillL E told)) w) :
  Calls Tryz.prog 77 #[.int .i64 p.1, .agg (setC p.2), .pointer (some ⟨bg,0,none⟩), .pointer (some ⟨bl,0,none⟩)] w (FiPost wf E bl bg og (told ++ [p]) (stT (fiL bl bg og A n c) (fiR A n c (fillL E told))) w) := by
 obtain ⟨z,r⟩ := p
 dsimp only
 have hP := hide (Sp.ofS hst hx)
 obtain ⟨T,hT0⟩ : ∃ T,T = stT (fiL bl bg og A n c) (fiR A n c (fillL E told)) := ⟨_,rfl⟩
 rw [← hT0] at hP ⊢
 unfold fiL fiR at hP
 have hg' := hide hg
 have hT' := hide hT
 have hnb := hide (show n ≤ 1048576 by have := fillL_len E told; omega)
 obtain ⟨es,hes⟩ : ∃ es,es = fillL E told := ⟨_,rfl⟩
 rw [← hes] at hP
 have hn' := hide (show n = es.length by rw [hes]; exact hn)
 have hfl := hide (show fillL E (told ++ [(z,r)]) = es ++ (toL (minusS r (nearS z E))).map (fun n => (min z n,max z n)) by rw [hes]; unfold fillL; rw [List.flatMap_append,List.flatMap_cons,List.flatMap_nil,List.append_nil]; rfl)
 clear hst hx hn hl hT0 hes hg hT
 refine callsIn_wide.1 (callsIn_of_wp_marks (n := 0) Tryz.func77 rfl trivial (wpIn_wide.2 ?_))
 simp only [Tryz.ntmps77,List.size_toArray,List.length_cons,List.length_nil,Nat.reduceAdd,Nat.reduceSub,Array.replicate_succ,Array.replicate_zero,List.push_toArray,List.append_toArray,List.nil_append,List.cons_append]
 try dsimp only
 repeat ((fail_if_success (with_reducible refine wp_reg (id := 0) ?_)); (first | go_values | go_skip | go_step | go_guarded | go_upon | go_in | go_back | fail))
 with_reducible refine wp_reg (id := 0) ?_
 refine (unhide hP).allocO 3 #[.int .i64 z] rfl (run_box (v := .int .i64 z) rfl rfl) ?_
 intro r4 y1 hQ
 replace hP : Hid (Sp wf T w [] [(bl,57, #[.slice A n c]),(bg,26, #[.pointer og]),(r4,3, #[.int .i64 z])] [(61,4, .slice A n c,n,(es.map edgeP).flatMap encE)] y1) := hide hQ
 clear hQ
 refine (unhide hP).allocO 25 (setC r) rfl (run_box (v := .agg (setC r)) rfl rfl) ?_
 intro r5 y2 hQ
 replace hP : Hid (Sp wf T w [] [(bl,57, #[.slice A n c]),(bg,26, #[.pointer og]),(r4,3, #[.int .i64 z]),(r5,25,setC r)] [(61,4, .slice A n c,n,(es.map edgeP).flatMap encE)] y2) := hide hQ
 clear hQ
 refine wpO_done ?_
 try go_frame
 go_wp2_with fail
 refine wp_regionK (P := Tryz.prog) [] [0,1,2,3,4] [5] 1 #[true,true,true,true,true,false] (by kernel_rfl) (by kernel_rfl) rfl (by rfl) ?_
 refine ql_want (v := .agg (setC r)) rfl (by rfl) (fun W hW => qUpon_ofX (load_SetR rfl rfl ((unhide hP).wholeK 3 rfl hW (by simp)))) ?_
 go_frame
 refine ql_want (v := .pointer og) rfl (by rfl) (fun W hW => qUpon_ofX (load_V rfl rfl (by simp [go_sem]) ((unhide hP).cellK 1 0 rfl rfl (by simp) W hW))) ?_
 go_frame
 refine ql_want (v := .int .i64 z) rfl (by rfl) (fun W hW => qUpon_ofX (load_V rfl rfl (by simp [go_sem]) ((unhide hP).cellK 2 0 rfl rfl (by simp) W hW))) ?_
 go_frame
 refine ql_want (v := .agg (setC (nearS z E))) rfl (by rfl) (fun W hW => ?_) ?_
 ·go_simp
  refine (nearG og V E z W ((unhide hg').ext ((unhide hP).extf.trans (Ext.of_keep0 hW)))).mono ?_
  rintro _ _ ⟨h1,h2⟩
  exact ⟨_,h1,rfl,h2⟩
 go_frame
 refine ql_want (v := .agg (setC (minusS r (nearS z E)))) rfl (by rfl) (fun W hW => ?_) ?_
 ·go_simp
  refine (minus_any r (nearS z E) W).mono ?_
  rintro _ _ ⟨h1,h2⟩
  exact ⟨_,h1,rfl,h2⟩
 go_frame
 refine wpQL_nil (fun y3 hxq => ?_)
 replace hP : Hid (Sp wf T w [] [(bl,57, #[.slice A n c]),(bg,26, #[.pointer og]),(r4,3, #[.int .i64 z]),(r5,25,setC r)] [(61,4, .slice A n c,n,(es.map edgeP).flatMap encE)] y3) := hide ((unhide hP).ext hxq)
 clear hxq
 obtain ⟨X,hX⟩ : ∃ X,X = minusS r (nearS z E) := ⟨_,rfl⟩
 rw [← hX]
 rw [← hX] at hfl
 clear hX
 refine lx_one (i := 5) (by kernel_rfl) rfl (by rfl) #[true,true,true,true,true,true] (by rfl) ?_
 go_simp
 refine (all_ext X _).mono ?_
 rintro _ zy4 ⟨ba,rfl,hBa0,hxc⟩
 refine ⟨_,rfl,fun y4 hxd => ?_⟩
 replace hP : Hid (Sp wf T w [] [(bl,57, #[.slice A n c]),(bg,26, #[.pointer og]),(r4,3, #[.int .i64 z]),(r5,25,setC r)] [(61,4, .slice A n c,n,(es.map edgeP).flatMap encE)] y4) := hide ((unhide hP).ext (hxc.trans hxd))
 have hBa := hide (hBa0.ext hxd)
 clear hxc hxd hBa0
 try go_frame
 refine wpX_done (by kernel_rfl) ?_
 try go_frame
 go_wp2_with fail
 have hsz9 := hide (unhide hP).keep.size
 refine wp_rngM (gf := 109) (lb := #[.pointer (some ⟨ba,0,none⟩)]) (unhide hP) rfl (enters_of Tryz.func109 (by kernel_rfl) rfl) (ex := [0]) ((unhide hP).tab (unhide hT')) (all_iter X ba y4 (unhide hBa) ((unhide hT').ext (unhide hP).extf)) (fun _ => rfl)
  (fun pre L' Rs' => ∃ A2 n2 c2,n2 = n + List.length pre ∧ L' = [(bl,57, #[.slice A2 n2 c2]),(bg,26, #[.pointer og]),(r4,3, #[.int .i64 z]),(r5,25,setC r)] ∧ Rs' = [(61,4, .slice A2 n2 c2,n2,((es ++ pre.map fun n => (min z n,max z n)).map edgeP).flatMap encE)])
  (fun _ _ _ => False)
  (fun tm _ v a1 _ => a1 = ⟨(tm.setIfInBounds 13 (.int .i64 v)).setIfInBounds 6 (.int .i64 v),[]⟩)
  (fun _ _ _ _ _ h _ => h) ⟨A,n,c,rfl,rfl,by rw [List.map_nil,List.append_nil]⟩ ?_ ?_ ?_ ?_
 ·intro T' v W' K hlt' hsz hK
  have hK' := hide hK
  have hlt2 := hide hlt'
  have hsz2 := hide hsz
  clear hK hlt' hsz
  rw [zip1]
  simp only [List.setIfInBounds_toArray,List.set_cons_succ,List.set_cons_zero]
  try dsimp only
  repeat ((fail_if_success (with_reducible refine wpI_reg (id := 2) (by kernel_rfl) ?_)); (first | go_values | gi_step | gi_guarded | gi_upon | gi_in | gi_back | fail))
  with_reducible refine wpI_reg (id := 2) (by kernel_rfl) ?_
  refine wpO_want rfl ?_
  go_simp
  refine wpO_done ?_
  try go_frame
  exact unhide hK' _ _ rfl (Ext.refl _)
 ·rintro l pre v a1 L' Rs' W' ⟨A2,n2,c2,hn2,rfl,rfl⟩ hB0 rfl hpx hl hkW htW
  simp only [List.setIfInBounds_toArray,List.set_cons_succ,List.set_cons_zero]
  have hpl := hpx.length_le
  rw [List.length_append] at hpl
  have hnb2 := hide (show n2 ≤ 1100000 by have := toL_len X; have := unhide hnb; omega)
  have hn2' := hide hn2
  obtain ⟨ys,hys⟩ : ∃ ys,ys = es ++ pre.map fun n => (min z n,max z n) := ⟨_,rfl⟩
  rw [← hys] at hB0
  have hyn := hide (show es ++ (pre ++ [v]).map (fun n => (min z n,max z n)) = ys ++ [(min z v,max z v)] by rw [hys,List.map_append,List.append_assoc]; rfl)
  obtain ⟨mn,hmn⟩ : ∃ m,m = min z v := ⟨_,rfl⟩
  obtain ⟨mx,hmx⟩ : ∃ m,m = max z v := ⟨_,rfl⟩
  rw [← hmn, ← hmx] at hyn
  have hB : Hid (Sp wf (stT [(bl,57, #[.slice A2 n2 c2]),(bg,26, #[.pointer og]),(r4,3, #[.int .i64 z]),(r5,25,setC r)] [(61,4, .slice A2 n2 c2,n2,(ys.map edgeP).flatMap encE)]) W' [] [(bl,57, #[.slice A2 n2 c2]),(bg,26, #[.pointer og]),(r4,3, #[.int .i64 z]),(r5,25,setC r)] [(61,4, .slice A2 n2 c2,n2,(ys.map edgeP).flatMap encE)] W') := hide hB0
  clear hB0 hys hpx hl hkW htW hn2 hpl
  try dsimp only
  repeat ((fail_if_success (with_reducible refine wpI_reg (id := 3) (by kernel_rfl) ?_)); (first | go_values | gi_step | gi_guarded | gi_upon | gi_in | gi_back | fail))
  with_reducible refine wpI_reg (id := 3) (by kernel_rfl) ?_
  refine wpO_val rfl (load_V (v := .slice A2 n2 c2) rfl rfl (by simp [go_sem]) (((unhide hB).get 0 rfl).cell 0)) ?_
  go_frame
  refine wpO_val rfl (load_V (v := .int .i64 z) rfl rfl (by simp [go_sem]) (((unhide hB).get 2 rfl).cell 0)) ?_
  go_frame
  iterate 2
   refine wpO_want rfl ?_
   go_simp
  rw [← hmn]
  clear hmn
  refine wpO_val rfl (load_V (v := .int .i64 z) rfl rfl (by simp [go_sem]) (((unhide hB).get 2 rfl).cell 0)) ?_
  go_frame
  iterate 2
   refine wpO_want rfl ?_
   go_simp
  rw [← hmx]
  clear hmx
  refine wpO_want rfl ?_
  go_simp
  refine (unhide hB).build1O 61 #[.int .i64 mn, .int .i64 mx, .int .u8 0, .int .i64 0] rfl (by go_simp) ?_
  intro bn y5 hQ
  replace hB : Hid (Sp wf (stT [(bl,57, #[.slice A2 n2 c2]),(bg,26, #[.pointer og]),(r4,3, #[.int .i64 z]),(r5,25,setC r)] [(61,4, .slice A2 n2 c2,n2,(ys.map edgeP).flatMap encE)]) W' [] [(bl,57, #[.slice A2 n2 c2]),(bg,26, #[.pointer og]),(r4,3, #[.int .i64 z]),(r5,25,setC r),(bn,61, #[.int .i64 mn, .int .i64 mx, .int .u8 0, .int .i64 0])] [(61,4, .slice A2 n2 c2,n2,(ys.map edgeP).flatMap encE)] y5) := hide hQ
  clear hQ
  try go_frame
  refine (unhide hB).ap1O (enc := encE) (T := 61) (ST := 57) 0 (v := .slice A2 n2 c2) (m := n2) (xs := ys.map edgeP) rfl rfl infoE Tryz.underlying57 one_encE (fun _ => rfl) (by decide) (by decide) rfl (edgeP (mn,mx)) rfl rfl ((unhide hB).get 4 rfl) (by have := unhide hnb2; omega) ?_
  intro A4 cA4 y6 hQ
  replace hB : Hid (Sp wf (stT [(bl,57, #[.slice A2 n2 c2]),(bg,26, #[.pointer og]),(r4,3, #[.int .i64 z]),(r5,25,setC r)] [(61,4, .slice A2 n2 c2,n2,(ys.map edgeP).flatMap encE)]) W' [] [(bl,57, #[.slice A2 n2 c2]),(bg,26, #[.pointer og]),(r4,3, #[.int .i64 z]),(r5,25,setC r),(bn,61, #[.int .i64 mn, .int .i64 mx, .int .u8 0, .int .i64 0])] [(61,4, .slice A4 (n2 + 1) cA4,n2 + 1,(ys.map edgeP ++ [edgeP (mn,mx)]).flatMap encE)] y6) := hide hQ
  clear hQ
  try go_frame
  replace hB : Hid (Sp wf (stT [(bl,57, #[.slice A2 n2 c2]),(bg,26, #[.pointer og]),(r4,3, #[.int .i64 z]),(r5,25,setC r)] [(61,4, .slice A2 n2 c2,n2,(ys.map edgeP).flatMap encE)]) W' [] [(bl,57, #[.slice A2 n2 c2]),(bg,26, #[.pointer og]),(r4,3, #[.int .i64 z]),(r5,25,setC r)] [(61,4, .slice A4 (n2 + 1) cA4,n2 + 1,(ys.map edgeP ++ [edgeP (mn,mx)]).flatMap encE)] y6) := hide ((unhide hB).sub (List.sublist_append_left _ ([(bn,61, #[.int .i64 mn, .int .i64 mx, .int .u8 0, .int .i64 0])] : List Cl)) (List.Sublist.refl _))
  refine (unhide hB).setO 0 #[.slice A4 (n2 + 1) cA4] rfl rfl (fun hb => run_store_row (v := .slice A4 (n2 + 1) cA4) rfl rfl rfl (by simp [go_sem]) hb rfl (by simp [Value.cells,Value.oneCell'])) ?_
  intro y7 hQ
  replace hB : Hid (Sp wf (stT [(bl,57, #[.slice A2 n2 c2]),(bg,26, #[.pointer og]),(r4,3, #[.int .i64 z]),(r5,25,setC r)] [(61,4, .slice A2 n2 c2,n2,(ys.map edgeP).flatMap encE)]) W' [] [(bl,57, #[.slice A4 (n2 + 1) cA4]),(bg,26, #[.pointer og]),(r4,3, #[.int .i64 z]),(r5,25,setC r)] [(61,4, .slice A4 (n2 + 1) cA4,n2 + 1,(ys.map edgeP ++ [edgeP (mn,mx)]).flatMap encE)] y7) := hide hQ
  clear hQ
  refine wpO_done ?_
  try go_frame
  gi_wp2_with fail
  refine ⟨_,_,⟨A4,n2 + 1,cA4,by rw [List.length_append,unhide hn2']; rfl,rfl,rfl⟩, ?_⟩
  rw [unhide hyn,show (ys ++ [(mn,mx)]).map edgeP = ys.map edgeP ++ [edgeP (mn,mx)] from List.map_append]
  exact unhide hB
 ·rintro D L' Rs' W' hD0 ⟨A2,n2,c2,hn2,rfl,rfl⟩ hkW hP0
  have hDD : w.heap.size ≤ D := Nat.le_trans (unhide hsz9) hD0
  obtain ⟨ds2,hds2⟩ : ∃ ds2,ds2 = ({ target := .collected D,args := #[] } :: [] : List Deferred) := ⟨_,rfl⟩
  rw [← hds2] at hP0 ⊢
  have hds := hide (And.intro hds2 hDD)
  obtain ⟨ys,hys⟩ : ∃ ys,ys = es ++ (toL X).map fun n => (min z n,max z n) := ⟨_,rfl⟩
  rw [← hys] at hP0
  have hfl2 := hide (show fillL E (told ++ [(z,r)]) = ys by rw [hys]; exact unhide hfl)
  have hnf := hide (show n2 = ys.length by rw [hys,List.length_append,List.length_map, ← unhide hn',hn2])
  clear hP
  have hP : Hid (Sp wf T w ds2 [(bl,57, #[.slice A2 n2 c2]),(bg,26, #[.pointer og]),(r4,3, #[.int .i64 z]),(r5,25,setC r)] [(61,4, .slice A2 n2 c2,n2,(ys.map edgeP).flatMap encE)] W') := hide hP0
  clear hkW hBa hD0 hDD hds2 hP0 hn2 hys
  go_wp2_with fail
  have hmk : Marks w.heap.size ds2 W' := by
   have h := (unhide hP).marks
   have h2 := (unhide hds).2
   rw [(unhide hds).1] at h ⊢
   exact h.upD h2
  have htin := hide (unhide hP).tin
  refine (unhide hP).leavesG hmk ?_
  intro w' hx hst
  refine ⟨_,results_none rfl _ _ _,rfl,_,_,⟨A2,n2,c2,by rw [unhide hfl2]; exact unhide hnf,rfl,rfl⟩, ?_,hx, ?_⟩
  ·rw [unhide hfl2]
   exact hst.sub (List.sublist_append_left (fiL bl bg og A2 n2 c2) ([(r4,3, #[.int .i64 z]),(r5,25,setC r)] : List Cl)) (List.Sublist.refl _)
  ·rw [unhide hfl2]
   exact fun x hx9 => unhide htin x (stT_sub (List.sublist_append_left (fiL bl bg og A2 n2 c2) ([(r4,3, #[.int .i64 z]),(r5,25,setC r)] : List Cl)) (List.Sublist.refl _) x hx9)
 ·intro D c L' Rs' W' h
  exact h.elim
theorem fillin1_tell (wf : World) (og : Option Addr) (V : List (Int × Thing)) (E : List ((Int × Int) × Thing)) (bl bg : Nat) (hg : GL wf og V E) (hT : Tab wf) : TellS wf 77 #[.pointer (some ⟨bg,0,none⟩), .pointer (some ⟨bl,0,none⟩)] (FiJ E bl bg og) (fun _ => True) where
 enters := Go.Proofs.enters_of Tryz.func77 (by kernel_rfl) rfl
 step := by
  rintro told p L R W ⟨A,n,c,hn,rfl,rfl⟩ _ hl hx hst
  exact fillin1_any wf og V E bl bg told p A n c W hn hl hx hg hT hst
def FIPost (V : List (Int × Thing)) (E : List ((Int × Int) × Thing)) (w : World) (e : Ending) (w' : World) : Prop := ∃ A n c,e = .returned (.slice A n c) ∧ n = (msFill V E).length ∧ w'.ownsRow w.heap.size 61 4 (.slice A n c) n (((msFill V E).map edgeP).flatMap encE) ∧ Ext w w'
set_option maxRecDepth 100000 in
set_option maxHeartbeats 16000000 in
theorem fillin_any (og : Option Addr) (V : List (Int × Thing)) (E : List ((Int × Int) × Thing)) (w : World) (hi : GInv V E) (hg : GL w og V E) (hT : Tab w) :
  Calls Tryz.prog 30 #[.pointer og] w (FIPost V E w) := by
 have hi' := hide hi
 have hg' := hide hg
 have hT' := hide hT
 obtain ⟨MR,hMR0⟩ : ∃ l,l = msRun V E := ⟨_,rfl⟩
 have hMR := hide hMR0
 obtain ⟨es,hes0⟩ : ∃ l,l = fillL E MR := ⟨_,rfl⟩
 have hes := hide hes0
 have hnd := hide (show es.Nodup by rw [hes0]; exact fillL_nodup hi MR hMR0)
 have hml := hide (show es.length ≤ 1048576 by
  have h1 := fillL_len E MR
  have h2 := (run_ids (E := E) 1100 (vS V) (fun _ => 0) (by have := toL_len (vS V); omega)).length_eq
  have h3 : MR.length ≤ 1024 := by
   rw [hMR0]
   unfold msRun
   rw [List.length_map] at h2
   rw [h2]
   exact toL_len _
  rw [hes0]; omega)
 unfold FIPost
 obtain ⟨FS,hFS0⟩ : ∃ l,l = msFill V E := ⟨_,rfl⟩
 have hFS := hide (show FS = fillS es by rw [hFS0,hes0,hMR0]; rfl)
 rw [← hFS0]
 clear hi hg hT hMR0 hes0 hFS0
 have hP := hide (Sp.new w)
 refine callsIn_wide.1 (callsIn_of_wp_marks (n := 0) Tryz.func30 rfl trivial (wpIn_wide.2 ?_))
 simp only [Tryz.ntmps30,List.size_toArray,List.length_cons,List.length_nil,Nat.reduceAdd,Nat.reduceSub,Array.replicate_succ,Array.replicate_zero,List.push_toArray,List.append_toArray,List.nil_append,List.cons_append]
 try dsimp only
 repeat ((fail_if_success (with_reducible refine wp_reg (id := 0) ?_)); (first | go_values | go_skip | go_step | go_guarded | go_upon | go_in | go_back | fail))
 with_reducible refine wp_reg (id := 0) ?_
 refine (unhide hP).allocO 26 #[.pointer og] rfl (run_box (v := .pointer og) rfl rfl) ?_
 intro bg y1 hQ
 replace hP : Hid (Sp w [] w [] [(bg,26, #[.pointer og])] [] y1) := hide hQ
 clear hQ
 refine wpO_want rfl ?_
 go_simp
 refine wpO_done ?_
 try go_frame
 try dsimp only
 repeat ((fail_if_success (with_reducible refine wp_reg (id := 1) ?_)); (first | go_values | go_skip | go_step | go_guarded | go_upon | go_in | go_back | fail))
 with_reducible refine wp_reg (id := 1) ?_
 refine (unhide hP).allocO 57 #[.slice none 0 0] rfl (by go_simp) ?_
 intro bl y2 hQ
 replace hP : Hid (Sp w [] w [] [(bg,26, #[.pointer og]),(bl,57, #[.slice none 0 0])] [] y2) := hide hQ
 clear hQ
 refine wpO_done ?_
 try go_frame
 replace hP : Hid (Sp w [] w [] [(bg,26, #[.pointer og]),(bl,57, #[.slice none 0 0])] [(61,4, .slice none 0 0,0,[])] y2) := hide ((unhide hP).nil 61 4)
 replace hP : Hid (Sp w [] w [] [(bl,57, #[.slice none 0 0]),(bg,26, #[.pointer og])] [(61,4, .slice none 0 0,0,[])] y2) := hide ((unhide hP).perm (List.Perm.swap _ _ _) (List.Perm.refl _))
 try dsimp only
 repeat ((fail_if_success (with_reducible refine wp_reg (id := 2) ?_)); (first | go_values | go_skip | go_step | go_guarded | go_upon | go_in | go_back | fail))
 with_reducible refine wp_reg (id := 2) ?_
 refine wpO_val rfl (load_V (v := .pointer og) rfl rfl (by simp [go_sem]) (((unhide hP).get 1 rfl).cell 0)) ?_
 go_frame
 refine wpO_want rfl ?_
 go_simp
 refine wpO_want rfl ?_
 go_simp
 have hca := search_any w 77 #[.pointer (some ⟨bg,0,none⟩), .pointer (some ⟨bl,0,none⟩)] (FiJ E bl bg og) (fun _ => True) og V E (fiL bl bg og none 0 0) (fiR none 0 0 []) y2 (fillin1_tell w og V E bl bg (unhide hg') (unhide hT')) (fun _ _ => trivial) (unhide hi') (unhide hP).extf (unhide hg') (unhide hT') ⟨none,0,0,rfl,rfl,rfl⟩ (unhide hP).st
 unfold SrPost at hca
 rw [← unhide hMR] at hca
 refine hca.mono ?_
 clear hca
 rintro _ y3 ⟨rfl,_,_,⟨A,n,c,hn,rfl,rfl⟩,hs9,hk9,ht9⟩
 rw [← unhide hes] at hs9 ht9 hn
 replace hP : Hid (Sp w [] w [] [(bl,57, #[.slice A n c]),(bg,26, #[.pointer og])] [(61,4, .slice A n c,n,(es.map edgeP).flatMap encE)] y3) := hide (Sp.frame (L := fiL bl bg og none 0 0) (Rs := fiR none 0 0 []) (L2 := []) (R2 := []) (unhide hP) hs9 hk9 ht9)
 have hn' := hide hn
 clear hs9 hk9 ht9 hn
 refine ⟨_,rfl, ?_⟩
 try go_frame
 refine wpO_done ?_
 try go_frame
 try dsimp only
 repeat ((fail_if_success (with_reducible refine wp_reg (id := 3) ?_)); (first | go_values | go_skip | go_step | go_guarded | go_upon | go_in | go_back | fail))
 with_reducible refine wp_reg (id := 3) ?_
 refine wpO_val rfl (load_V (v := .slice A n c) rfl rfl (by simp [go_sem]) (((unhide hP).get 0 rfl).cell 0)) ?_
 go_frame
 refine wpO_want rfl ?_
 go_simp
 have hrow := (unhide hP).row 0 rfl
 have hln : n = (es.map edgeP).length := by rw [List.length_map]; exact unhide hn'
 rw [hln] at hrow
 have hca := sortFI_any _ _ (es.map edgeP) ((fillS es).map edgeP) y3 hrow ((fillS_perm es).map edgeP) (fillS_ltE (unhide hnd)) (by rw [List.length_map]; have := unhide hml; omega)
 rw [← hln] at hca
 refine hca.mono ?_
 clear hca hrow hln
 rintro _ y4 ⟨rfl,hown,hgr⟩
 replace hP : Hid (Sp w [] w [] [(bl,57, #[.slice A n c]),(bg,26, #[.pointer og])] [(61,4, .slice A n c,n,((fillS es).map edgeP).flatMap encE)] y4) := hide ((unhide hP).push 0 (by decide) rfl (Ext.refl _) hown hgr (.inl rfl))
 clear hown hgr
 refine ⟨_,rfl, ?_⟩
 try go_frame
 refine wpO_done ?_
 try go_frame
 try dsimp only
 repeat ((fail_if_success (with_reducible refine wp_reg (id := 4) ?_)); (first | go_values | go_skip | go_step | go_guarded | go_upon | go_in | go_back | fail))
 with_reducible refine wp_reg (id := 4) ?_
 refine wpO_val rfl (load_V (v := .slice A n c) rfl rfl (by simp [go_sem]) (((unhide hP).get 0 rfl).cell 0)) ?_
 go_frame
 refine wpO_want rfl ?_
 go_simp
 refine wpO_done ?_
 try go_frame
 go_wp2_with fail
 refine Sp.leaves0 ?_
 exact ⟨_,results_tmp (t := 2) rfl _ _ _,A,n,c,rfl,by rw [unhide hFS,(fillS_perm es).length_eq]; exact unhide hn',by rw [unhide hFS]; exact (unhide hP).row 0 rfl,(unhide hP).extf⟩
end Go.Proofs.YtmokciekndllpaaGreatDoor
namespace Go.Proofs.YtmokciekndllpaaGreatDoor
open Go Go.RowKit Go.Shelf
attribute [local go_sem] qUpon lUpon
def encS (c : Nat) : List Value := (setC c).toList
theorem encS_len (c : Nat) : (encS c).length = 16 := rfl
theorem one_encS (c : Nat) : ∀ v ∈ encS c,v.oneCell' = true := setC_one c
theorem infoS : (Tryz.prog.info? 25).map (fun i => (i.zero.map (·.cells.size),i.size,i.bytes)) = some (some 16,16,128) := by kernel_rfl
theorem run_buildS {ρ : Operand → Value} {o : Oper} {x : Operand} {w : World} {c : Nat} (ho : o.op = .buildSlice 34 1 #[(0,x)]) (hx : ρ x = .agg (setC c)) : (execOp ρ o).run Tryz.prog w = .ok (.value (.slice (some ⟨w.heap.size,0,none⟩) 1 1)) (w.alloc (.cells (setC c) 25)) := by
 obtain ⟨a0,a1,a2,a3,a4,a5,a6,a7,a8,a9,a10,a11,a12,a13,a14,a15,hc⟩ : ∃ a0 a1 a2 a3 a4 a5 a6 a7 a8 a9 a10 a11 a12 a13 a14 a15,setC c = #[a0,a1,a2,a3,a4,a5,a6,a7,a8,a9,a10,a11,a12,a13,a14,a15] := ⟨_,_,_,_,_,_,_,_,_,_,_,_,_,_,_,_,rfl⟩
 rw [hc] at hx ⊢
 unfold execOp
 simp only [ho]
 simp [go_sem,hx]
theorem SlAt.sets {w : World} {A : Option Addr} {C : List Nat} (h : SlAt encS 16 w A C) (hne : 0 < C.length) : ∃ b off,A = some ⟨b,off,none⟩ ∧ b < w.heap.size ∧ ∀ (i : Nat) (_ : i < C.length) (S : List Nat) W,Keep S w W → b ∉ S → ∀ (j : Nat) v,(setC C[i])[j]? = some v → W.cell? ⟨b,off + i * 16 + j,none⟩ = some v := by
 obtain ⟨b,off,hA,hlt,hc⟩ := h (fun e => by rw [e] at hne; simp at hne)
 refine ⟨b,off,hA,hlt,fun i hi S W hk hn j v hv => ?_⟩
 rw [World.cell?_of_block (hk.block b hlt hn)]
 exact hc i _ (List.getElem?_eq_getElem hi) j v (by unfold encS; rw [Array.getElem?_toList]; exact hv)
theorem SlAt.set {w : World} {A : Option Addr} {C : List Nat} (h : SlAt encS 16 w A C) {i : Nat} (hi : i < C.length) : ∃ b off,A = some ⟨b,off,none⟩ ∧ b < w.heap.size ∧ ∀ S W,Keep S w W → b ∉ S → ∀ (j : Nat) v,(setC C[i])[j]? = some v → W.cell? ⟨b,off + i * 16 + j,none⟩ = some v := by
 obtain ⟨b,off,h1,h2,h3⟩ := h.sets (Nat.lt_of_le_of_lt (Nat.zero_le _) hi)
 exact ⟨b,off,h1,h2,fun S W => h3 i hi S W⟩
end Go.Proofs.YtmokciekndllpaaGreatDoor
