/- Parts of a proof, laid together. Each part says its own conditions. -/
import Derived.Test.YtoacpebmhbkmbaaGreatDoorT19
import Derived.Test.YtoacpebmhbkmbaaGreatDoorT26
import Derived.Test.YtoacpebmhbkmbaaGreatDoorT24
namespace Go.Proofs.YtoacpebmhbkmbaaGreatDoor
open Go Go.RowKit Go.Shelf
attribute [local go_sem] qUpon lUpon
def encP (p : Int × Int) : List Value := [.int .i64 p.1, .int .i64 p.2]
theorem one_encP (p : Int × Int) : ∀ v ∈ encP p,v.oneCell' = true := by
 intro v hv
 simp [encP] at hv
 rcases hv with rfl | rfl <;> rfl
theorem infoP : (Tryz.prog.info? 169).map (fun i => (i.zero.map (·.cells.size),i.size,i.bytes)) = some (some 2,2,16) := by kernel_rfl
def stepC (x : Int) (s : Nat) : Array Value := #[.int .i64 x, .int .u64 (wd s 0), .int .u64 (wd s 1), .int .u64 (wd s 2), .int .u64 (wd s 3), .int .u64 (wd s 4), .int .u64 (wd s 5), .int .u64 (wd s 6), .int .u64 (wd s 7), .int .u64 (wd s 8), .int .u64 (wd s 9), .int .u64 (wd s 10), .int .u64 (wd s 11), .int .u64 (wd s 12), .int .u64 (wd s 13), .int .u64 (wd s 14), .int .u64 (wd s 15)]
theorem stepC_set (x : Int) (s : Nat) : ∀ (j : Nat) v,(setC s)[j]? = some v → (stepC x s)[1 + j]? = some v := by
 intro j v h
 have hj : j < 16 := by
  have := (Array.getElem?_eq_some_iff.1 h).1
  simpa [setC_size] using this
 have h2 : (stepC x s)[1 + j]? = (setC s)[j]? := by
  rcases j with _ | _ | _ | _ | _ | _ | _ | _ | _ | _ | _ | _ | _ | _ | _ | _ | j
  all_goals first | rfl | omega
 rw [h2]
 exact h
theorem stepC_one (x : Int) (s : Nat) : ∀ u ∈ (stepC x s).toList,u.oneCell' = true := by
 intro u hu
 simp [stepC] at hu
 rcases hu with rfl | rfl | rfl | rfl | rfl | rfl | rfl | rfl | rfl | rfl | rfl | rfl | rfl | rfl | rfl | rfl | rfl <;> rfl
set_option maxRecDepth 100000 in
theorem run_build_step {ρ : Operand → Value} {o : Oper} {p q : Operand} {w : World} {x : Int} {s : Nat} (ho : o.op = .build 128 #[(0,p),(1,q)]) (hp : ρ p = .int .i64 x) (hq : ρ q = evS s) : (execOp ρ o).run Tryz.prog w = .ok (.value (.agg (stepC x s))) w := by
 unfold execOp
 simp only [ho,List.map_toArray,List.map_cons,List.map_nil,hp,hq]
 kernel_rfl
structure Clo (E : List ((Int × Int) × Thing)) (L : List Int) (fd : Nat) (caps : Array Value) (J : Nat → List Nat → World → Prop) : Prop where
 enters : ∀ args w,(callFunc fd args).run Tryz.prog w = .ok (.enter fd args) w
 keep : ∀ k T W W' S,J k T W → Keep S W W' → (∀ x ∈ S,x ∉ T) → J k T W'
 lt : ∀ k T W,J k T W → ∀ x ∈ T,x < W.heap.size
 step : ∀ (k : Nat) (hk : k < L.length) T W Ac cc,J k T W → Tab W → SlAt encP 2 W Ac (cAt E L k) → (∀ b off,Ac = some ⟨b,off,none⟩ → b ∉ T) →
  Calls Tryz.prog fd (#[.int .i64 k, .agg (stepC L[k] (sAt E L k)), .slice Ac (cAt E L k).length cc] ++ caps) W fun e W' => (∃ v,e = .returned v) ∧ ∃ T',J (k + 1) T' W' ∧ Keep T W W' ∧ ∀ x ∈ T',x ∈ T ∨ W.heap.size ≤ x
def CmI (M : List (Int × Nat)) (s B : Nat) (w0 : World) (pre : List Int) (W : World) : Prop :=
 ∃ v,Blk W (B + 1 + 1) 129 #[v] ∧ W.ownsRow (B + 7) 169 2 v (pre.flatMap (comeU M s)).length ((pre.flatMap (comeU M s)).flatMap encP) ∧ Keep [B + 1 + 1] w0 W
theorem CmI.keep {M : List (Int × Nat)} {s B : Nat} {w0 W W' : World} {pre : List Int} {S : List Nat} (h : CmI M s B w0 pre W) (k : Keep S W W') (hS : ∀ x ∈ S,B + 1 + 1 < x ∧ x < B + 7 ∧ w0.heap.size ≤ x) : CmI M s B w0 pre W' := by
 obtain ⟨v,h1,h2,h3⟩ := h
 refine ⟨v,h1.keep k (fun hm => by have := hS _ hm; omega),own_keep h2 k (fun g hg e => ?_),h3.of_new k (fun x hx => .inr (hS x hx).2.2)⟩
 have := (own_base h2 e).1
 have := hS g hg
 omega
def C2I (M : List (Int × Nat)) (s B : Nat) (w0 W wi : World) (bu : Nat) (u : Int) (pre pre' : List Int) (W' : World) : Prop :=
 ∃ v,Blk W' (B + 1 + 1) 129 #[v] ∧ W'.ownsRow (B + 7) 169 2 v (pre.flatMap (comeU M s) ++ pre'.map fun y => (u,y)).length ((pre.flatMap (comeU M s) ++ pre'.map fun y => (u,y)).flatMap encP) ∧ Keep [B + 1 + 1] w0 W' ∧ Blk W' bu 3 #[.int .i64 u] ∧
  (∀ gg,v.ownBlock = some gg → gg ∉ privs wi.heap.size 2) ∧ Same (privs w0.heap.size 3 ++ [0]) W W' ∧ W.heap.size ≤ W'.heap.size
theorem C2I.keep {M : List (Int × Nat)} {s B : Nat} {w0 W wi W1 W2 : World} {bu : Nat} {u : Int} {pre pre' : List Int} (h : C2I M s B w0 W wi bu u pre pre' W1) (k : Keep (privs wi.heap.size 2) W1 W2) (hS : B + 1 + 1 < wi.heap.size ∧ bu < wi.heap.size ∧ w0.heap.size + 3 ≤ wi.heap.size ∧ 0 < wi.heap.size ∧ w0.heap.size + 3 ≤ W1.heap.size ∧ 0 < W1.heap.size) : C2I M s B w0 W wi bu u pre pre' W2 := by
 obtain ⟨v,h1,h2,h3,h4,h5,h6,h7⟩ := h
 refine ⟨v,h1.keep k (by rw [mem_privs]; omega),own_keep h2 k (fun gg hg e => h5 gg e hg),h3.of_new k (fun x hx => .inr (by rw [mem_privs] at hx; omega)),h4.keep k (by rw [mem_privs]; omega),h5,h6.trans (Same.of_keep k fun y hy => ?_),Nat.le_trans h7 k.size⟩
 rcases List.mem_append.1 hy with hy | hy
 ·rw [mem_privs] at hy ⊢; omega
 ·rw [List.mem_singleton] at hy
  subst hy
  rw [mem_privs]; omega
structure WkI (E : List ((Int × Int) × Thing)) (L : List Int) (J : Nat → List Nat → World → Prop) (T0 : List Nat) (w : World) (bm k : Nat) (T : List Nat) (ds : List Deferred) (wr : World) : Prop where
 j : J k T wr
 b8 : Blk wr (bm + 1) 97 #[.map (some bm)]
 m : MapIs ekV evS i64ok wr bm (mAt E L k)
 keep : Keep T0 w wr
 marks : Marks w.heap.size ds wr
 nb : bm ∉ T ∧ bm + 1 ∉ T
 nd : ∀ D ∈ T, ∀ d ∈ ds,d.target ≠ .collected D
 tin : ∀ x ∈ T,x ∈ T0 ∨ w.heap.size ≤ x
set_option maxRecDepth 100000 in
set_option maxHeartbeats 16000000 in
theorem walk_any (A : Option Addr) (L : List Int) (cL : Nat) (g bv be : Nat) (V : List (Int × Thing)) (E : List ((Int × Int) × Thing)) (fd : Nat) (caps : Array Value) (J : Nat → List Nat → World → Prop) (T0 : List Nat) (w : World) (hL : SlAt encI 1 w A L) (hl : L.length ≤ 1024) (hg : IsG w g bv be V E) (hT : Tab w) (hck : checkS L V = 0) (hLk : ∀ x ∈ L,0 ≤ x ∧ x < 1024)
  (hC : Clo E L fd caps J) (h0 : J 0 T0 w) (hT0 : 0 ∉ T0) (hA0 : L ≠ [] → ∀ b off,A = some ⟨b,off,none⟩ → b ∉ T0) :
  Calls Tryz.prog 76 #[.pointer (some ⟨g,0,none⟩), .slice A L.length cL, .func (.func fd) #[] caps] w fun e w' => e = .returned (.int .i64 0) ∧ ∃ T,J L.length T w' ∧ Keep T0 w w' ∧ ∀ x ∈ T,x ∈ T0 ∨ w.heap.size ≤ x := by
 have hL' := hide hL
 have hg' := hide hg
 have hT' := hide hT
 have hck' := hide hck
 have hLk' := hide hLk
 have hC' := hide hC
 have h0' := hide h0
 have hT0' := hide hT0
 have hA0' := hide hA0
 clear hL hg hT hck hLk hC h0 hT0 hA0
 refine callsIn_wide.1 (callsIn_of_wp_marks (n := 0) Tryz.func76 rfl trivial (wpIn_wide.2 ?_))
 simp only [Tryz.ntmps76,List.size_toArray,List.length_cons,List.length_nil,Nat.reduceAdd,Nat.reduceSub,Array.replicate_succ,Array.replicate_zero,List.push_toArray,List.append_toArray,List.nil_append,List.cons_append]
 go_wp2_with fail
 refine (check_any A L cL g bv be V E w (unhide hL') (by omega) (unhide hg')).mono ?_
 rw [unhide hck']
 rintro e w1 ⟨rfl,hx1⟩
 have hx1' := hide hx1
 clear hx1
 try dsimp only
 repeat (first | (with_reducible refine wp_reg (id := 4) ?_) | go_values | go_step | go_guarded | go_upon | go_in | go_back | fail)
 have hmm := @run_makeMap Tryz.prog
 iterate 3
  refine wpO_want rfl ?_
  go_simp
 refine wpO_done ?_
 clear hmm
 have hB8 := hide (Blk.new (w1.alloc (.map #[] 0)) 97 #[.map (some w1.heap.size)])
 have hM8 := hide ((MapIs.made (ek := ekV) (ev := evS) (ok := i64ok) w1).ext (ext_self1 _ (.cells #[.map (some w1.heap.size)] 97)))
 have hx8 := hide ((unhide hx1').trans (ext_self2 w1 (.map #[] 0) (.cells #[.map (some w1.heap.size)] 97)))
 have hs1 := hide (Below.size (unhide hx1'))
 simp only [World.size_alloc] at hB8
 clear hx1'
 generalize (w1.alloc (.map #[] 0)).alloc (.cells #[.map (some w1.heap.size)] 97) = W2 at *
 generalize w1.heap.size = bm at *
 go_wp2_with fail
 go_loopw [27] (fun i wr => ∃ k : Nat,k ≤ L.length ∧ i = .int .i64 k ∧ Blk wr (bm + 1) 97 #[.map (some bm)] ∧ MapIs ekV evS i64ok wr bm (m0 E (L.take k)) ∧ Ext w wr) (fun i _ => L.length - (intOf i).toNat)
 case atStart => exact ⟨0,Nat.zero_le _,rfl,unhide hB8,by rw [List.take_zero]; exact unhide hM8,unhide hx8⟩
 case round =>
  obtain ⟨k,hk,rfl,hB,hM,hx⟩ := hrel
  have hB' := hide hB
  have hM' := hide hM
  have hx' := hide hx
  clear hB8 hM8 hx8
  by_cases hlt : k < L.length
  ·have hLr := (unhide hL').ext hx
   obtain ⟨b,off,rfl,c0⟩ := atI hLr hlt
   have hnx := hide (m0_next E L k hlt)
   have hxk := hide (okK ((unhide hLk') L[k] (List.getElem_mem hlt)))
   generalize L[k] = x at c0 hnx hxk
   have hself := Ext.refl wr
   have q0 := hB.cells 0 (v := .map (some bm)) rfl
   clear hB hM hx hLr
   go_wp2_with fail
   refine wp_region_ext (P := Tryz.prog) [0,1,2,3,4] [5] 1 #[true,true,true,true,true,false] (by kernel_rfl) (by kernel_rfl) rfl (by rfl) ?_
   iterate 5
    refine ql_want (v := ?_) rfl (by rfl) (fun W hW => ?_) ?_
    rotate_left
    ·go_simp
     first | done | rfl | ((go_at_call 44; refine (near_rel g bv be V E x _ (((unhide hg').ext (unhide hx')).ext hW)).mono ?_; rintro _ _ ⟨h1,h2⟩; refine ⟨_,h1, ?_,h2⟩; rfl))
    go_frame
   refine wpQL_nil (fun w3 hx3 => ?_)
   obtain ⟨w5,hrun,hm5,hk5,hs5⟩ := ((unhide hM').ext hx3).update keV Tryz.underlying97 (unhide hxk) (nearS x E)
   simp only [ekV,evS] at hrun
   refine lx_one (i := 5) (by kernel_rfl) rfl (by rfl) #[true,true,true,true,true,true] (by rfl) ?_
   go_simp
   intro w6 hx6
   refine wpX_done (by kernel_rfl) ?_
   try go_frame
   have hm6 := hm5.ext hx6
   rw [← unhide hnx] at hm6
   have hM6 := hide hm6
   have hB6 := hide ((((unhide hB').ext hx3).keep hk5 (by simp)).ext hx6)
   have hx7 := hide ((((unhide hx').trans hx3).of_new hk5 (by have := unhide hs1; simp; omega)).trans hx6)
   clear hM' hB' hx' hx3 hrun hm5 hk5 hs5 hx6 hm6 c0 q0 hself hxk hnx
   go_wp2_with fail
   go_roundw
   case rel => exact ⟨k + 1,by omega,by go_num,unhide hB6,unhide hM6,unhide hx7⟩
   case measure => simp [intOf]; omega
  ·have hke : k = L.length := by omega
   subst hke
   rw [List.take_length] at hM'
   clear hB hM hx hg'
   go_wp2_with fail
   have hI0 : WkI E L J T0 w bm 0 T0 [] wr :=
    have hlt0 := (unhide hC').lt _ _ _ (unhide h0')
    have hsz := unhide hs1
    ⟨(unhide hC').keep _ _ _ _ [] (unhide h0') ((unhide hx').keep []) (by simp),unhide hB',unhide hM',(unhide hx').keep _, .nil _,⟨fun h => by have := hlt0 _ h; omega,fun h => by have := hlt0 _ h; omega⟩,fun _ _ _ h => by simp at h,fun x h => .inl h⟩
   have hI0' := hide hI0
   clear hI0 hB' hM' hx' h0' hck'
   refine wp_loop (fun a' wr => ∃ (k : Nat) (T : List Nat),a'.tmps.size = 93 ∧ a'.tmps.getD 2 undef = .func (.func fd) #[] caps ∧ a'.tmps.getD 6 undef = .int .i64 0 ∧ a'.tmps.getD 8 undef = .pointer (some ⟨bm + 1,0,none⟩) ∧ a'.tmps.getD 37 undef = .slice A L.length cL ∧ a'.tmps.getD 38 undef = .int .i64 L.length ∧ a'.tmps.getD 39 undef = .int .i64 k ∧ k ≤ L.length ∧ WkI E L J T0 w bm k T a'.defers wr) (fun a' _ => L.length - (intOf (a'.tmps.getD 39 undef)).toNat) ?_ ?_
   ·exact ⟨0,T0,rfl,rfl,rfl,rfl,rfl,rfl,rfl,Nat.zero_le _,unhide hI0'⟩
   ·clear hI0'
    rintro ⟨tm,ds⟩ wr ⟨k,T,hsz,e2,e6,e8,e37,e38,e39,hk,hI⟩
    obtain ⟨us,rfl⟩ : ∃ us : Nat → Value,tm = #[us 0,us 1,us 2,us 3,us 4,us 5,us 6,us 7,us 8,us 9,us 10,us 11,us 12,us 13,us 14,us 15,us 16,us 17,us 18,us 19,us 20,us 21,us 22,us 23,us 24,us 25,us 26,us 27,us 28,us 29,us 30,us 31,us 32,us 33,us 34,us 35,us 36,us 37,us 38,us 39,us 40,us 41,us 42,us 43,us 44,us 45,us 46,us 47,us 48,us 49,us 50,us 51,us 52,us 53,us 54,us 55,us 56,us 57,us 58,us 59,us 60,us 61,us 62,us 63,us 64,us 65,us 66,us 67,us 68,us 69,us 70,us 71,us 72,us 73,us 74,us 75,us 76,us 77,us 78,us 79,us 80,us 81,us 82,us 83,us 84,us 85,us 86,us 87,us 88,us 89,us 90,us 91,us 92] := ⟨fun i => tm.getD i undef,arr_fn hsz⟩
    have hms : (intOf (us 39)).toNat = k := by have := e39; simp at this; rw [this]; simp [intOf]
    have h2 : us 2 = .func (.func fd) #[] caps := e2
    have h6 : us 6 = .int .i64 0 := e6
    have h8 : us 8 = .pointer (some ⟨bm + 1,0,none⟩) := e8
    have h37 : us 37 = .slice A L.length cL := e37
    have h38 : us 38 = .int .i64 L.length := e38
    have h39 : us 39 = .int .i64 k := e39
    clear hsz e2 e6 e8 e37 e38 e39
    simp only [h2,h6,h8,h37,h38,h39]
    clear h2 h6 h8 h37 h38 h39
    dsimp only at hI
    have hI' := hide hI
    by_cases hlt : k < L.length
    ·have hLr := (unhide hL').keepS hI.keep (unhide hA0' (by rintro rfl; simp at hlt))
     obtain ⟨b,off,rfl,c0⟩ := atI hLr hlt
     have hsE := sAt_eq E L k hlt
     obtain ⟨x,hxe⟩ : ∃ x,x = L[k] := ⟨_,rfl⟩
     rw [← hxe] at c0 hsE
     have hxk := hide ((unhide hLk') x (by rw [hxe]; exact List.getElem_mem hlt))
     have hxe' := hide hxe
     have hsE' := hide hsE
     have q8 := hI.b8.cells 0 (v := .map (some bm)) rfl
     have hself := Ext.refl wr
     clear hI hLr hxe hsE
     try dsimp only
     repeat (first | (with_reducible refine wp_reg (id := 13) ?_) | go_values | go_step | go_guarded | go_upon | go_in | go_back | fail)
     have hxkk := okK (unhide hxk)
     have hM12 := hide ((unhide hI').m.ext (ext_self1 wr (.cells #[.int .i64 x] 3)))
     have hB12 := hide (Blk.new wr 3 #[.int .i64 x])
     have hx12 := hide (ext_self1 wr (.cells #[.int .i64 x] 3))
     have q12 := (unhide hB12).cells 0 (v := .int .i64 x) rfl
     have hself12 := Ext.refl (wr.alloc (.cells #[.int .i64 x] 3))
     have q82 := fun (W : World) (hW : Ext (wr.alloc (.cells #[.int .i64 x] 3)) W) => q8 W ((unhide hx12).trans hW)
     have hz12 := hide (World.size_alloc wr (.cells #[.int .i64 x] 3))
     clear q8 c0 hself
     generalize wr.alloc (.cells #[.int .i64 x] 3) = w12 at *
     iterate 3
      refine wpO_want rfl ?_
      go_simp
     refine wpO_val rfl (run_lookup1_op keV Tryz.underlying97 (unhide hM12) (zeroS _) hxkk rfl rfl rfl) ?_
     rw [show (lookM (mAt E L k) x).getD 0 = sAt E L k from (unhide hsE').symm]
     obtain ⟨s,hs⟩ : ∃ s,s = sAt E L k := ⟨_,rfl⟩
     rw [← hs]
     have hs' := hide hs
     clear hs hxkk
     refine wpO_val rfl (run_build_step (x := x) (s := s) rfl rfl rfl) ?_
     refine wpO_want rfl ?_
     go_simp
     have hB13 := Blk.new w12 128 #[.int .i64 0, .int .u64 0, .int .u64 0, .int .u64 0, .int .u64 0, .int .u64 0, .int .u64 0, .int .u64 0, .int .u64 0, .int .u64 0, .int .u64 0, .int .u64 0, .int .u64 0, .int .u64 0, .int .u64 0, .int .u64 0, .int .u64 0]
     refine wpO_skip rfl (run_store_row (v := .agg (stepC x s)) rfl rfl rfl (by simp [go_sem]; rfl) hB13 rfl (stepC_one x s)) (wpO_done ?_)
     try go_frame
     have hB13' := hide (hB13.row (stepC x s))
     have hx13 := hide (((unhide hx12).trans (ext_self1 w12 (.cells #[.int .i64 0, .int .u64 0, .int .u64 0, .int .u64 0, .int .u64 0, .int .u64 0, .int .u64 0, .int .u64 0, .int .u64 0, .int .u64 0, .int .u64 0, .int .u64 0, .int .u64 0, .int .u64 0, .int .u64 0, .int .u64 0, .int .u64 0] 128))).of_new (Keep.setRow _ w12.heap.size (stepC x s)) (by have := Below.size (unhide hx12); simp; omega))
     have hB12' := hide (((unhide hB12).ext (ext_self1 w12 (.cells #[.int .i64 0, .int .u64 0, .int .u64 0, .int .u64 0, .int .u64 0, .int .u64 0, .int .u64 0, .int .u64 0, .int .u64 0, .int .u64 0, .int .u64 0, .int .u64 0, .int .u64 0, .int .u64 0, .int .u64 0, .int .u64 0, .int .u64 0] 128))).keep (Keep.setRow _ w12.heap.size (stepC x s)) (by have := (unhide hB12).lt; simp; omega))
     have hz13 : ((w12.alloc (.cells #[.int .i64 0, .int .u64 0, .int .u64 0, .int .u64 0, .int .u64 0, .int .u64 0, .int .u64 0, .int .u64 0, .int .u64 0, .int .u64 0, .int .u64 0, .int .u64 0, .int .u64 0, .int .u64 0, .int .u64 0, .int .u64 0, .int .u64 0] 128)).setRow w12.heap.size (stepC x s)).heap.size = wr.heap.size + 1 + 1 := by have := unhide hz12; simp [World.setRow]; omega
     clear hM12 hB12 hx12 q12 q82 hself12 hB13
     rw [show (Value.agg (stepC x s)).cells = stepC x s from rfl]
     generalize (w12.alloc (.cells #[.int .i64 0, .int .u64 0, .int .u64 0, .int .u64 0, .int .u64 0, .int .u64 0, .int .u64 0, .int .u64 0, .int .u64 0, .int .u64 0, .int .u64 0, .int .u64 0, .int .u64 0, .int .u64 0, .int .u64 0, .int .u64 0, .int .u64 0] 128)).setRow w12.heap.size (stepC x s) = w13 at *
     rw [unhide hz12] at hB13' ⊢
     have hz13' := hide hz13
     clear hz12 hz13
     have hB14 := hide (Blk.new w13 129 #[.slice none 0 0])
     have hx14 := hide ((unhide hx13).trans (ext_self1 w13 (.cells #[.slice none 0 0] 129)))
     have hB13'' := hide ((unhide hB13').ext (ext_self1 w13 (.cells #[.slice none 0 0] 129)))
     have hB12'' := hide ((unhide hB12').ext (ext_self1 w13 (.cells #[.slice none 0 0] 129)))
     rw [unhide hz13'] at hB14
     have hz14 := hide (World.size_alloc w13 (.cells #[.slice none 0 0] 129))
     clear hB13' hB12' hx13
     try dsimp only
     repeat (first | (with_reducible refine wp_reg (id := 15) ?_) | go_values | go_step | go_guarded | go_upon | go_in | go_back | fail)
     rw [unhide hz13']
     generalize w13.alloc (.cells #[.slice none 0 0] 129) = w14 at *
     refine wpO_want rfl ?_
     go_simp
     refine wpO_val rfl (load_SetR (N := s) rfl rfl ((unhide hB13'').sub (stepC_set x s))) ?_
     refine wpO_want rfl ?_
     go_simp
     refine (all_any s w14).mono ?_
     rintro e w15 ⟨rfl,rfl⟩
     refine ⟨_,rfl, ?_⟩
     refine wpO_done ?_
     have hBs := hide (Blk.new w14 76 (setC s))
     have hx15 := hide ((unhide hx14).trans (ext_self1 w14 (.cells (setC s) 76)))
     have hB12 := hide ((unhide hB12'').ext (ext_self1 w14 (.cells (setC s) 76)))
     have hB13 := hide ((unhide hB13'').ext (ext_self1 w14 (.cells (setC s) 76)))
     have hB15 := hide ((unhide hB14).ext (ext_self1 w14 (.cells (setC s) 76)))
     have hz15 := hide (show (w14.alloc (.cells (setC s) 76)).heap.size = wr.heap.size + 4 by rw [World.size_alloc,unhide hz14,unhide hz13'])
     clear hx14 hB12'' hB13'' hB14 hz14 hz13'
     generalize w14.heap.size = b15 at *
     generalize w14.alloc (.cells (setC s) 76) = w15 at *
     try go_frame
     go_wp2_with fail
     have hI15 : WkI E L J T0 w bm k T ds w15 :=
      have h := unhide hI'
      have hlt0 := (unhide hC').lt _ _ _ h.j
      ⟨(unhide hC').keep _ _ _ _ [] h.j ((unhide hx15).keep []) (by simp),h.b8.ext (unhide hx15),h.m.ext (unhide hx15),h.keep.trans ((unhide hx15).keep _),h.marks.keep ((unhide hx15).keep []) (by simp),h.nb,h.nd,h.tin⟩
     have hI15' := hide hI15
     have hbB := hide (unhide hI').b8.lt
     have hTB := hide ((unhide hC').lt _ _ _ (unhide hI').j)
     have hsw := hide (Nat.le_trans (show w.heap.size ≤ w.heap.size from Nat.le_refl _) (unhide hI').keep.size)
     have hTw := hide ((unhide hT').keep hI15.keep (unhide hT0'))
     clear hI15 hI' hx15
     generalize wr.heap.size = B at *
     generalize hMk : mAt E L k = M at *
     have hMk' := hide hMk
     clear hMk
     refine wp_range (gf := 112) (lb := #[.pointer (some ⟨b15,0,none⟩)]) rfl (enters_of Tryz.func112 (by kernel_rfl) rfl) (ex := [0]) (by have := (unhide hTw).lt; simp; omega)
      (all_iter s b15 w15 (unhide hBs) (unhide hTw)) (fun _ => rfl)
      (fun pre W => CmI M s B w15 pre W) (fun _ _ _ => False)
      (fun tm pre u a1 W => ∃ bu,B + 7 ≤ bu ∧ Blk W bu 3 #[.int .i64 u] ∧ CmI M s B w15 pre W ∧ a1 = ⟨(tm.setIfInBounds 52 (.int .i64 u)).setIfInBounds 15 (.pointer (some ⟨bu,0,none⟩)),[]⟩)
      (fun pre A1 A2 h hk => h.keep hk (by have := unhide hz15; intro x hx; rw [mem_privs] at hx; omega)) (fun _ _ _ _ h => h.elim)
      (fun pre u a1 A1 A2 h hk => by
       obtain ⟨bu,h1,h2,h3,h4⟩ := h
       have := unhide hz15
       exact ⟨bu,h1,h2.keep hk (by rw [mem_privs]; omega),h3.keep hk (by intro x hx; rw [mem_privs] at hx; omega),h4⟩)
      ⟨.slice none 0 0,unhide hB15,World.ownsRow_nil _ _ _ _,Keep.refl _ _⟩ ?_ ?_ ?_ (fun _ _ _ h => h.elim)
     ·intro pre u W K hI hpre hsz hK
      have hK' := hide hK
      have hsz' := hide hsz
      clear hK hsz
      rw [zip1]
      simp only [List.setIfInBounds_toArray,List.set_cons_succ,List.set_cons_zero]
      try dsimp only
      repeat (first | (with_reducible refine wpI_reg (id := 16) (by kernel_rfl) ?_) | go_values | gi_step | gi_guarded | gi_upon | gi_in | gi_back | fail)
      iterate 2
       refine wpO_want rfl ?_
       go_simp
      refine wpO_done ?_
      try go_frame
      have h15 := unhide hz15
      have hszz := unhide hsz'
      refine unhide hK' _ _ ⟨W.heap.size,by omega,Blk.new W _ _,hI.keep ((ext_self1 W (.cells #[.int .i64 u] 3)).keep []) (by simp),rfl⟩ (Same.of_keep ((ext_self1 W (.cells #[.int .i64 u] 3)).keep []) fun y hy => ⟨?_,by simp⟩) (by simp)
      rcases List.mem_append.1 hy with hy | hy
      ·rw [mem_privs] at hy; omega
      ·have := (unhide hTw).lt
       rw [List.mem_singleton] at hy
       omega
     ·rintro pre u a1 W ⟨bu,hbu,hBu,hI,rfl⟩ hpre hsz ⟨r,hr⟩
      simp only [List.setIfInBounds_toArray,List.set_cons_succ,List.set_cons_zero]
      have hBu' := hide hBu
      have hI' := hide hI
      have hr' := hide hr
      have hpre' := hide hpre
      have hsz' := hide hsz
      clear hBu hI hr hpre hsz
      obtain ⟨v,hBc,hown,hkp⟩ := unhide hI'
      have hbB2 := unhide hbB
      have hB13W := (unhide hB13).keep hkp (by simp)
      have hB8W := (unhide hI15').b8.keep hkp (by simp; omega)
      have hMW := (unhide hI15').m.keep hkp (by simp; omega)
      rw [unhide hMk'] at hMW
      have hu0 : 0 ≤ u ∧ u < 1024 := by
       have hmem : u ∈ toL s := (unhide hpre').subset (by simp)
       have := mem_toL'.1 hmem
       exact ⟨this.1,this.2.1⟩
      have hu1 : IntKind.i64.wrap (u + 1) = u + 1 := IntWalk.i64_in _ (by omega)
      have q8 := hB8W.cells 0 (v := .map (some bm)) rfl
      have qu := (unhide hBu').cells 0 (v := .int .i64 u) rfl
      have lk := fun (W' : World) (hW' : Ext W W') => (hMW.ext hW').lookup1 keV Tryz.underlying97 (zeroS W') (okK hu0)
      rw [show (lookM M u).getD 0 = nrM M u from rfl] at lk
      have hB13h := hide hB13W
      have hBch := hide hBc
      have hownh := hide hown
      have hkph := hide hkp
      have hu0h := hide hu0
      have hself := Ext.refl W
      clear hB13W hB8W hMW hBc hown hkp hu0 hbB2
      simp only [ekV] at lk
      gi_wp2_with fail
      refine wpI_region_ext (P := Tryz.prog) [0,1,2,3,4,5,6,7,8,9] [10] 1 #[true,true,true,true,true,true,true,true,true,true,false] (by kernel_rfl) (by kernel_rfl) (by kernel_rfl) rfl (by rfl) ?_
      iterate 1
       refine ql_want (v := ?_) rfl (by rfl) (fun W hW => ?_) ?_
       rotate_left
       ·go_simp
        first | done | rfl
       go_frame
      refine ql_want (v := .agg (setC s)) rfl (by rfl) (fun W' hW' => by rw [load_SetR rfl rfl (((unhide hB13h).ext hW').sub (stepC_set x s))]; exact qUpon_value (Ext.refl _)) ?_
      go_frame
      iterate 8
       refine ql_want (v := ?_) rfl (by rfl) (fun W hW => ?_) ?_
       rotate_left
       ·go_simp
        first | done | rfl | ((go_at_call 126; refine (below_any (u + 1) _).mono ?_; rintro _ _ ⟨h1,h2⟩; refine ⟨_,h1, ?_,h2⟩; rfl)) | ((go_at_call 84; refine (minus_any _ _ _).mono ?_; rintro _ _ ⟨h1,h2⟩; refine ⟨_,h1, ?_,h2⟩; rfl))
       go_frame
      refine wpQL_nil (fun w3 hx3 => ?_)
      refine lx_one (i := 10) (by kernel_rfl) rfl (by rfl) #[true,true,true,true,true,true,true,true,true,true,true] (by rfl) ?_
      go_simp
      refine (all_any _ w3).mono ?_
      rintro e w4 ⟨rfl,rfl⟩
      refine ⟨_,rfl,fun w5 hx5 => ?_⟩
      refine wpX_done (by kernel_rfl) ?_
      try go_frame
      obtain ⟨N2,hN2⟩ : ∃ N2,N2 = minusS (minusS s (belS (u + 1))) (nrM M u) := ⟨_,rfl⟩
      rw [← hN2] at hx5 ⊢
      have hN2' := hide hN2
      have hB5 := hide ((Blk.new w3 76 (setC N2)).ext hx5)
      have hx35 := hide ((hx3.trans (ext_self1 w3 (.cells (setC N2) 76))).trans hx5)
      have hTW := hide ((unhide hTw).keep (unhide hkph) (by have := (unhide hT').lt; have := unhide hsw; rw [List.mem_singleton]; omega))
      clear hN2 hx3 hx5 q8 qu lk hself
      generalize w3.heap.size = b6 at *
      gi_wp2_with fail
      have hC0 : C2I M s B w15 W w5 bu u pre [] w5 := by
       refine ⟨v,(unhide hBch).ext (unhide hx35),by rw [List.map_nil,List.append_nil]; exact own_ext (unhide hownh) (unhide hx35),(unhide hkph).trans ((unhide hx35).keep _),(unhide hBu').ext (unhide hx35),fun gg hgg hm => ?_,Same.of_keep ((unhide hx35).keep []) fun y hy => ⟨?_,by simp⟩,(unhide hx35).size⟩
       ·have h1 := (own_base (unhide hownh) hgg).2.1
        have h2 := (unhide hx35).size
        rw [mem_privs] at hm
        omega
       ·have h1 := unhide hsz'
        rcases List.mem_append.1 hy with hy | hy
        ·rw [mem_privs] at hy; omega
        ·have := (unhide hTw).lt
         rw [List.mem_singleton] at hy
         omega
      have hC0' := hide hC0
      clear hC0
      have hkb := hide (show B + 1 + 1 < w5.heap.size ∧ bu < w5.heap.size ∧ w15.heap.size + 3 ≤ w5.heap.size ∧ 0 < w5.heap.size from by
       have h1 := (unhide hx35).size
       have h2 := (unhide hBu').lt
       have h3 := (unhide hBch).lt
       have h4 := (unhide hTW).lt
       have h5 := unhide hsz'
       omega)
      have hk2 : ∀ (pre' : List Int) (A1 A2 : World),C2I M s B w15 W w5 bu u pre pre' A1 → Keep (privs w5.heap.size (1 + 1)) A1 A2 → C2I M s B w15 W w5 bu u pre pre' A2 := fun pre' A1 A2 h hk => by
       have h0 := h
       obtain ⟨_,_,_,_,_,_,_,h7⟩ := h0
       have h1 := unhide hkb
       have h2 := unhide hsz'
       have h3 := (unhide hTW).lt
       exact h.keep hk ⟨h1.1,h1.2.1,h1.2.2.1,h1.2.2.2,by omega,by omega⟩
      refine wpI_range (l₀ := w15.heap.size + 1) (r₀ := r) ((unhide hx35).block _ (by have := unhide hsz'; omega) |>.trans (unhide hr')) (gf := 112) (lb := #[.pointer (some ⟨b6,0,none⟩)]) rfl (enters_of Tryz.func112 (by kernel_rfl) rfl) (ex := [0]) (by have := ((unhide hTW).ext (unhide hx35)).lt; simp; omega)
       (all_iter N2 b6 w5 (unhide hB5) ((unhide hTW).ext (unhide hx35))) (fun _ => rfl)
       (fun pre' W' => C2I M s B w15 W w5 bu u pre pre' W') (fun _ _ _ => False)
       (fun tm pre' y a1 W' => C2I M s B w15 W w5 bu u pre pre' W' ∧ a1 = ⟨(tm.setIfInBounds 64 (.int .i64 y)).setIfInBounds 16 (.int .i64 y),[]⟩)
       (fun pre' A1 A2 h hk => hk2 _ _ _ h hk) (fun _ _ _ _ h => h.elim) (fun pre' y a1 A1 A2 h hk => ⟨hk2 _ _ _ h.1 hk,h.2⟩) (unhide hC0') ?_ ?_ ?_ (fun _ _ _ h => h.elim)
      ·intro pre' y W' K hI2 hpre2 hsz2 hK2
       have hK2' := hide hK2
       clear hK2
       rw [zip1]
       simp only [List.setIfInBounds_toArray,List.set_cons_succ,List.set_cons_zero]
       try dsimp only
       repeat (first | (with_reducible refine wpI_reg (id := 18) (by kernel_rfl) ?_) | go_values | gi_step | gi_guarded | gi_upon | gi_in | gi_back | fail)
       refine wpO_want rfl ?_
       go_simp
       refine wpO_done ?_
       try go_frame
       exact unhide hK2' _ _ ⟨hI2,rfl⟩ (Same.refl _ _) (Nat.le_refl _)
      ·rintro pre' y a1 W' ⟨⟨v2,hBc2,hown2,hkp2,hBu2,hnp2,hsm2,hsz2⟩,rfl⟩ hpre2 hszw ⟨r2,hr2⟩
       simp only [List.setIfInBounds_toArray,List.set_cons_succ,List.set_cons_zero]
       have c14 := hBc2.cells 0 (v := v2) rfl
       have cu := hBu2.cells 0 (v := .int .i64 u) rfl
       have hself := Ext.refl W'
       have hh := hide (And.intro hBc2 (And.intro hown2 (And.intro hkp2 (And.intro hBu2 (And.intro hnp2 (And.intro hsm2 hsz2))))))
       have hszw' := hide hszw
       have hpre2' := hide hpre2
       clear hBc2 hown2 hkp2 hBu2 hnp2 hsm2 hsz2 hpre2 hszw hr2
       try dsimp only
       repeat (first | (with_reducible refine wpI_reg (id := 19) (by kernel_rfl) ?_) | go_values | gi_step | gi_guarded | gi_upon | gi_in | gi_back | fail)
       iterate 5
        refine wpO_want rfl ?_
        go_simp
       obtain ⟨hBc2,hown2,hkp2,hBu2,hnp2,hsm2,hsz2⟩ := unhide hh
       have hxn := ext_self1 W' (.cells #[.int .i64 u, .int .i64 y] 169)
       have hnn : (pre.flatMap (comeU M s) ++ pre'.map fun y => (u,y)).length ≤ 10000000 := by
        have h1 := flat_len (comeU_le M s) pre
        have h2 := (unhide hpre').length_le
        have h3 := toL_le s
        have h4 := (unhide hpre2').length_le
        have h5 := toL_le N2
        simp only [List.length_append,List.length_map,List.length_singleton] at h2 h4 ⊢
        have h6 : pre.length * 1024 ≤ 1024 * 1024 := Nat.mul_le_mul_right _ (by omega)
        omega
       obtain ⟨nn,hnn0⟩ : ∃ nn,nn = (pre.flatMap (comeU M s) ++ pre'.map fun y => (u,y)).length := ⟨_,rfl⟩
       rw [← hnn0] at hnn hown2
       have hnn0' := hide hnn0
       have hbse : B + 7 ≤ W'.heap.size := by have := unhide hkb; have := unhide hszw'; have := unhide hz15; omega
       refine wpO_ap1 rfl infoP Tryz.underlying129 one_encP (fun _ => rfl) (by decide) (by decide) rfl (u,y) rfl rfl (Blk.new W' 169 #[.int .i64 u, .int .i64 y]) (own_ext hown2 hxn) hnn (by simp; omega) ?_
       intro A6 cc6 w6 hown6 hg6 hat6
       have hk6 := (hxn.keep v2.ownBlock.toList).trans (Keep.of_grown hg6)
       have hne : ∀ gg,v2.ownBlock = some gg → B + 7 ≤ gg ∧ gg ≠ bu := fun gg hgg => by
        obtain ⟨h1,_,c,hc⟩ := own_base hown2 hgg
        refine ⟨h1,fun e => ?_⟩
        subst e
        unfold Blk at hBu2
        rw [hBu2] at hc
        simp at hc
       have hBc6 := hBc2.keep hk6 (fun hm => by have := hne _ (by simpa using hm); omega)
       have hBu6 := hBu2.keep hk6 (fun hm => (hne _ (by simpa using hm)).2 rfl)
       have hkk := (hk6.mono (S' := v2.ownBlock.toList ++ [B + 1 + 1]) fun z hz => List.mem_append.2 (.inl hz)).trans ((Keep.setCell w6 (B + 1 + 1) 0 (.slice A6 (nn + 1) cc6)).mono fun z hz => List.mem_append.2 (.inr hz))
       have hB7 := hBc6.set 0 (.slice A6 (nn + 1) cc6)
       have hBu7 := hBu6.keep (Keep.setCell w6 (B + 1 + 1) 0 (.slice A6 (nn + 1) cc6)) (by simp; omega)
       have hown7 := own_keep hown6 (Keep.setCell w6 (B + 1 + 1) 0 (.slice A6 (nn + 1) cc6)) (by
        intro gg hgg e
        rw [List.mem_singleton] at hgg
        have := (own_base hown6 e).1
        omega)
       have hz5 := unhide hz15
       have hzw := unhide hszw'
       have hkbb := unhide hkb
       have hfin : C2I M s B w15 W w5 bu u pre (pre' ++ [y]) (w6.setCell ⟨B + 1 + 1,0,none⟩ (.slice A6 (nn + 1) cc6)) := by
        have hlist : (pre.flatMap (comeU M s) ++ (pre' ++ [y]).map fun y => (u,y)) = (pre.flatMap (comeU M s) ++ pre'.map fun y => (u,y)) ++ [(u,y)] := by simp
        refine ⟨_,hB7, ?_,hkp2.of_new hkk fun z hz => ?_,hBu7,fun gg hgg hm => ?_,hsm2.trans (Same.of_keep hkk fun z hz => ?_),Nat.le_trans hsz2 hkk.size⟩
        ·rw [hlist,List.length_append,List.length_singleton, ← hnn0]
         exact hown7
        ·rcases List.mem_append.1 hz with hz | hz
         ·have := hne z (by simpa using hz)
          right; omega
         ·left; exact hz
        ·rw [mem_privs] at hm
         rcases hat6 with h | h
         ·rw [h] at hgg
          have := hnp2 gg hgg
          rw [mem_privs] at this
          omega
         ·rw [h] at hgg
          simp at hgg
          omega
        ·have hnot : ¬ (z ∈ v2.ownBlock.toList ++ [B + 1 + 1]) := fun hm => by
          rcases List.mem_append.1 hz with hz | hz
          ·rw [mem_privs] at hz
           rcases List.mem_append.1 hm with hm | hm
           ·have := (hne z (by simpa using hm)).1; omega
           ·rw [List.mem_singleton] at hm; omega
          ·have := (unhide hT').lt
           have := unhide hsw
           rw [List.mem_singleton] at hz
           rcases List.mem_append.1 hm with hm | hm
           ·have := (hne z (by simpa using hm)).1; omega
           ·rw [List.mem_singleton] at hm; omega
         refine ⟨?_,hnot⟩
         rcases List.mem_append.1 hz with hz | hz
         ·rw [mem_privs] at hz; omega
         ·have := (unhide hT').lt
          have := unhide hsw
          rw [List.mem_singleton] at hz
          omega
       have hsm7 : Same (privs w5.heap.size (1 + 1) ++ [0]) W' (w6.setCell ⟨B + 1 + 1,0,none⟩ (.slice A6 (nn + 1) cc6)) := Same.of_keep hkk fun z hz => by
        rcases List.mem_append.1 hz with hz | hz
        ·have hz' := hz
         rw [mem_privs] at hz
         refine ⟨by omega,fun hm => ?_⟩
         rcases List.mem_append.1 hm with hm | hm
         ·exact hnp2 z (by simpa using hm) hz'
         ·rw [List.mem_singleton] at hm; omega
        ·have := (unhide hT').lt
         have := unhide hsw
         rw [List.mem_singleton] at hz
         refine ⟨by omega,fun hm => ?_⟩
         rcases List.mem_append.1 hm with hm | hm
         ·have := (hne z (by simpa using hm)).1; omega
         ·rw [List.mem_singleton] at hm; omega
       have hsm7' := hide hsm7
       have hfin' := hide hfin
       have hkk' := hide hkk
       have c6 := hBc6.cell 0
       have f6 := hBc6.frozen 0
       simp at c6
       clear hBc2 hown2 hkp2 hBu2 hnp2 hsm2 hsz2 hxn hk6 hown6 hg6 hat6 hBc6 hBu6 hfin hkk hB7 hBu7 hown7 hz5 hzw hkbb hnn0 hnn hbse hne hsm7
       try go_frame
       refine wpO_want rfl ?_
       go_simp
       refine wpO_done ?_
       exact ⟨(unhide hkk').size,unhide hsm7',unhide hfin'⟩
      ·intro W' hI2
       obtain ⟨v2,h1,h2,h3,_,_,h6,h7⟩ := hI2
       have hcu : (pre ++ [u]).flatMap (comeU M s) = pre.flatMap (comeU M s) ++ (toL N2).map fun y => (u,y) := by
        rw [List.flatMap_append,List.flatMap_cons,List.flatMap_nil,List.append_nil,unhide hN2']
        rfl
       have hcm : CmI M s B w15 (pre ++ [u]) W' := ⟨v2,h1,by rw [hcu]; exact h2,h3⟩
       have hcm' := hide hcm
       have h6' := hide h6
       have h7' := hide h7
       clear h1 h2 h3 h6 h7 hcu hcm
       gi_wp2_with fail
       exact ⟨unhide h7',unhide h6',unhide hcm'⟩
     ·intro W hI hD
      have hI' := hide hI
      have hD' := hide hD
      clear hI hD
      obtain ⟨vc,hBc,hownc,hkc⟩ := unhide hI'
      have hbB2 := unhide hbB
      have hz5 := unhide hz15
      have hsw2 := unhide hsw
      have hIW : WkI E L J T0 w bm k T ({ target := .collected w15.heap.size,args := #[] } :: ds) W :=
       have h := unhide hI15'
       ⟨(unhide hC').keep _ _ _ _ _ h.j hkc (fun z hz hm => by have := unhide hTB z hm; rw [List.mem_singleton] at hz; omega),h.b8.keep hkc (by simp; omega),h.m.keep hkc (by simp; omega),h.keep.of_new hkc (fun z hz => by rw [List.mem_singleton] at hz; right; omega),
        .cons (by omega) (unhide hD') (fun d hd e => by obtain ⟨D,e1,_,h3⟩ := h.marks.lt d hd; rw [e1] at e; have := (Array.getElem?_eq_some_iff.1 h3).1; injection e with e; omega) (h.marks.keep hkc fun D hD d hd e => by obtain ⟨D',e1,_,h3⟩ := h.marks.lt d hd; rw [e1] at e; injection e with e; rw [List.mem_singleton] at hD; have hq := unhide hB15; unfold Blk at hq; rw [e,hD,hq] at h3; cases h3),
        h.nb,fun D hD d hd e => by
         rcases List.mem_cons.1 hd with rfl | hd
         ·have := unhide hTB D hD
          injection e with e
          omega
         ·exact h.nd D hD d hd e,h.tin⟩
      have hIW' := hide hIW
      have hB12W := hide ((unhide hB12).keep hkc (by rw [List.mem_singleton]; omega))
      have hB13W := hide ((unhide hB13).keep hkc (by rw [List.mem_singleton]; omega))
      have hBcW := hide hBc
      have hownW := hide hownc
      have hkW := hide hkc
      clear hIW hBc hownc hkc hI' hD' hz5 hsw2 hbB2
      try dsimp only
      repeat (first | (with_reducible refine wp_reg (id := 20) ?_) | go_values | go_step | go_guarded | go_upon | go_in | go_back | fail)
      refine wpO_want rfl ?_
      go_simp
      refine wpO_val rfl (load_SetR (N := s) rfl rfl ((unhide hB13W).sub (stepC_set x s))) ?_
      refine wpO_want rfl ?_
      go_simp
      refine (all_any s W).mono ?_
      rintro e w73 ⟨rfl,rfl⟩
      refine ⟨_,rfl, ?_⟩
      refine wpO_done ?_
      try go_frame
      have hxa := ext_self1 W (.cells (setC s) 76)
      have hBs7 := hide (Blk.new W 76 (setC s))
      have hI7 := hide (show WkI E L J T0 w bm k T ({ target := .collected w15.heap.size,args := #[] } :: ds) (W.alloc (.cells (setC s) 76)) from
       have h := unhide hIW'
       ⟨(unhide hC').keep _ _ _ _ [] h.j (hxa.keep []) (by simp),h.b8.ext hxa,h.m.ext hxa,h.keep.trans (hxa.keep _),h.marks.keep (hxa.keep []) (by simp),h.nb,h.nd,h.tin⟩)
      have hB12W7 := hide ((unhide hB12W).ext hxa)
      have hB13W7 := hide ((unhide hB13W).ext hxa)
      have hBcW7 := hide ((unhide hBcW).ext hxa)
      have hownW7 := hide (own_ext (unhide hownW) hxa)
      have hk7 := hide ((unhide hkW).trans (hxa.keep _))
      have hTW7 := hide ((unhide hT').keep (unhide hI7).keep (unhide hT0'))
      have hz7 := hide (show B + 5 ≤ (W.alloc (.cells (setC s) 76)).heap.size by have := (unhide hkW).size; have := unhide hz15; rw [World.size_alloc]; omega)
      clear hxa hIW' hB12W hB13W hBcW hownW hkW
      generalize W.heap.size = b7 at *
      generalize W.alloc (.cells (setC s) 76) = W7 at *
      go_wp2_with fail
      refine wp_range (gf := 112) (lb := #[.pointer (some ⟨b7,0,none⟩)]) rfl (enters_of Tryz.func112 (by kernel_rfl) rfl) (ex := [0]) (by have := (unhide hTW7).lt; simp; omega)
       (all_iter s b7 W7 (unhide hBs7) (unhide hTW7)) (fun _ => rfl)
       (fun pre W' => MapIs ekV evS i64ok W' bm (pre.foldl (updF s x) M) ∧ Keep [bm] W7 W') (fun _ _ _ => False)
       (fun tm pre u a1 W' => (MapIs ekV evS i64ok W' bm (pre.foldl (updF s x) M) ∧ Keep [bm] W7 W') ∧ a1 = ⟨(tm.setIfInBounds 74 (.int .i64 u)).setIfInBounds 17 (.int .i64 u),[]⟩)
       (fun pre A1 A2 h hk => ⟨h.1.keep hk (by have := unhide hbB; have := unhide hz7; rw [mem_privs]; omega),h.2.of_new hk (fun z hz => by rw [mem_privs] at hz; right; omega)⟩) (fun _ _ _ _ h => h.elim)
       (fun pre u a1 A1 A2 h hk => ⟨⟨h.1.1.keep hk (by have := unhide hbB; have := unhide hz7; rw [mem_privs]; omega),h.1.2.of_new hk (fun z hz => by rw [mem_privs] at hz; right; omega)⟩,h.2⟩)
       ⟨by have := (unhide hI7).m; rw [unhide hMk'] at this; exact this,Keep.refl _ _⟩ ?_ ?_ ?_ (fun _ _ _ h => h.elim)
      ·intro pre u W' K hI3 hpre3 hsz3 hK3
       have hK3' := hide hK3
       clear hK3
       rw [zip1]
       simp only [List.setIfInBounds_toArray,List.set_cons_succ,List.set_cons_zero]
       try dsimp only
       repeat (first | (with_reducible refine wpI_reg (id := 21) (by kernel_rfl) ?_) | go_values | gi_step | gi_guarded | gi_upon | gi_in | gi_back | fail)
       refine wpO_want rfl ?_
       go_simp
       refine wpO_done ?_
       try go_frame
       exact unhide hK3' _ _ ⟨hI3,rfl⟩ (Same.refl _ _) (Nat.le_refl _)
      ·rintro pre u a1 W' ⟨⟨hM3,hk3⟩,rfl⟩ hpre3 hsz3 _
       simp only [List.setIfInBounds_toArray,List.set_cons_succ,List.set_cons_zero]
       have hbB2 := unhide hbB
       have hz72 := unhide hz7
       have hu0 : 0 ≤ u ∧ u < 1024 := by
        have hmem : u ∈ toL s := hpre3.subset (by simp)
        have := mem_toL'.1 hmem
        exact ⟨this.1,this.2.1⟩
       have q8 := ((unhide hI7).b8.keep hk3 (by simp)).cells 0 (v := .map (some bm)) rfl
       have q12 := ((unhide hB12W7).keep hk3 (by rw [List.mem_singleton]; omega)).cells 0 (v := .int .i64 x) rfl
       have hB13h := hide ((unhide hB13W7).keep hk3 (by rw [List.mem_singleton]; omega))
       generalize hMpre : pre.foldl (updF s x) M = Mp at *
       have lk := fun (W2 : World) (hW2 : Ext W' W2) => (hM3.ext hW2).lookup1 keV Tryz.underlying97 (zeroS W2) (okK hu0)
       rw [show (lookM Mp u).getD 0 = nrM Mp u from rfl] at lk
       have hM3h := hide hM3
       have hk3h := hide hk3
       have hu0h := hide (okK hu0)
       have hMpre' := hide hMpre
       have hsz3' := hide hsz3
       have hself := Ext.refl W'
       clear hM3 hk3 hu0 hMpre hsz3 hpre3 hbB2 hz72
       simp only [ekV] at lk
       gi_wp2_with fail
       refine wpI_region_ext (P := Tryz.prog) [0,1,2,3,4,5,6,7,8,9,10,11] [12] 1 #[true,true,true,true,true,true,true,true,true,true,true,true,false] (by kernel_rfl) (by kernel_rfl) (by kernel_rfl) rfl (by rfl) ?_
       iterate 6
        refine ql_want (v := ?_) rfl (by rfl) (fun W hW => ?_) ?_
        rotate_left
        ·go_simp
         first | done | rfl
        go_frame
       refine ql_want (v := .agg (setC s)) rfl (by rfl) (fun W2 hW2 => by rw [load_SetR rfl rfl (((unhide hB13h).ext hW2).sub (stepC_set x s))]; exact qUpon_value (Ext.refl _)) ?_
       go_frame
       iterate 5
        refine ql_want (v := ?_) rfl (by rfl) (fun W hW => ?_) ?_
        rotate_left
        ·go_simp
         first | done | rfl | ((go_at_call 127; refine (union_any _ _ _).mono ?_; rintro _ _ ⟨h1,h2⟩; refine ⟨_,h1, ?_,h2⟩; rfl)) | ((go_at_call 42; refine (without_S _ _ _).mono ?_; rintro _ _ ⟨h1,h2⟩; refine ⟨_,h1, ?_,h2⟩; rfl))
        go_frame
       refine wpQL_nil (fun w3 hx3 => ?_)
       obtain ⟨w4,hrun,hm4,hk4,hs4⟩ := ((unhide hM3h).ext hx3).update keV Tryz.underlying97 (unhide hu0h) (withoutS (withoutS (nrM Mp u ||| s) u) x)
       simp only [ekV,evS] at hrun
       refine lx_one (i := 12) (by kernel_rfl) rfl (by rfl) #[true,true,true,true,true,true,true,true,true,true,true,true,true] (by rfl) ?_
       go_simp
       intro w5 hx5
       refine wpX_done (by kernel_rfl) ?_
       try go_frame
       have hM5 := hide (show MapIs ekV evS i64ok w5 bm ((pre ++ [u]).foldl (updF s x) M) by
        rw [List.foldl_append,unhide hMpre']
        exact hm4.ext hx5)
       have hkw := hide (((hx3.keep [bm]).trans hk4).trans (hx5.keep _))
       clear hrun hm4 hk4 hs4 hx3 hx5 q8 q12 lk hself hM3h
       gi_wp2_with fail
       have hkk := unhide hkw
       have h7 := unhide hz7
       have h8 := unhide hbB
       have h9 := unhide hsz3'
       refine ⟨hkk.size,Same.of_keep hkk fun z hz => ?_,unhide hM5,(unhide hk3h).trans hkk⟩
       rw [List.mem_singleton]
       rcases List.mem_append.1 hz with hz | hz
       ·rw [mem_privs] at hz; omega
       ·have := (unhide hT').lt
        have := unhide hs1
        have := (unhide hTW7).lt
        rw [List.mem_singleton] at hz
        omega
      ·intro W' hI3 hD3
       obtain ⟨hM3,hk3⟩ := hI3
       have hbB2 := unhide hbB
       have hz72 := unhide hz7
       have hMn : (toL s).foldl (updF s x) M = mAt E L (k + 1) := by
        rw [mAt_next E L k hlt,unhide hMk', ← unhide hxe']
        unfold stM updM
        have h1 : nrM M x = s := by rw [unhide hs',unhide hsE']
        rw [h1]
       rw [hMn] at hM3
       have hJ' := hide ((unhide hC').keep _ _ _ _ _ (unhide hI7).j hk3 (fun z hz hm => (unhide hI7).nb.1 (by rw [List.mem_singleton] at hz; rw [← hz]; exact hm)))
       have hB8' := hide ((unhide hI7).b8.keep hk3 (by simp))
       have hkeep' := hide ((unhide hI7).keep.of_new hk3 (fun z hz => by rw [List.mem_singleton] at hz; have := unhide hs1; right; omega))
       have hM3' := hide hM3
       have hB13' := hide ((unhide hB13W7).keep hk3 (by rw [List.mem_singleton]; omega))
       have hBc' := hide ((unhide hBcW7).keep hk3 (by rw [List.mem_singleton]; omega))
       have hown' := hide (own_keep (unhide hownW7) hk3 (fun gg hgg e => by rw [List.mem_singleton] at hgg; have := (own_base (unhide hownW7) e).1; omega))
       have hk3' := hide hk3
       have hD3' := hide hD3
       clear hM3 hk3 hD3 hMn hbB2 hz72
       try dsimp only
       repeat (first | (with_reducible refine wp_reg (id := 23) ?_) | go_values | go_step | go_guarded | go_upon | go_in | go_back | fail)
       iterate 2
        refine wpO_want rfl ?_
        go_simp
       refine wpO_val rfl (run_load_agg (T := 128) (cs := stepC x s) rfl rfl (by simp [go_sem]) (by simp [go_sem]; rfl) (unhide hB13').whole) ?_
       obtain ⟨Ac,cc,rfl⟩ := own_slice (unhide hown')
       have hcc := (unhide hBc').cells 0 (v := .slice Ac ((toL s).flatMap (comeU M s)).length cc) rfl
       have hen := (unhide hC').enters
       obtain ⟨nc,hnc⟩ : ∃ nc,nc = ((toL s).flatMap (comeU M s)).length := ⟨_,rfl⟩
       rw [← hnc] at hcc
       have hnc' := hide hnc
       clear hnc
       have hself := Ext.refl W'
       refine wpO_want rfl ?_
       go_simp
       refine wpO_want rfl ?_
       go_simp
       have hcAt : cAt E L k = (toL s).flatMap (comeU M s) := by
        unfold cAt comeS
        rw [unhide hMk', ← unhide hs']
       have hstep := (unhide hC').step k hlt T W' Ac cc (unhide hJ') ((unhide hT').keep (unhide hkeep') (unhide hT0')) (by rw [hcAt]; exact own_at (unhide hown') (fun _ => rfl)) (fun b' off' e hm => by
        subst e
        have h1 := unhide hTB b' hm
        have h2 : B + 7 ≤ b' := (own_base (unhide hown') rfl).1
        omega)
       rw [← unhide hxe', ← unhide hs',hcAt, ← unhide hnc'] at hstep
       refine hstep.mono ?_
       rintro e W9 ⟨⟨v9,rfl⟩,T',hJ9,hk9,hT9⟩
       refine ⟨v9,rfl, ?_⟩
       refine wpO_done ?_
       have hTB9 := unhide hTB
       have hI9 : WkI E L J T0 w bm (k + 1) T' ({ target := .collected W7.heap.size,args := #[] } :: { target := .collected w15.heap.size,args := #[] } :: ds) W9 := by
        have h7 := unhide hI7
        have hk37 := unhide hk3'
        have hDk : ∀ D ∈ T, ∀ d ∈ ({ target := .collected w15.heap.size,args := #[] } :: ds : List Deferred),d.target ≠ .collected D := h7.nd
        have hz15' := unhide hz15
        have hz7' := unhide hz7
        have hsw' := unhide hsw
        have hbB' := unhide hbB
        have hm2 : Marks w.heap.size ({ target := .collected w15.heap.size,args := #[] } :: ds) W' := h7.marks.keep hk37 (fun D hD d hd e => by
         rw [List.mem_singleton] at hD
         obtain ⟨D',e1,_,h3⟩ := h7.marks.lt d hd
         rw [e1] at e
         injection e with e
         obtain ⟨es,cl,hmm,_⟩ := h7.m
         rw [e,hD,hmm] at h3
         cases h3)
        have hm1 : Marks w.heap.size ({ target := .collected W7.heap.size,args := #[] } :: { target := .collected w15.heap.size,args := #[] } :: ds) W' := .cons (by omega) (unhide hD3') (fun d hd e => by
         obtain ⟨D',e1,_,h3⟩ := h7.marks.lt d hd
         rw [e1] at e
         injection e with e
         have := (Array.getElem?_eq_some_iff.1 h3).1
         omega) hm2
        have hnd : ∀ D ∈ T, ∀ d ∈ ({ target := .collected W7.heap.size,args := #[] } :: { target := .collected w15.heap.size,args := #[] } :: ds : List Deferred),d.target ≠ .collected D := fun D hD d hd e => by
         rcases List.mem_cons.1 hd with rfl | hd
         ·have := hTB9 D hD
          injection e with e
          omega
         ·exact hDk D hD d hd e
        have hWs : W7.heap.size < W'.heap.size := (Array.getElem?_eq_some_iff.1 (unhide hD3')).1
        have hks := hk37.size
        refine ⟨hJ9,(unhide hB8').keep hk9 h7.nb.2,(unhide hM3').keep hk9 h7.nb.1, ?_,hm1.keep hk9 (fun D hD d hd => hnd D hD d hd),⟨fun hm => ?_,fun hm => ?_⟩,fun D hD d hd e => ?_,fun z hz => ?_⟩
        ·exact (unhide hkeep').of_new hk9 h7.tin
        ·rcases hT9 _ hm with h | h
         ·exact h7.nb.1 h
         ·omega
        ·rcases hT9 _ hm with h | h
         ·exact h7.nb.2 h
         ·omega
        ·rcases hT9 _ hD with h | h
         ·exact hnd D h d hd e
         ·obtain ⟨D',e1,_,h3⟩ := hm1.lt d hd
          rw [e1] at e
          injection e with e
          have := (Array.getElem?_eq_some_iff.1 h3).1
          omega
        ·rcases hT9 _ hz with h | h
         ·exact h7.tin z h
         ·right; omega
       have hI9' := hide hI9
       clear hI9 hJ9 hk9 hT9 hstep hcAt hTB9
       go_wp2_with fail
       refine ⟨⟨k + 1,T',rfl,rfl,rfl,rfl,rfl,rfl,by simp,by omega,unhide hI9'⟩, ?_⟩
       have h39 := hms
       simp [intOf] at h39 ⊢
       omega
    ·have hke : k = L.length := by omega
     subst hke
     clear hI
     go_wp2_with fail
     refine leaves_marks (B := w.heap.size) ds wr (unhide hI').marks ?_
     rintro w' ⟨S,hS,hkS⟩
     refine ⟨_,results_tmp rfl _ _ _,rfl,T, ?_, ?_,(unhide hI').tin⟩
     ·exact (unhide hC').keep _ _ _ _ _ (unhide hI').j hkS (fun z hz hm => by
       obtain ⟨d,hd,e⟩ := hS z hz
       exact (unhide hI').nd z hm d hd e)
     ·exact (unhide hI').keep.of_new hkS (fun z hz => by
       obtain ⟨d,hd,e⟩ := hS z hz
       obtain ⟨D,e1,h2,_⟩ := (unhide hI').marks.lt d hd
       rw [e1] at e
       injection e with e
       right; omega)
end Go.Proofs.YtoacpebmhbkmbaaGreatDoor
