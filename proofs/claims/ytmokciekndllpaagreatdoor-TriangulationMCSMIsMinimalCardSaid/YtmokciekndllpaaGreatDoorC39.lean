/- Parts of a proof, laid together. Each part says its own conditions. -/
import Derived.Test.YtmokciekndllpaaGreatDoorC32
import Derived.Test.YtmokciekndllpaaGreatDoorC25
import Derived.Test.YtmokciekndllpaaGreatDoorC13
import Derived.Shelf.SlMaps.Clone
import Derived.Test.YtmokciekndllpaaGreatDoorC38
namespace Go.Proofs.YtmokciekndllpaaGreatDoor
open Go Go.RowKit Go.Shelf
section
variable {V : List (Int × Thing)} {E : List ((Int × Int) × Thing)}
def addD (p : Int × Int) : Ed := (2,(p.1,(p.2,(0,0))))
structure FillOk (V : List (Int × Thing)) (E : List ((Int × Int) × Thing)) (l : List (Int × Int)) : Prop where
 nd : l.Nodup
 ok : ∀ p ∈ l,p.1 < p.2 ∧ p.1 ∈ V.map (·.1) ∧ p.2 ∈ V.map (·.1) ∧ hasE p.1 p.2 E = false
 len : E.length + l.length ≤ 1024
def fillG (V : List (Int × Thing)) (E : List ((Int × Int) × Thing)) (l : List (Int × Int)) : GS := (l.map addD).foldl stD (V,E)
theorem add_ok (hi : GInv V E) {u v : Int} (hu : u ∈ V.map (·.1)) (hv : v ∈ V.map (·.1)) (hlt : u < v) (hno : hasE u v E = false) (hl : E.length < 1024) : wrongR 2 u v 0 V E = 0 := by
 have h1 : ∀ x,x ∈ V.map (·.1) → idB x = true := fun x hx => by
  obtain ⟨p,hp,rfl⟩ := List.mem_map.1 hx
  exact hi.ids p hp
 have hne : (u == v) = false := by rw [beq_eq_false_iff_ne]; omega
 have hl2 : ¬ 1024 ≤ E.length := by omega
 unfold wrongR w1B w2B w3B pairsB weighsB heavyB
 rw [h1 u hu,h1 v hv,hasV_iff.2 hu,hasV_iff.2 hv,hno,hne]
 simp [hl2]
theorem insF_len {α : Type} (gt : α → Bool) (x : α) (l : List α) : (insF gt x l).length = l.length + 1 := by
 rw [insF_eq]
 induction l with
 | nil => rfl
 | cons y l ih =>
  unfold insP
  split
  ·rfl
  ·simp only [List.length_cons,ih]
theorem add_E {u v : Int} (hlt : u < v) : refE 2 u v 0 0 E = insF (gtE ((u,v),(0,0))) ((u,v),(0,0)) E := by
 unfold refE
 rw [if_neg (by decide),if_pos rfl,Int.min_eq_left (by omega),Int.max_eq_right (by omega)]
theorem add_V {u lab wt : Int} : refV 2 u lab wt V = V := by
 unfold refV
 rw [if_neg (by decide),if_pos rfl]
theorem fillG_snoc (l : List (Int × Int)) (p : Int × Int) : fillG V E (l ++ [p]) = stD (fillG V E l) (addD p) := by
 unfold fillG
 rw [List.map_append,List.foldl_append]
 rfl
theorem fillG_inv (hi : GInv V E) (l : List (Int × Int)) : GInv (fillG V E l).1 (fillG V E l).2 := fold_inv _ _ hi
theorem fillG_at (hi : GInv V E) {l : List (Int × Int)} (h : FillOk V E l) : ∀ i,i ≤ l.length → (fillG V E (l.take i)).1 = V ∧ (∀ u v,hasE u v (fillG V E (l.take i)).2 = true ↔ hasE u v E = true ∨ (min u v,max u v) ∈ l.take i) ∧ (fillG V E (l.take i)).2.length = E.length + i
 | 0,_ => ⟨rfl,fun u v => by simp [fillG],rfl⟩
 | i + 1,hl => by
  obtain ⟨h1,h2,h3⟩ := fillG_at hi h i (by omega)
  have hiv := fillG_inv hi (l.take i)
  have hil : i < l.length := hl
  rw [List.take_succ_eq_append_getElem hil,fillG_snoc]
  obtain ⟨hlt,hu,hv,hno⟩ := h.ok _ (List.getElem_mem hil)
  have hni : l[i] ∉ l.take i := fun hm => by
   obtain ⟨j,hj,e⟩ := List.mem_take_iff_getElem.1 hm
   have := (List.getElem_inj h.nd).1 e
   omega
  generalize l[i] = p at *
  obtain ⟨u,v⟩ := p
  dsimp only at hlt hu hv hno
  generalize hS : fillG V E (l.take i) = S at *
  obtain ⟨V',E'⟩ := S
  dsimp only at h1 h2 h3 hiv
  subst h1
  have hno2 : hasE u v E' = false := by
   rw [Bool.eq_false_iff]
   intro h9
   rcases (h2 u v).1 h9 with h9 | h9
   ·rw [hno] at h9; cases h9
   ·rw [Int.min_eq_left (by omega),Int.max_eq_right (by omega)] at h9
    exact hni h9
  have hlen := h.len
  have hw := add_ok hiv hu hv hlt hno2 (by omega)
  have hst : stD (V',E') (addD (u,v)) = (V',refE 2 u v 0 0 E') := by
   have h9 := stD_ok (lab := 0) hw
   rw [add_V] at h9
   exact h9
  rw [hst]
  dsimp only
  have hiv2 : GInv V' (refE 2 u v 0 0 E') := by
   have h9 := fold_inv [addD (u,v)] (V',E') hiv
   rw [List.foldl_cons,List.foldl_nil,hst] at h9
   exact h9
  refine ⟨rfl,fun a b => ?_, ?_⟩
  ·rw [hasE_iff hiv2.lo,add_E hlt,List.mem_append,List.mem_singleton, ← or_assoc, ← h2,hasE_iff hiv.lo]
   simp only [List.mem_map,mem_insF]
   constructor
   ·rintro ⟨x,h9 | rfl,h8⟩
    ·exact .inl ⟨x,h9,h8⟩
    ·exact .inr h8.symm
   ·rintro (⟨x,h9,h8⟩ | h8)
    ·exact ⟨x, .inl h9,h8⟩
    ·exact ⟨_, .inr rfl,h8.symm⟩
  ·rw [add_E hlt,insF_len,h3]
   omega
theorem fillG_ok (hi : GInv V E) {l : List (Int × Int)} (h : FillOk V E l) {i : Nat} (hil : i < l.length) : wrongR 2 l[i].1 l[i].2 0 (fillG V E (l.take i)).1 (fillG V E (l.take i)).2 = 0 := by
 obtain ⟨h1,h2,h3⟩ := fillG_at hi h i (by omega)
 have hiv := fillG_inv hi (l.take i)
 obtain ⟨hlt,hu,hv,hno⟩ := h.ok _ (List.getElem_mem hil)
 have hlen := h.len
 refine add_ok hiv (by rw [h1]; exact hu) (by rw [h1]; exact hv) hlt ?_ (by omega)
 rw [Bool.eq_false_iff]
 intro h9
 rcases (h2 _ _).1 h9 with h9 | h9
 ·rw [hno] at h9; cases h9
 ·rw [Int.min_eq_left (by omega),Int.max_eq_right (by omega)] at h9
  obtain ⟨j,hj,e⟩ := List.mem_take_iff_getElem.1 h9
  have e2 : l[j] = l[i] := e
  have := (List.getElem_inj h.nd).1 e2
  omega
theorem pairs_len : ∀ (l : List (Int × Int)) (I : List Int),l.Nodup → (∀ p ∈ l,p.1 ∈ I ∧ p.2 ∈ I) → l.length ≤ I.length * I.length := fun l I hn hs => by
 have key : ∀ (l m : List (Int × Int)),l.Nodup → (∀ x ∈ l,x ∈ m) → l.length ≤ m.length := by
  intro l
  induction l with
  | nil => intro m _ _; exact Nat.zero_le _
  | cons a l ih =>
   intro m hn hs
   obtain ⟨h1,h2⟩ := List.nodup_cons.1 hn
   have ha : a ∈ m := hs a (by simp)
   have h3 := ih (m.erase a) h2 fun x hx => (List.mem_erase_of_ne (fun e => h1 (by rw [← e]; exact hx))).2 (hs x (by simp [hx]))
   rw [List.length_erase_of_mem ha] at h3
   have : 0 < m.length := List.length_pos_of_mem ha
   simp only [List.length_cons]
   omega
 have h1 := key l (I.flatMap fun a => I.map fun b => (a,b)) hn fun p hp => by
  obtain ⟨h1,h2⟩ := hs p hp
  exact List.mem_flatMap.2 ⟨p.1,h1,List.mem_map.2 ⟨p.2,h2,rfl⟩⟩
 refine Nat.le_trans h1 ?_
 rw [List.length_flatMap]
 have h2 : (I.map fun a => (I.map fun b => (a,b)).length) = List.replicate I.length I.length := by
  simp [List.map_const']
 rw [h2]
 simp
set_option linter.constructorNameAsVariable false in
set_option maxRecDepth 100000 in
theorem msFill_ok (hi : GInv V E) (hV : V.length ≤ 9) : FillOk V E (msFill V E) := by
 obtain ⟨l,hl⟩ : ∃ l,l = msRun V E := ⟨_,rfl⟩
 have hp := fillS_perm (fillL E l)
 have hn := fillL_nodup hi l hl
 have hm : msFill V E = fillS (fillL E l) := by unfold msFill; rw [hl]
 rw [hm]
 have hok : ∀ p ∈ fillS (fillL E l),p.1 < p.2 ∧ p.1 ∈ V.map (·.1) ∧ p.2 ∈ V.map (·.1) ∧ hasE p.1 p.2 E = false := fun p hpm => by
  obtain ⟨h1,h2,h3⟩ := (mem_fillL hi l hl).1 (hp.mem_iff.1 hpm)
  have hord := ms_ord hi
  obtain ⟨h4,h5⟩ := h2.mem hi hord
  refine ⟨h1,(hord.mem _).1 h4,(hord.mem _).1 h5, ?_⟩
  rw [Bool.eq_false_iff]
  intro h9
  obtain ⟨e,he,h8⟩ := List.mem_map.1 ((hasE_iff hi.lo).1 h9)
  exact h3 ⟨e,he,h8⟩
 have hnd := hp.nodup_iff.2 hn
 refine ⟨hnd,hok, ?_⟩
 have h1 := pairs_len (E.map (·.1) ++ fillS (fillL E l)) (V.map (·.1)) (List.nodup_append.2 ⟨se_nodup hi.se,hnd,fun a ha b hb e => ?_⟩) fun p hp => ?_
 ·rw [List.length_append,List.length_map,List.length_map] at h1
  have h2 : V.length * V.length ≤ 9 * 9 := Nat.mul_le_mul hV hV
  omega
 ·subst e
  obtain ⟨e,he,rfl⟩ := List.mem_map.1 ha
  have h9 := (hok _ hb).2.2.2
  have hlo := hi.lo e he
  rw [Bool.eq_false_iff] at h9
  exact h9 ((hasE_iff hi.lo).2 (List.mem_map.2 ⟨e,he,by rw [Int.min_eq_left (by omega),Int.max_eq_right (by omega)]⟩))
 ·rcases List.mem_append.1 hp with hp | hp
  ·obtain ⟨e,he,rfl⟩ := List.mem_map.1 hp
   obtain ⟨⟨t1,h1⟩,⟨t2,h2⟩⟩ := hi.ends e he
   exact ⟨List.mem_map.2 ⟨_,h1,rfl⟩,List.mem_map.2 ⟨_,h2,rfl⟩⟩
  ·exact ⟨(hok p hp).2.1,(hok p hp).2.2.1⟩
end
end Go.Proofs.YtmokciekndllpaaGreatDoor
namespace Go.Proofs.YtmokciekndllpaaGreatDoor
open Go Go.RowKit
attribute [local go_sem] qUpon lUpon
set_option maxRecDepth 100000 in
set_option maxHeartbeats 2000000 in
theorem mcloneV_any (b : Nat) (M : List (Int × Thing)) (w : World) (h : MapIs ekV evT i64ok w b M) :
  Calls Tryz.prog 120 #[.map (some b)] w fun e w' => ∃ c,e = .returned (.map (some c)) ∧ MapIs ekV evT i64ok w' c M ∧ Ext w w' ∧ w.heap.size ≤ c := by
 obtain ⟨es,clock,hb,hs,hm,hk⟩ := h
 have hq := fun w => run_eql_map_nil_sl (P := Tryz.prog) w 154 _ _ (some b) Tryz.underlying154
 have hmm := hide (And.intro hs (And.intro hm hk))
 clear hs hm hk
 go_enter Tryz.func120,Tryz.ntmps120
 go_wp2_with fail
 rw [run_callFunc_extern Tryz.func169 (by kernel_rfl) (by kernel_rfl) (by kernel_rfl) (e := Extern.MapsClone.clone) (by kernel_rfl),run_maps_clone_sl w 154 hb]
 simp only [Result.andThen]
 rw [Oper.upon_value]
 go_wp2_with fail
 rw [run_typeAssert_map_sl _ 154 20 _ _ _ Tryz.underlying154]
 simp only [Result.andThen]
 rw [Oper.upon_value]
 go_wp2_with fail
 go_ret
 obtain ⟨hs,hm,hk⟩ := unhide hmm
 exact ⟨w.heap.size,rfl,⟨es,clock,(MapKept.heap_alloc w _).1,hs,hm,hk⟩,ext_self1 _ _,Nat.le_refl _⟩
set_option maxRecDepth 100000 in
set_option maxHeartbeats 2000000 in
theorem mcloneE_any (b : Nat) (M : List ((Int × Int) × Thing)) (w : World) (h : MapIs ekE evT okE w b M) :
  Calls Tryz.prog 121 #[.map (some b)] w fun e w' => ∃ c,e = .returned (.map (some c)) ∧ MapIs ekE evT okE w' c M ∧ Ext w w' ∧ w.heap.size ≤ c := by
 obtain ⟨es,clock,hb,hs,hm,hk⟩ := h
 have hq := fun w => run_eql_map_nil_sl (P := Tryz.prog) w 155 _ _ (some b) Tryz.underlying155
 have hmm := hide (And.intro hs (And.intro hm hk))
 clear hs hm hk
 go_enter Tryz.func121,Tryz.ntmps121
 go_wp2_with fail
 rw [run_callFunc_extern Tryz.func169 (by kernel_rfl) (by kernel_rfl) (by kernel_rfl) (e := Extern.MapsClone.clone) (by kernel_rfl),run_maps_clone_sl w 155 hb]
 simp only [Result.andThen]
 rw [Oper.upon_value]
 go_wp2_with fail
 rw [run_typeAssert_map_sl _ 155 20 _ _ _ Tryz.underlying155]
 simp only [Result.andThen]
 rw [Oper.upon_value]
 go_wp2_with fail
 go_ret
 obtain ⟨hs,hm,hk⟩ := unhide hmm
 exact ⟨w.heap.size,rfl,⟨es,clock,(MapKept.heap_alloc w _).1,hs,hm,hk⟩,ext_self1 _ _,Nat.le_refl _⟩
set_option maxRecDepth 100000 in
set_option maxHeartbeats 4000000 in
theorem clone_any (g bv be : Nat) (V : List (Int × Thing)) (E : List ((Int × Int) × Thing)) (w : World) (hg : IsG w g bv be V E) :
  Calls Tryz.prog 75 #[.pointer (some ⟨g,0,none⟩)] w fun e w' => ∃ o ov oe,e = .returned (.pointer (some ⟨o,0,none⟩)) ∧ IsG w' o ov oe V E ∧ Ext w w' ∧ w.heap.size ≤ o ∧ w.heap.size ≤ ov ∧ w.heap.size ≤ oe := by
 obtain ⟨V',E',h1,p1,p2,hi⟩ := hg
 have c0 := h1.ptr0
 have c1 := h1.ptr1
 have m1 := hide h1.vs
 have m2 := hide h1.es
 have hp := hide (And.intro p1 (And.intro p2 hi))
 clear h1 p1 p2 hi
 go_enter Tryz.func75,Tryz.ntmps75
 go_wp2_with fail
 refine wp_region_ext (P := Tryz.prog) [0,1,2,3,5,6,7,8] [] 5 #[true,true,true,true,false,true,true,true,true,false,false,false,false] (by kernel_rfl) (by kernel_rfl) rfl (by rfl) ?_
 iterate 8
  refine ql_want (v := ?_) rfl (by rfl) (fun W hW => ?_) ?_
  rotate_left
  ·go_simp
   first | done | rfl
  go_frame
 refine wpQL_nil (fun w1 hx1 => ?_)
 clear c0 c1
 refine lx_one (i := 4) (by kernel_rfl) rfl (by rfl) #[true,true,true,true,true,true,true,true,true,false,false,false,false] (by rfl) ?_
 go_simp
 refine (mcloneV_any bv V' _ ((unhide m1).ext hx1)).mono ?_
 rintro e w2 ⟨ov,rfl,hm2,hx2,n2⟩
 refine ⟨_,rfl,hx1.trans hx2,fun w3 hx3 => ?_⟩
 refine lx_one (i := 9) (by kernel_rfl) rfl (by rfl) #[true,true,true,true,true,true,true,true,true,true,false,false,false] (by rfl) ?_
 go_simp
 refine (mcloneE_any be E' _ ((unhide m2).ext ((hx1.trans hx2).trans hx3))).mono ?_
 rintro e w4 ⟨oe,rfl,hm4,hx4,n4⟩
 have hx14 := ((hx1.trans hx2).trans hx3).trans hx4
 refine ⟨_,rfl,hx14,fun w5 hx5 => ?_⟩
 have hne : ov ≠ oe := by
  have := hm2.lt
  have := Below.size hx3
  omega
 have s1 := Below.size hx1
 have s2 := Below.size ((hx1.trans hx2).trans hx3)
 have hv5 := (hm2.ext (hx3.trans hx4)).ext hx5
 have he5 := hm4.ext hx5
 have hx15 := hx14.trans hx5
 clear hx1 hx2 hx3 hx4 hx5 hx14 hm2 hm4
 refine lx_one (i := 10) (by kernel_rfl) rfl (by rfl) #[true,true,true,true,true,true,true,true,true,true,true,false,false] (by rfl) ?_
 go_simp
 intro w6 hx6
 refine lx_one (i := 11) (by kernel_rfl) rfl (by rfl) #[true,true,true,true,true,true,true,true,true,true,true,true,false] (by rfl) ?_
 go_simp
 have hb7 := Blk.new w6 157 #[.map (some ov), .map (some oe)]
 have hx67 := ext_self1 w6 (.cells #[.map (some ov), .map (some oe)] 157)
 have s3 := Below.size (hx15.trans hx6)
 have hx17 := (hx15.trans hx6).trans hx67
 have hv7 := (hv5.ext hx6).ext hx67
 have he7 := (he5.ext hx6).ext hx67
 generalize w6.heap.size = o at *
 generalize w6.alloc (.cells #[.map (some ov), .map (some oe)] 157) = w7 at *
 first | refine ⟨(by assumption), ?_⟩ | skip
 intro w8 hx8
 refine lx_one (i := 12) (by kernel_rfl) rfl (by rfl) #[true,true,true,true,true,true,true,true,true,true,true,true,true] (by rfl) ?_
 go_simp
 first | refine ⟨hx17.trans hx8, ?_⟩ | skip
 intro w9 hx9
 have hx19 := (hx17.trans hx8).trans hx9
 have hv9 := (hv7.ext hx8).ext hx9
 have he9 := (he7.ext hx8).ext hx9
 have hb9 := (hb7.ext hx8).ext hx9
 have hfin := hide (And.intro hx19 (And.intro hv9 (And.intro he9 hb9)))
 have hsz := hide (And.intro s1 (And.intro s2 s3))
 clear hx19 hv9 he9 hb9 hx17 hx8 hx9 hv7 he7 hb7 hx67 hx6 hv5 he5 hx15 s1 s2 s3
 refine wpX_done (by kernel_rfl) ?_
 try go_frame
 go_wp2_with fail
 go_ret
 obtain ⟨hx19,hv9,he9,hb9⟩ := unhide hfin
 obtain ⟨p1,p2,hi⟩ := unhide hp
 obtain ⟨s1,s2,s3⟩ := unhide hsz
 exact ⟨o,ov,oe,rfl,⟨V',E',⟨hb9,hv9,he9,hne⟩,p1,p2,hi⟩,hx19,by omega,by omega,by omega⟩
end Go.Proofs.YtmokciekndllpaaGreatDoor
namespace Go.Proofs.YtmokciekndllpaaGreatDoor
open Go Go.RowKit Go.Shelf
attribute [local go_sem] qUpon lUpon
attribute [local irreducible] wpO wpX wpQL
theorem ext_turnZ {w W W' : World} {bv be : Nat} (hx : Ext w W) (hk : Keep [bv,be] W W') (hb : w.heap.size ≤ bv ∧ w.heap.size ≤ be) : Ext w W' := hx.of_new hk fun x hx => by
 rcases List.mem_cons.1 hx with rfl | hx
 ·exact hb.1
 ·rw [List.mem_singleton] at hx
  subst hx
  exact hb.2
def FdPost (V : List (Int × Thing)) (E : List ((Int × Int) × Thing)) (w : World) (e : Ending) (w' : World) : Prop := ∃ g bv be,e = .returned (.pointer (some ⟨g,0,none⟩)) ∧ IsG w' g bv be (fillG V E (msFill V E)).1 (fillG V E (msFill V E)).2 ∧ Ext w w' ∧ w.heap.size ≤ g ∧ w.heap.size ≤ bv ∧ w.heap.size ≤ be
theorem slPair {w : World} {A : Option Addr} {S : List Nat} {l : List (Int × Int)} (h : SlAt encE 4 w A (l.map edgeP)) (hS : ∀ b o,A = some ⟨b,o,none⟩ → b ∉ S) {i : Nat} (hi : i < l.length) : ∃ b off,A = some ⟨b,off,none⟩ ∧ (∀ W,Keep S w W → W.cell? ⟨b,off + i * 4,none⟩ = some (.int .i64 l[i].1)) ∧ ∀ W,Keep S w W → W.cell? ⟨b,off + i * 4 + 1,none⟩ = some (.int .i64 l[i].2) := by
 have hi2 : i < (l.map edgeP).length := by rw [List.length_map]; exact hi
 obtain ⟨b,off,rfl,hlt,hc⟩ := h (List.ne_nil_of_length_pos (by omega))
 have hx : (l.map edgeP)[i]? = some (edgeP l[i]) := by rw [List.getElem?_eq_getElem hi2,List.getElem_map]
 refine ⟨b,off,rfl,fun W hW => ?_,fun W hW => ?_⟩
 ·rw [World.cell?_of_block (hW.block b hlt (hS b off rfl))]
  exact hc i _ hx 0 _ rfl
 ·rw [World.cell?_of_block (hW.block b hlt (hS b off rfl))]
  exact hc i _ hx 1 _ rfl
set_option maxRecDepth 100000 in
set_option maxHeartbeats 16000000 in
theorem filled_any (g bv be : Nat) (V : List (Int × Thing)) (E : List ((Int × Int) × Thing)) (w : World) (hg : IsG w g bv be V E) (hT : Tab w) (hV : V.length ≤ 9) :
  Calls Tryz.prog 29 #[.pointer (some ⟨g,0,none⟩)] w (FdPost V E w) := by
 have hi := hg.inv
 have hgl := hide (GL.of hg)
 have hg' := hide hg
 have hT' := hide hT
 have hi' := hide hi
 have hfo := hide (msFill_ok hi hV)
 unfold FdPost
 obtain ⟨l,hl0⟩ : ∃ l,l = msFill V E := ⟨_,rfl⟩
 rw [← hl0] at hfo ⊢
 have hl := hide hl0
 have hln := hide (show l.length ≤ 1024 by have := (unhide hfo).len; omega)
 clear hg hT hi hV hl0
 have hP := hide (Sp.new w)
 refine callsIn_wide.1 (callsIn_of_wp_marks (n := 0) Tryz.func29 rfl trivial (wpIn_wide.2 ?_))
 simp only [Tryz.ntmps29,List.size_toArray,List.length_cons,List.length_nil,Nat.reduceAdd,Nat.reduceSub,Array.replicate_succ,Array.replicate_zero,List.push_toArray,List.append_toArray,List.nil_append,List.cons_append]
 try dsimp only
 repeat ((fail_if_success (with_reducible refine wp_reg (id := 0) ?_)); (first | go_values | go_skip | go_step | go_guarded | go_upon | go_in | go_back | fail))
 with_reducible refine wp_reg (id := 0) ?_
 refine wpO_want rfl ?_
 go_simp
 refine wpO_done ?_
 try go_frame
 try dsimp only
 repeat ((fail_if_success (with_reducible refine wp_reg (id := 1) ?_)); (first | go_values | go_skip | go_step | go_guarded | go_upon | go_in | go_back | fail))
 with_reducible refine wp_reg (id := 1) ?_
 refine wpO_want rfl ?_
 go_simp
 refine wpO_want rfl ?_
 go_simp
 refine (clone_any g bv be V E w ((unhide hg').ext (unhide hP).extf)).mono ?_
 rintro _ y1 ⟨f,fv,fe,rfl,hf0,hxc,n1,n2,n3⟩
 refine ⟨_,rfl, ?_⟩
 have hsz := (unhide hP).keep.size
 have hb := hide (show w.heap.size ≤ f ∧ w.heap.size ≤ fv ∧ w.heap.size ≤ fe by omega)
 replace hP : Hid (Sp w [] w [] [] [] y1) := hide ((unhide hP).ext hxc)
 have hf := hide hf0
 clear hxc hf0 n1 n2 n3 hsz
 refine wpO_want rfl ?_
 go_simp
 refine wpO_done ?_
 try go_frame
 try dsimp only
 repeat ((fail_if_success (with_reducible refine wp_reg (id := 2) ?_)); (first | go_values | go_skip | go_step | go_guarded | go_upon | go_in | go_back | fail))
 with_reducible refine wp_reg (id := 2) ?_
 refine wpO_want rfl ?_
 go_simp
 refine wpO_want rfl ?_
 go_simp
 have hca := fillin_any (some ⟨g,0,none⟩) V E y1 (unhide hi') ((unhide hgl).ext (unhide hP).extf) ((unhide hT').ext (unhide hP).extf)
 unfold FIPost at hca
 rw [← unhide hl] at hca
 refine hca.mono ?_
 clear hca
 rintro _ y2 ⟨Aa,n,c,rfl,hn0,ho,hxc⟩
 have hlt := (unhide hf).lt
 have hne := hide (show ∀ b o,Aa = some ⟨b,o,none⟩ → b ∉ [fv,fe] from fun b o e hm => by
  have h1 := (own_base ho (g := b) (by rw [e]; rfl)).1
  simp only [List.mem_cons,List.not_mem_nil,or_false] at hm
  omega)
 rw [hn0] at ho
 have hsl := hide (show SlAt encE 4 y2 Aa (l.map edgeP) from own_at (enc := encE) (xs := l.map edgeP) (by rw [List.length_map]; exact ho) (fun _ => rfl))
 have hn := hide hn0
 replace hP : Hid (Sp w [] w [] [] [] y2) := hide ((unhide hP).ext hxc)
 replace hf := hide ((unhide hf).ext hxc)
 clear hxc hlt ho hn0
 refine ⟨_,rfl, ?_⟩
 try go_frame
 refine wpO_want rfl ?_
 go_simp
 refine wpO_done ?_
 try go_frame
 try dsimp only
 repeat ((fail_if_success (with_reducible refine wp_reg (id := 3) ?_)); (first | go_values | go_skip | go_step | go_guarded | go_upon | go_in | go_back | fail))
 with_reducible refine wp_reg (id := 3) ?_
 refine wpO_want rfl ?_
 go_simp
 refine wpO_done ?_
 try go_frame
 go_wp2_with fail
 obtain ⟨I2_2,hI2_20⟩ : ∃ I : Nat → Act → World → Prop,I = fun fi a' wr => ∃ (i : Nat),a'.tmps.size = 31 ∧ a'.tmps.getD 3 undef = .pointer (some ⟨f,0,none⟩) ∧ a'.tmps.getD 4 undef = .slice Aa n c ∧ a'.tmps.getD 5 undef = .int .i64 (i : Nat) ∧ a'.defers = [] ∧ i ≤ n ∧ IsG wr f fv fe (fillG V E (l.take i)).1 (fillG V E (l.take i)).2 ∧ SlAt encE 4 wr Aa (l.map edgeP) ∧ Sp w [] w [] [] [] wr ∧ fi = n - i := ⟨_,rfl⟩
 have hI2_2 := hide hI2_20
 clear hI2_20
 refine wp_loop_ix I2_2 (n - 0) ?_ ?_
 ·rw [unhide hI2_2]; exact ⟨0,rfl,rfl,rfl,rfl,rfl,Nat.zero_le _,(by unfold fillG; exact unhide hf),unhide hsl,unhide hP,rfl⟩
 ·rintro fi ⟨tm,dfs⟩ wr hrel
  rw [unhide hI2_2] at hrel
  obtain ⟨i,hsz,e3,e4,e5,hdf,hin,hgr,hs0,hPr,hfm⟩ := hrel
  obtain ⟨us,rfl⟩ : ∃ us : Nat → Value,tm = #[us 0,us 1,us 2,us 3,us 4,us 5,us 6,us 7,us 8,us 9,us 10,us 11,us 12,us 13,us 14,us 15,us 16,us 17,us 18,us 19,us 20,us 21,us 22,us 23,us 24,us 25,us 26,us 27,us 28,us 29,us 30] := ⟨fun i => tm.getD i undef,arr_fn hsz⟩
  have h3 : us 3 = .pointer (some ⟨f,0,none⟩) := e3
  have h4 : us 4 = .slice Aa n c := e4
  have h5 : us 5 = .int .i64 (i : Nat) := e5
  have hdf2 : dfs = [] := hdf
  subst hdf2
  clear hdf hsz e3 e4 e5
  simp only [h3,h4,h5]
  clear h3 h4 h5
  clear hP hf hsl
  have hP := hide hPr
  have hf := hide hgr
  have hsl := hide hs0
  have hfm' := hide hfm
  clear hPr hgr hs0 hfm
  by_cases hlt : i < n
  ·skip
   have hil : (i : Int) < (n : Int) := by omega
   have hlt' := hide hlt
   have hiL : i < l.length := by rw [← unhide hn]; exact hlt
   have hib : (i : Int) ≤ 1024 := by have := unhide hln; omega
   have hw0 := hide (fillG_ok (unhide hi') (unhide hfo) hiL)
   have hnx := hide (show fillG V E (l.take (i + 1)) = stD (fillG V E (l.take i)) (addD l[i]) by rw [List.take_succ_eq_append_getElem hiL,fillG_snoc])
   obtain ⟨b9,o9,rfl,q0,q1⟩ := slPair (unhide hsl) (unhide hne) hiL
   have hok := hide (show i64ok l[i].1 ∧ i64ok l[i].2 by
    obtain ⟨_,h1,h2,_⟩ := (unhide hfo).ok _ (List.getElem_mem hiL)
    have hr : ∀ x,x ∈ V.map (·.1) → i64ok x := fun x hx => by
     rw [← toL_vS (unhide hi')] at hx
     exact toL_ok hx
    exact ⟨hr _ h1,hr _ h2⟩)
   generalize l[i] = p at *
   obtain ⟨u,v⟩ := p
   dsimp only at q0 q1
   generalize fillG V E (l.take i) = S at *
   obtain ⟨V2,E2⟩ := S
   have hself := Keep.refl [fv,fe] wr
   clear hlt hin hiL
   try dsimp only
   repeat ((fail_if_success (with_reducible refine wp_reg (id := 4) ?_)); (first | go_values | go_skip | go_step | go_guarded | go_upon | go_in | go_back | fail))
   with_reducible refine wp_reg (id := 4) ?_
   iterate 4
    refine wpO_want rfl ?_
    go_simp
   refine wpO_done ?_
   try go_frame
   go_wp2_with fail
   refine wp_regionK (P := Tryz.prog) [fv,fe] [0,1,2,3,4,5,6,7,8,9,10,11] [] 2 #[true,true,true,true,true,true,true,true,true,true,true,true,false,false] (by kernel_rfl) (by kernel_rfl) rfl (by rfl) ?_
   iterate 12
    refine ql_want (v := ?_) rfl (by rfl) (fun W hW => ?_) ?_
    rotate_left
    ·go_simp
     first | done | rfl
    go_frame
   refine wpQL_nil (fun y3 hxq => ?_)
   have hK := hide (hxq.keep [fv,fe])
   have hfq := hide ((unhide hf).ext hxq)
   replace hP : Hid (Sp w [] w [] [] [] y3) := hide ((unhide hP).ext hxq)
   clear hxq
   clear q0 q1 hself hil
   refine lx_one (i := 12) (by kernel_rfl) rfl (by rfl) #[true,true,true,true,true,true,true,true,true,true,true,true,true,false] (by rfl) ?_
   go_simp
   have hca := apply_any f fv fe V2 E2 2 u v 0 0 y3 (unhide hfq) (unhide hok).1 (unhide hok).2
   have hw9 : wrongR 2 u v 0 V2 E2 = 0 := unhide hw0
   rw [hw9] at hca
   refine hca.mono ?_
   clear hca hw9
   rintro _ z9 ⟨rfl,hg9,hk9⟩
   refine ⟨_,rfl,(unhide hK).trans hk9,fun y4 hxd => ?_⟩
   replace hP : Hid (Sp w [] w [] [] [] y4) := hide ((Sp.new w).ext (ext_turnZ (unhide hP).extf (hk9.trans (hxd.keep _)) ⟨(unhide hb).2.1,(unhide hb).2.2⟩))
   have hf2 := hide (hg9.ext hxd)
   replace hK := hide (((unhide hK).trans hk9).trans (hxd.keep _))
   clear hxd hg9 hk9
   try go_frame
   have hKa := hK
   refine lx_rekeep (unhide hK) [13] [] 0 1 #[true,true,true,true,true,true,true,true,true,true,true,true,true,false] #[true,true,true,true,true,true,true,true,true,true,true,true,true,true] (by kernel_rfl) rfl (by rfl) ?_
   clear hK
   iterate 1
    refine ql_want (v := ?_) rfl (by rfl) (fun W hW => ?_) ?_
    rotate_left
    ·go_simp
     first | done | rfl
    go_frame
   refine wpQL_nil (fun y5 hxq => ?_)
   have hxE := hide hxq
   have hK := hide (hxq.keep [fv,fe])
   replace hP : Hid (Sp w [] w [] [] [] y5) := hide ((unhide hP).ext hxq)
   clear hxq
   refine wpX_done (by kernel_rfl) ?_
   try go_frame
   have hKe := hide ((unhide hKa).trans (unhide hK))
   go_wp2_with fail
   refine ⟨n - (i + 1), ?_,by have := unhide hfm'; have := unhide hlt'; omega⟩
   rw [unhide hI2_2]
   exact ⟨i + 1,(by first | rfl | trivial),(by first | rfl | trivial),(by first | rfl | trivial),(by first | rfl | (show _ = Value.int _ _; go_num) | go_num),(by first | rfl | trivial),by have := unhide hlt'; omega,(by rw [unhide hnx]; exact (unhide hf2).ext (unhide hxE)),(unhide hsl).keepS (unhide hKe) (unhide hne),unhide hP,rfl⟩
  ·skip
   have hil : ¬ (i : Int) < (n : Int) := by omega
   have hte := hide (show l.take i = l from List.take_of_length_le (by rw [← unhide hn]; omega))
   clear hlt hin
   try dsimp only
   repeat ((fail_if_success (with_reducible refine wp_reg (id := 4) ?_)); (first | go_values | go_skip | go_step | go_guarded | go_upon | go_in | go_back | fail))
   with_reducible refine wp_reg (id := 4) ?_
   iterate 4
    refine wpO_want rfl ?_
    go_simp
   refine wpO_done ?_
   try go_frame
   clear hil
   try dsimp only
   repeat ((fail_if_success (with_reducible refine wp_reg (id := 8) ?_)); (first | go_values | go_skip | go_step | go_guarded | go_upon | go_in | go_back | fail))
   with_reducible refine wp_reg (id := 8) ?_
   iterate 2
    refine wpO_want rfl ?_
    go_simp
   refine wpO_done ?_
   try go_frame
   go_wp2_with fail
   refine Sp.leaves0 ?_
   exact ⟨_,results_tmp (t := 2) rfl _ _ _,f,fv,fe,rfl,by have h := unhide hf; rw [unhide hte] at h; exact h,(unhide hP).extf,(unhide hb).1,(unhide hb).2.1,(unhide hb).2.2⟩
end Go.Proofs.YtmokciekndllpaaGreatDoor
