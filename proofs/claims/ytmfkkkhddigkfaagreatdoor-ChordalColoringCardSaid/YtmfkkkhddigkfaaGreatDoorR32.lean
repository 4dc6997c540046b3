/- Parts of a proof, laid together. Each part says its own conditions. -/
import Derived.Test.YtmfkkkhddigkfaaGreatDoorR25
import Derived.Test.YtmfkkkhddigkfaaGreatDoorR21
import Derived.Test.YtmfkkkhddigkfaaGreatDoorR29
namespace Go.Proofs.YtmfkkkhddigkfaaGreatDoor
open Go Go.RowKit Go.Shelf
attribute [local go_sem] qUpon lUpon
def bwF (L : List Int) (i : Nat) : Int × Int := ((i : Int),L[i]?.getD 0)
def bwL (L : List Int) : List (Int × Int) := ((List.range L.length).map (bwF L)).reverse
def exA (A : Option Addr) (L : List Int) : List Nat := if L.length = 0 then [] else match A with | some a => [a.block] | none => []
theorem exA_lt {A : Option Addr} {L : List Int} {w : World} (h : SlAt encI 1 w A L) : ∀ b ∈ exA A L,b < w.heap.size := by
 intro b hb
 unfold exA at hb
 split at hb
 ·simp at hb
 ·rename_i hne
  obtain ⟨b',off,rfl,hlt,_⟩ := h (by rintro rfl; simp at hne)
  simp at hb
  omega
theorem bw_next (L : List Int) (k : Nat) : ((List.range (k + 1)).map (bwF L)).reverse = bwF L k :: ((List.range k).map (bwF L)).reverse := by
 rw [List.range_succ,List.map_append,List.reverse_append]; rfl
set_option maxRecDepth 100000 in
theorem back_any (A : Option Addr) (n c : Nat) (w : World) : Calls Tryz.prog 56 #[.slice A n c] w fun e w' => e = .returned (.func (.func 84) #[] #[.pointer (some ⟨w.heap.size,0,none⟩)]) ∧ w' = w.alloc (.cells #[.slice A n c] 31) := by
 go_enter Tryz.func56,Tryz.ntmps56
 go_wp2_with fail
 go_ret
 exact ⟨rfl,rfl⟩
set_option maxRecDepth 100000 in
set_option maxHeartbeats 4000000 in
theorem back_iter (A : Option Addr) (L : List Int) (c bN : Nat) (w : World) (hB : Blk w bN 31 #[.slice A L.length c]) (hL : SlAt encI 1 w A L) (hl : L.length ≤ 100000000) :
  Iter1 Tryz.prog 84 #[.pointer (some ⟨bN,0,none⟩)] (fun p : Int × Int => #[.int .i64 p.1, .int .i64 p.2]) (bwL L) 0 (bN :: exA A L) w := by
 intro l J Jx W hW hJ hJx hY h0
 have hBW := hide (hB.ext hW)
 have hLW := hide (hL.ext hW)
 have hl' := hide hl
 have hY' := hide hY
 have h0' := hide h0
 have c0 := (unhide hBW).cells 0 (v := .slice A L.length c) rfl
 have hself := Ext.refl W
 clear hB hL hW hJ hJx hY h0 hl
 refine callsIn_of_wp Tryz.func84 rfl trivial ?_ rfl
 simp only [Tryz.ntmps84,List.size_toArray,List.length_cons,List.length_nil,Nat.reduceAdd,Nat.reduceSub,Array.replicate_succ,Array.replicate_zero,List.push_toArray,List.append_toArray,List.nil_append,List.cons_append]
 try dsimp only
 repeat (first | (with_reducible refine wpW_reg (id := 0) (by kernel_rfl) ?_) | go_values | gi_step | gi_guarded | gi_upon | gi_in | gi_back | fail)
 iterate 4
  refine wpO_want rfl ?_
  go_simp
 refine wpO_done ?_
 have hm1 : IntKind.i64.wrap ((L.length : Int) - 1) = (L.length : Int) - 1 := IntWalk.i64_in _ (by have := unhide hl'; omega)
 try rw [hm1]
 clear c0 hself hm1
 gi_wp2_with fail
 gi_loopw [3] (fun i wr => ∃ (pre : List (Int × Int)) (k : Nat),k ≤ L.length ∧ bwL L = pre ++ ((List.range k).map (bwF L)).reverse ∧ i = .int .i64 ((k : Int) - 1) ∧ Blk wr bN 31 #[.slice A L.length c] ∧ SlAt encI 1 wr A L ∧ J pre wr ∧ W.heap.size ≤ wr.heap.size) (fun i _ => (intOf i + 1).toNat)
 case atStart => exact ⟨[],L.length,Nat.le_refl _,rfl,rfl,unhide hBW,unhide hLW,unhide h0',Nat.le_refl _⟩
 case round =>
  obtain ⟨pre,k,hk,hpre,rfl,hB,hL,hJp,hsz⟩ := hrel
  cases k with
  | zero =>
   rw [List.range_zero,List.map_nil,List.reverse_nil,List.append_nil] at hpre
   have hJp' := hide hJp
   have hpre' := hide hpre
   clear hB hL hJp hpre hY' h0' hBW hLW hsz
   gi_wp2_with fail
   go_end0
   exact ⟨⟨_,rfl⟩, .inl (by rw [unhide hpre']; exact unhide hJp')⟩
  | succ k =>
   rw [bw_next] at hpre
   have hp1 : (pre ++ [bwF L k]) <+: bwL L := ⟨((List.range k).map (bwF L)).reverse,by rw [hpre]; simp⟩
   obtain ⟨fn,tmps,assign,body,hy,hRd⟩ := unhide hY' pre (bwF L k) wr hJp hp1 hsz
   obtain ⟨b,off,rfl,d0⟩ := atI hL hk
   have hx : bwF L k = ((k : Int),L[k]) := by unfold bwF; rw [List.getElem?_eq_getElem hk,Option.getD_some]
   rw [hx] at hy
   simp only at hy
   have hB' := hide hB
   have hL' := hide hL
   have hpre' := hide hpre
   have hRd' := hide hRd
   have hsz' := hide hsz
   have c0 := hB.cells 0 (v := .slice (some ⟨b,off,none⟩) L.length c) rfl
   have hself := Ext.refl wr
   have hk1 : ((k + 1 : Nat) : Int) - 1 = (k : Int) := by omega
   generalize L[k] = x at d0 hy
   clear hB hL hJp hpre h0' hBW hLW hRd hsz hp1 hY' hx
   rw [hk1]
   clear hk1
   gi_wp2_with fail
   refine ⟨rfl,(unhide hRd').mono ?_⟩
   rintro e W6 ⟨(⟨rfl,hJ6⟩ | ⟨rfl,hJx6⟩),hsame,hsz6⟩
   ·have hB6 := hide ((unhide hB').of_block (hsame bN (List.mem_append.2 (.inr (by simp)))))
    have hL6 := hide ((unhide hL').of_blocks hsz6 (fun b' off' e _ => hsame b' (List.mem_append.2 (.inr (by injection e with e; injection e with e1; subst e1; have hne : L.length ≠ 0 := (by omega); simp [exA,hne])))))
    have hJ6' := hide hJ6
    have hsz6' := hide (Nat.le_trans (unhide hsz') hsz6)
    clear hsame hsz6 hB' hL' hJ6 hRd' hsz' hy c0 d0 hself
    have hkl : (k : Int) < 100000000 := by have := unhide hl'; omega
    gi_wp2_with fail
    go_roundw
    case rel => exact ⟨pre ++ [bwF L k],k,by omega,by rw [unhide hpre']; simp,by go_num,unhide hB6,unhide hL6,unhide hJ6',unhide hsz6'⟩
    case measure => simp [intOf]
   ·have hJx6' := hide hJx6
    clear hJx6 hsame hsz6 hy hRd'
    gi_wp2_with fail
    refine bodyPost_ret (results_none rfl _ _ _) rfl ?_
    exact ⟨⟨_,rfl⟩, .inr ⟨_,unhide hJx6'⟩⟩
end Go.Proofs.YtmfkkkhddigkfaaGreatDoor
namespace Go.Proofs.YtmfkkkhddigkfaaGreatDoor
open Go
section
variable {κ τ : Type} [DecidableEq κ]
theorem look_map (u x : κ) (v : τ) : ∀ M : List (κ × τ),lookM (M.map fun p => if p.1 = u then (u,v) else p) x = if x = u ∧ (lookM M u).isSome = true then some v else lookM M x
 | [] => by simp [lookM]
 | p :: r => by
  have ih := look_map u x v r
  unfold lookM at ih ⊢
  rw [List.map_cons,List.find?_cons,List.find?_cons,List.find?_cons]
  by_cases h1 : p.1 = u
  ·by_cases h2 : x = u
   ·subst h2; simp [h1]
   ·have h3 : ¬ u = x := fun e => h2 e.symm
    rw [if_pos h1,decide_eq_false h3,decide_eq_false (show ¬ p.1 = x from fun e => h3 (h1.symm.trans e)),ih,if_neg (fun h => h2 h.1),if_neg (fun h => h2 h.1)]
  ·rw [if_neg h1,decide_eq_false h1]
   by_cases h2 : p.1 = x
   ·have h3 : ¬ x = u := fun e => h1 (h2.trans e)
    rw [decide_eq_true h2,if_neg (fun h => h3 h.1)]
   ·rw [decide_eq_false h2,ih]
theorem look_put (M : List (κ × τ)) (u x : κ) (v : τ) : lookM (putM M u v) x = if x = u then some v else lookM M x := by
 unfold putM
 split
 ·rename_i h
  rw [look_map]
  by_cases h2 : x = u
  ·rw [if_pos ⟨h2,h⟩,if_pos h2]
  ·rw [if_neg (fun h => h2 h.1),if_neg h2]
 ·rename_i h
  have h0 : lookM M u = none := by simpa using h
  unfold lookM at h0 ⊢
  rw [List.find?_append]
  by_cases h2 : x = u
  ·subst h2
   have h1 : M.find? (fun p => decide (p.1 = x)) = none := by simpa using h0
   rw [h1,if_pos rfl]
   simp
  ·rw [if_neg h2]
   have h3 : ¬ u = x := fun e => h2 e.symm
   simp [h3]
end
section
variable {V : List (Int × Thing)} {E : List ((Int × Int) × Thing)}
theorem colS_cons (v : Int) (l : List Int) : colS E (v :: l) = colStep E (colS E l) v := by
 unfold colS
 rw [List.reverse_cons,List.foldl_append]; rfl
theorem mem_taken (hi : GInv V E) {M : List (Int × Int)} {v c : Int} : c ∈ takenS E M v ↔ ∃ u,hasE v u E = true ∧ lookM M u = some c := by
 unfold takenS
 rw [List.mem_filterMap]
 constructor
 ·rintro ⟨u,h1,h2⟩; exact ⟨u,(mem_near hi).1 h1,h2⟩
 ·rintro ⟨u,h1,h2⟩; exact ⟨u,(mem_near hi).2 h1,h2⟩
structure ColInv (E : List ((Int × Int) × Thing)) (l : List Int) (s : List (Int × Int) × Int) : Prop where
 dom : ∀ x,(lookM s.1 x).isSome = true ↔ x ∈ l
 rng : ∀ x c,lookM s.1 x = some c → 0 ≤ c ∧ c < s.2
 proper : ∀ x y c d,hasE x y E = true → lookM s.1 x = some c → lookM s.1 y = some d → c ≠ d
 many : 0 ≤ s.2
theorem colS_inv (hi : GInv V E) : ∀ l : List Int,l.Nodup → ColInv E l (colS E l)
 | [],_ => ⟨fun x => by simp [colS,lookM],fun x c h => by simp [colS,lookM] at h,fun x y c d _ h => by simp [colS,lookM] at h,by simp [colS]⟩
 | v :: l,hn => by
  obtain ⟨hv,hn2⟩ := List.nodup_cons.1 hn
  have ih := colS_inv hi l hn2
  have hm := mex_spec (takenS E (colS E l).1 v)
  rw [colS_cons]
  generalize colS E l = s at *
  unfold colStep
  generalize mexL (takenS E s.1 v) = c0 at *
  have hc0 := hm.1
  refine ⟨fun x => ?_,fun x c h => ?_,fun x y c d he h1 h2 => ?_, ?_⟩
  ·simp only
   rw [look_put,List.mem_cons]
   by_cases e : x = v
   ·rw [if_pos e]; simp [e]
   ·rw [if_neg e,ih.dom]; simp [e]
  ·simp only at h ⊢
   rw [look_put] at h
   split at h
   ·cases h; exact ⟨hc0,by omega⟩
   ·have := ih.rng x c h; omega
  ·simp only at h1 h2
   rw [look_put] at h1 h2
   have hne := hasE_ne hi he
   split at h1
   ·rename_i e
    subst e
    rw [if_neg (fun e => hne e.symm)] at h2
    cases h1
    rintro rfl
    exact hm.2.1 ((mem_taken hi).2 ⟨y,he,h2⟩)
   ·split at h2
    ·rename_i e
     subst e
     cases h2
     rintro rfl
     exact hm.2.1 ((mem_taken hi).2 ⟨x,hasE_symm he,h1⟩)
    ·exact ih.proper x y c d he h1 h2
  ·simp only
   have := ih.many
   omega
theorem col_clique (hi : GInv V E) : ∀ l : List Int,l.Nodup → Peo E l → ∃ K : List Int,K.Nodup ∧ (∀ x ∈ K,x ∈ l) ∧ Clq E K ∧ (colS E l).2 ≤ (K.length : Int)
 | [],_,_ => ⟨[],by simp,by simp,fun x hx => by simp at hx,by simp [colS]⟩
 | v :: l,hn,hp => by
  obtain ⟨hv,hn2⟩ := List.nodup_cons.1 hn
  obtain ⟨K,h1,h2,h3,h4⟩ := col_clique hi l hn2 hp.2
  have hI := colS_inv hi l hn2
  have hm := mex_spec (takenS E (colS E l).1 v)
  rw [colS_cons]
  generalize colS E l = s at *
  unfold colStep
  simp only
  generalize mexL (takenS E s.1 v) = c0 at *
  by_cases hc : c0 + 1 ≤ s.2
  ·exact ⟨K,h1,fun x hx => by simp [h2 x hx],h3,by omega⟩
  ·have hc0 := hm.1
   refine ⟨v :: nbrR E v l,List.nodup_cons.2 ⟨fun h => hv (mem_nbr.1 h).1,hn2.filter _⟩,fun x hx => ?_,fun x hx y hy hne => ?_, ?_⟩
   ·rcases List.mem_cons.1 hx with rfl | hx
    ·simp
    ·simp [(mem_nbr.1 hx).1]
   ·rcases List.mem_cons.1 hx with rfl | hx
    ·rcases List.mem_cons.1 hy with rfl | hy
     ·exact absurd rfl hne
     ·exact (mem_nbr.1 hy).2.2
    ·rcases List.mem_cons.1 hy with rfl | hy
     ·exact hasE_symm (mem_nbr.1 hx).2.2
     ·exact hp.1 x (mem_nbr.1 hx).1 y (mem_nbr.1 hy).1 (mem_nbr.1 hx).2.2 (mem_nbr.1 hy).2.2 hne
   ·have : c0.toNat ≤ ((nbrR E v l).filterMap (lookM s.1)).length := run_len fun d hd0 hd => by
     obtain ⟨u,hu1,hu2⟩ := (mem_taken hi).1 (hm.2.2 d hd0 (by omega))
     refine List.mem_filterMap.2 ⟨u,mem_nbr.2 ⟨?_,(hasE_ne hi hu1).symm,hu1⟩,hu2⟩
     rw [← hI.dom,hu2]; rfl
    have h5 := List.length_filterMap_le (lookM s.1) (nbrR E v l)
    rw [List.length_cons]
    omega
theorem clique_col (hi : GInv V E) {l K : List Int} (hn : l.Nodup) (hk : K.Nodup) (hs : ∀ x ∈ K,x ∈ l) (hc : Clq E K) : (K.length : Int) ≤ (colS E l).2 := by
 have hI := colS_inv hi l hn
 generalize colS E l = s at *
 have hsome : ∀ x ∈ K, ∃ c,lookM s.1 x = some c := fun x hx => Option.isSome_iff_exists.1 ((hI.dom x).2 (hs x hx))
 have h1 : (K.map fun x => (lookM s.1 x).getD 0).Nodup := by
  rw [List.nodup_iff_pairwise_ne,List.pairwise_map]
  refine (List.nodup_iff_pairwise_ne.1 hk).imp_of_mem fun {x y} hx hy hne => ?_
  obtain ⟨c,h2⟩ := hsome x hx
  obtain ⟨d,h3⟩ := hsome y hy
  rw [h2,h3]
  exact hI.proper x y c d (hc x hx y hy hne) h2 h3
 have h2 := len_le_sub _ ((List.range s.2.toNat).map fun (i : Nat) => (i : Int)) h1 (fun z hz => by
  obtain ⟨x,hx,rfl⟩ := List.mem_map.1 hz
  obtain ⟨c,h2⟩ := hsome x hx
  have h3 := hI.rng x c h2
  rw [h2]
  refine List.mem_map.2 ⟨c.toNat,List.mem_range.2 (by omega), ?_⟩
  simp only [Option.getD_some]
  omega)
 have h3 := hI.many
 simp only [List.length_map,List.length_range] at h2
 omega
def takenR (E : List ((Int × Int) × Thing)) (I C : List Int) (v : Int) : List Int := (List.range I.length).filterMap fun k => if hasE (I[k]?.getD 0) v E = true then C[k]? else none
noncomputable def colRStep (V : List (Int × Thing)) (E : List ((Int × Int) × Thing)) (s : List Int × Int) (v : Int) : List Int × Int :=
 (s.1.set (posI (fun p => p.1 == v) V).toNat (mexL (takenR E (V.map (·.1)) s.1 v)),max s.2 (mexL (takenR E (V.map (·.1)) s.1 v) + 1))
noncomputable def colR (V : List (Int × Thing)) (E : List ((Int × Int) × Thing)) (o : List Int) : List Int × Int := o.reverse.foldl (colRStep V E) (List.replicate V.length (-1),0)
theorem colR_cons (v : Int) (l : List Int) : colR V E (v :: l) = colRStep V E (colR V E l) v := by
 unfold colR
 rw [List.reverse_cons,List.foldl_append]; rfl
theorem colR_eq (hi : GInv V E) : ∀ l : List Int,l.Nodup → (∀ x ∈ l,x ∈ V.map (·.1)) → (colR V E l).1 = (V.map (·.1)).map (fun x => (lookM (colS E l).1 x).getD (-1)) ∧ (colR V E l).2 = (colS E l).2
 | [],_,_ => by
  refine ⟨?_,rfl⟩
  show List.replicate V.length (-1) = _
  rw [List.map_map]
  apply List.ext_getElem
  ·simp
  ·intro k h1 h2
   simp [colS,lookM]
 | v :: l,hn,hm => by
  obtain ⟨hv,hn2⟩ := List.nodup_cons.1 hn
  obtain ⟨h1,h2⟩ := colR_eq hi l hn2 (fun x hx => hm x (by simp [hx]))
  have hI := colS_inv hi l hn2
  have hvm := hm v (by simp)
  have hIn := sv_nodup hi.sv
  rw [colR_cons,colS_cons]
  generalize colR V E l = r at *
  generalize colS E l = s at *
  unfold colRStep colStep
  simp only
  have hmex : mexL (takenR E (V.map (·.1)) r.1 v) = mexL (takenS E s.1 v) := by
   refine (mex_spec _).uniq ((mex_spec _).congr fun x hx => ?_)
   rw [mem_taken hi]
   unfold takenR
   rw [List.mem_filterMap]
   constructor
   ·rintro ⟨u,hu1,hu2⟩
    obtain ⟨k,hk,rfl⟩ := List.getElem_of_mem (hasE_rng hi hu1).2
    refine ⟨k,List.mem_range.2 hk, ?_⟩
    rw [List.getElem?_eq_getElem hk,Option.getD_some,if_pos (hasE_symm hu1),h1,List.getElem?_map,List.getElem?_eq_getElem hk,Option.map_some,hu2]
    rfl
   ·rintro ⟨k,hk,h3⟩
    have hk := List.mem_range.1 hk
    rw [List.getElem?_eq_getElem hk,Option.getD_some] at h3
    split at h3
    ·rename_i he
     rw [h1,List.getElem?_map,List.getElem?_eq_getElem hk,Option.map_some] at h3
     refine ⟨_,hasE_symm he, ?_⟩
     cases hl : lookM s.1 (V.map (·.1))[k] with
     | none => rw [hl] at h3; injection h3 with h3; simp at h3; omega
     | some c => rw [hl] at h3; injection h3 with h3; rw [← h3]; rfl
    ·cases h3
  rw [hmex,h2]
  refine ⟨?_,rfl⟩
  generalize mexL (takenS E s.1 v) = c0 at *
  rw [h1]
  obtain ⟨j,hj,hjv⟩ := List.getElem_of_mem hvm
  have hpos : (posI (fun p : Int × Thing => p.1 == v) V).toNat = j := by
   have hjl : j < V.length := by simpa using hj
   have := posI_hit (p := fun p : Int × Thing => p.1 == v) (xs := V) (i := j) hjl (by simpa using hjv) (fun i hij => by
    rw [Bool.eq_false_iff]
    intro h
    have h5 : (V.map (·.1))[i]'(by simp; omega) = (V.map (·.1))[j] := by
     rw [hjv]
     simpa using h
    have := (List.getElem_inj hIn).1 h5
    omega)
   rw [this]; simp
  rw [hpos]
  clear hpos hmex h1 hvm hm
  generalize V.map (·.1) = I at *
  apply List.ext_getElem
  ·simp
  ·intro k h3 h4
   rw [List.getElem_set,List.getElem_map,List.getElem_map,look_put]
   by_cases e : j = k
   ·subst e
    rw [if_pos rfl,hjv,if_pos rfl]; rfl
   ·rw [if_neg e,if_neg (fun h => e ((List.getElem_inj hIn).1 (hjv.trans h.symm)))]
theorem colR_out (hi : GInv V E) {o : List Int} (hn : o.Nodup) (hm : ∀ x,x ∈ o ↔ x ∈ V.map (·.1)) : (colR V E o).1 = colOut V E o := by
 rw [(colR_eq hi o hn (fun x hx => (hm x).1 hx)).1]
 unfold colOut
 rw [toL_vS hi]
 refine List.map_congr_left fun x hx => ?_
 obtain ⟨c,hc⟩ := Option.isSome_iff_exists.1 (((colS_inv hi o hn).dom x).2 ((hm x).2 hx))
 rw [hc]; rfl
end
end Go.Proofs.YtmfkkkhddigkfaaGreatDoor
