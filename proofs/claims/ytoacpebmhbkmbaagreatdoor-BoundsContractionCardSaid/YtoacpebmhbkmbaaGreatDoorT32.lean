/- Parts of a proof, laid together. Each part says its own conditions. -/
import Derived.Test.YtoacpebmhbkmbaaGreatDoorT31
import Derived.Test.YtoacpebmhbkmbaaGreatDoorT22
import Derived.Test.YtoacpebmhbkmbaaGreatDoorT21
import Derived.Laws.CopyRow
import Derived.Test.YtoacpebmhbkmbaaGreatDoorT28
import Derived.Test.YtoacpebmhbkmbaaGreatDoorT25
namespace Go.Proofs.YtoacpebmhbkmbaaGreatDoor
open Go Go.RowKit Go.Shelf
attribute [local go_sem] qUpon lUpon
attribute [local irreducible] wpO wpX wpQL
def exV (A : Option Addr) (L : List Int) : List Nat := if L.length = 0 then [] else match A with | some a => [a.block] | none => []
theorem exV_lt {A : Option Addr} {L : List Int} {w : World} (h : SlAt encI 1 w A L) : ∀ b ∈ exV A L,b < w.heap.size := by
 intro b hb
 unfold exV at hb
 split at hb
 ·simp at hb
 ·rename_i hne
  obtain ⟨b',off,rfl,hlt,_⟩ := h (by rintro rfl; simp at hne)
  simp at hb
  omega
theorem Iter1.ext {α : Type} {P : Program} {g : Nat} {lb : Array Value} {encs : α → Array Value} {xs : List α} {np : Nat} {ex : List Nat} {w w' : World} (h : Iter1 P g lb encs xs np ex w) (hx : Ext w w') : Iter1 P g lb encs xs np ex w' := fun l J Jx W hW => h l J Jx W (hx.trans hW)
set_option maxRecDepth 100000 in
theorem values_any (A : Option Addr) (n c : Nat) (w : World) : Calls Tryz.prog 66 #[.slice A n c] w fun e w' => e = .returned (.func (.func 115) #[] #[.pointer (some ⟨w.heap.size,0,none⟩)]) ∧ w' = w.alloc (.cells #[.slice A n c] 30) := by
 go_enter Tryz.func66,Tryz.ntmps66
 go_wp2_with fail
 go_ret
 exact ⟨rfl,rfl⟩
set_option maxRecDepth 100000 in
set_option maxHeartbeats 4000000 in
theorem vals_iter (A : Option Addr) (L : List Int) (n c bN : Nat) (w : World) (hB : Blk w bN 30 #[.slice A n c]) (hL : SlAt encI 1 w A L) (hn : n = L.length) (hl : n ≤ 100000000) :
  Iter1 Tryz.prog 115 #[.pointer (some ⟨bN,0,none⟩)] (fun x : Int => #[.int .i64 x]) L 0 (bN :: exV A L) w := by
 intro l J Jx W hW hJ hJx hY h0
 have hBW := hide (hB.ext hW)
 have hLW := hide (hL.ext hW)
 have hl' := hide hl
 have hn' := hide hn
 have hY' := hide hY
 have h0' := hide h0
 have c0 := (unhide hBW).cells 0 (v := .slice A n c) rfl
 have hself := Ext.refl W
 clear hB hL hW hJ hJx hY h0 hl hn
 refine callsIn_of_wp Tryz.func115 rfl trivial ?_ rfl
 simp only [Tryz.ntmps115,List.size_toArray,List.length_cons,List.length_nil,Nat.reduceAdd,Nat.reduceSub,Array.replicate_succ,Array.replicate_zero,List.push_toArray,List.append_toArray,List.nil_append,List.cons_append]
 try dsimp only
 repeat (first | (with_reducible refine wpW_reg (id := 0) (by kernel_rfl) ?_) | go_values | gi_step | gi_guarded | gi_upon | gi_in | gi_back | fail)
 iterate 3
  refine wpO_want rfl ?_
  go_simp
 refine wpO_done ?_
 clear c0 hself
 gi_wp2_with fail
 gi_loopw [7] (fun i wr => ∃ (k : Nat),k ≤ n ∧ i = .int .i64 (k : Int) ∧ Blk wr bN 30 #[.slice A n c] ∧ SlAt encI 1 wr A L ∧ J (L.take k) wr ∧ W.heap.size ≤ wr.heap.size) (fun i _ => n - (intOf i).toNat)
 case atStart => exact ⟨0,Nat.zero_le _,rfl,unhide hBW,unhide hLW,unhide h0',Nat.le_refl _⟩
 case round =>
  obtain ⟨k,hk,rfl,hB,hL,hJp,hsz⟩ := hrel
  by_cases hlt : k < n
  ·have hil : (k : Int) < (n : Int) := by omega
   have hkL : k < L.length := by have := unhide hn'; omega
   have hpre : L.take (k + 1) = L.take k ++ [L[k]] := List.take_succ_eq_append_getElem hkL
   have hp1 : (L.take k ++ [L[k]]) <+: L := by rw [← hpre]; exact List.take_prefix _ _
   obtain ⟨fn,tmps,assign,body,hy,hRd⟩ := unhide hY' (L.take k) L[k] wr hJp hp1 hsz
   obtain ⟨b,off,rfl,d0⟩ := atI hL hkL
   have hB' := hide hB
   have hL' := hide hL
   have hpre' := hide hpre
   have hRd' := hide hRd
   have hsz' := hide hsz
   have hlt' := hide hlt
   have hself := Ext.refl wr
   generalize L[k] = x at d0 hy hpre' hRd'
   clear hB hL hJp hpre h0' hBW hLW hRd hsz hp1 hY' hlt hkL
   gi_wp2_with fail
   refine ⟨rfl,(unhide hRd').mono ?_⟩
   rintro e W6 ⟨(⟨rfl,hJ6⟩ | ⟨rfl,hJx6⟩),hsame,hsz6⟩
   ·have hB6 := hide ((unhide hB').of_block (hsame bN (List.mem_append.2 (.inr (by simp)))))
    have hL6 := hide ((unhide hL').of_blocks hsz6 (fun b' off' e _ => hsame b' (List.mem_append.2 (.inr (by injection e with e; injection e with e1; subst e1; have hne : L.length ≠ 0 := (by have := unhide hn'; have := unhide hlt'; omega); simp [exV,hne])))))
    have hJ6' := hide hJ6
    have hsz6' := hide (Nat.le_trans (unhide hsz') hsz6)
    clear hsame hsz6 hB' hL' hJ6 hRd' hsz' hy d0 hself hil
    have hkl : (k : Int) < 100000000 := by have := unhide hl'; have := unhide hlt'; omega
    gi_wp2_with fail
    go_roundw
    case rel => exact ⟨k + 1,by have := unhide hlt'; omega,by go_num,unhide hB6,unhide hL6,by rw [unhide hpre']; exact unhide hJ6',unhide hsz6'⟩
    case measure => have := unhide hlt'; simp [intOf]; omega
   ·have hJx6' := hide hJx6
    clear hJx6 hsame hsz6 hy hRd'
    gi_wp2_with fail
    refine bodyPost_ret (results_none rfl _ _ _) rfl ?_
    exact ⟨⟨_,rfl⟩, .inr ⟨_,unhide hJx6'⟩⟩
  ·have hil : ¬ (k : Int) < (n : Int) := by omega
   rw [List.take_of_length_le (by have := unhide hn'; omega)] at hJp
   have hJp' := hide hJp
   clear hB hL hJp hY' h0' hBW hLW hsz hlt
   gi_wp2_with fail
   go_end0
   exact ⟨⟨_,rfl⟩, .inl (unhide hJp')⟩
set_option maxRecDepth 100000 in
set_option maxHeartbeats 16000000 in
theorem appSeq_any (gf : Nat) (lb : Array Value) (xs : List Int) (np : Nat) (ex : List Nat) (w : World) (hit : Iter1 Tryz.prog gf lb (fun x : Int => #[.int .i64 x]) xs np ex w) (hex : ∀ b ∈ ex,b < w.heap.size) (eg : ∀ args w,(callFunc gf args).run Tryz.prog w = .ok (.enter gf args) w) (hl : xs.length ≤ 100000) :
  Calls Tryz.prog 131 #[.slice none 0 0, .func (.func gf) #[] lb] w (OwL w xs) := by
 have hit' := hide hit
 have hex' := hide hex
 have eg' := hide eg
 have hl' := hide hl
 clear hit hex eg hl
 have hP := hide (Sp.new w)
 refine callsIn_wide.1 (callsIn_of_wp_marks (n := 0) Tryz.func131 rfl trivial (wpIn_wide.2 ?_))
 simp only [Tryz.ntmps131,List.size_toArray,List.length_cons,List.length_nil,Nat.reduceAdd,Nat.reduceSub,Array.replicate_succ,Array.replicate_zero,List.push_toArray,List.append_toArray,List.nil_append,List.cons_append]
 try dsimp only
 repeat ((fail_if_success (with_reducible refine wp_reg (id := 0) ?_)); (first | go_values | go_skip | go_step | go_guarded | go_upon | go_in | go_back | fail))
 with_reducible refine wp_reg (id := 0) ?_
 refine (unhide hP).allocO 30 #[.slice none 0 0] rfl (run_box (v := .slice none 0 0) rfl rfl) ?_
 intro b2 y1 hQ
 replace hP : Hid (Sp w [] w [] [(b2,30, #[.slice none 0 0])] [] y1) := hide hQ
 clear hQ
 refine wpO_want rfl ?_
 go_simp
 refine wpO_done ?_
 try go_frame
 try dsimp only
 repeat ((fail_if_success (with_reducible refine wp_reg (id := 1) ?_)); (first | go_values | go_skip | go_step | go_guarded | go_upon | go_in | go_back | fail))
 with_reducible refine wp_reg (id := 1) ?_
 refine wpO_val rfl (run_move rfl rfl) ?_
 go_frame
 refine wpO_done ?_
 try go_frame
 go_wp2_with fail
 replace hP : Hid (Sp w [] w [] [(b2,30, #[.slice none 0 0])] [(3,1, .slice none 0 0,0,[])] y1) := hide ((unhide hP).nil 3 1)
 have hexs : ∀ b ∈ ex,b < y1.heap.size ∧ b ∉ stT [(b2,30, #[.slice none 0 0])] [(3,1, .slice none 0 0,0,[])] := fun b hb => ⟨Nat.lt_of_lt_of_le (unhide hex' b hb) (unhide hP).size,fun hm => by have h1 := (unhide hP).st.ge b hm; have h2 := unhide hex' b hb; omega⟩
 have hexs' := hide hexs
 clear hexs
 refine wp_rngS (gf := gf) (lb := lb) (unhide hP) rfl (unhide eg') (ex := ex) (unhide hexs') ((unhide hit').ext (unhide hP).extf) (fun _ => rfl)
  (fun pre L' Rs' => ∃ v,L' = [(b2,30, #[v])] ∧ Rs' = [(3,1,v,pre.length,pre.flatMap encI)])
  (fun _ _ _ => False)
  (fun tm _ x a1 _ => a1 = ⟨(tm.setIfInBounds 7 (.int .i64 x)).setIfInBounds 5 (.int .i64 x),[]⟩)
  (fun _ _ _ _ _ h _ => h) ⟨.slice none 0 0,rfl,rfl⟩ ?_ ?_ ?_ ?_
 ·intro T' v W' K hlt' hsz hK
  have hK' := hide hK
  have hlt2 := hide hlt'
  have hsz2 := hide hsz
  clear hK hlt' hsz
  rw [zip1]
  simp only [List.setIfInBounds_toArray,List.set_cons_succ,List.set_cons_zero]
  try dsimp only
  repeat ((fail_if_success (with_reducible refine wpI_reg (id := 2) (by kernel_rfl) ?_)); (first | go_values | gi_step | gi_guarded | gi_upon | gi_in | gi_back | fail))
  with_reducible refine wpI_reg (id := 2) (by kernel_rfl) ?_
  refine wpO_want rfl ?_
  go_simp
  refine wpO_done ?_
  try go_frame
  exact unhide hK' _ _ rfl (Ext.refl _)
 ·rintro l pre x a1 L' Rs' W2 ⟨v6,rfl,rfl⟩ hB0 rfl hpx hl2 hkW htW
  simp only [List.setIfInBounds_toArray,List.set_cons_succ,List.set_cons_zero]
  obtain ⟨A6,c6,rfl⟩ := own_slice (hB0.row 0 rfl)
  have hn0 := hide (show pre.length ≤ 100000 by have := hpx.length_le; have h2 := unhide hl'; rw [List.length_append] at this; omega)
  obtain ⟨n,hn⟩ : ∃ n,n = pre.length := ⟨_,rfl⟩
  rw [← hn] at hB0 hn0 ⊢
  have hn' := hide hn
  have hB : Hid (Sp w (stT [(b2,30, #[.slice A6 n c6])] [(3,1, .slice A6 n c6,n,pre.flatMap encI)]) W2 [] [(b2,30, #[.slice A6 n c6])] [(3,1, .slice A6 n c6,n,pre.flatMap encI)] W2) := hide hB0
  clear hB0 hn hpx hl2 hkW htW
  try dsimp only
  repeat ((fail_if_success (with_reducible refine wpI_reg (id := 3) (by kernel_rfl) ?_)); (first | go_values | gi_step | gi_guarded | gi_upon | gi_in | gi_back | fail))
  with_reducible refine wpI_reg (id := 3) (by kernel_rfl) ?_
  refine wpO_val rfl (load_V (v := .slice A6 n c6) rfl rfl (by simp [go_sem]) (((unhide hB).get 0 rfl).cell 0)) ?_
  go_frame
  refine wpO_val rfl (run_move rfl rfl) ?_
  go_frame
  refine (unhide hB).build1O 3 #[.int .i64 x] rfl (run_build1 rfl rfl) ?_
  intro bb y2 hQ
  replace hB : Hid (Sp w (stT [(b2,30, #[.slice A6 n c6])] [(3,1, .slice A6 n c6,n,pre.flatMap encI)]) W2 [] [(b2,30, #[.slice A6 n c6]),(bb,3, #[.int .i64 x])] [(3,1, .slice A6 n c6,n,pre.flatMap encI)] y2) := hide hQ
  clear hQ
  go_frame
  refine (unhide hB).ap1O (enc := encI) (T := 3) (ST := 30) 0 (v := .slice A6 n c6) (m := n) (xs := pre) rfl rfl infoI Tryz.underlying30 one_encI (fun _ => rfl) (by decide) (by decide) rfl x rfl rfl ((unhide hB).get 1 rfl) (by have := unhide hn0; omega) ?_
  intro A7 cA7 y3 hQ
  replace hB : Hid (Sp w (stT [(b2,30, #[.slice A6 n c6])] [(3,1, .slice A6 n c6,n,pre.flatMap encI)]) W2 [] [(b2,30, #[.slice A6 n c6]),(bb,3, #[.int .i64 x])] [(3,1, .slice A7 (n + 1) cA7,n + 1,(pre ++ [x]).flatMap encI)] y3) := hide hQ
  clear hQ
  try go_frame
  refine (unhide hB).setO 0 #[.slice A7 (n + 1) cA7] rfl rfl (fun hb => run_store_row (v := .slice A7 (n + 1) cA7) rfl rfl rfl (by simp [go_sem]) hb rfl (by simp [Value.cells,Value.oneCell'])) ?_
  intro y4 hQ
  replace hB : Hid (Sp w (stT [(b2,30, #[.slice A6 n c6])] [(3,1, .slice A6 n c6,n,pre.flatMap encI)]) W2 [] [(b2,30, #[.slice A7 (n + 1) cA7]),(bb,3, #[.int .i64 x])] [(3,1, .slice A7 (n + 1) cA7,n + 1,(pre ++ [x]).flatMap encI)] y4) := hide hQ
  clear hQ
  refine wpO_done ?_
  try go_frame
  gi_wp2_with fail
  exact ⟨_,_,⟨.slice A7 (n + 1) cA7,rfl,by rw [List.length_append,List.length_singleton, ← unhide hn']⟩,(unhide hB).sub (List.sublist_append_left _ ([(bb,_,_)] : List Cl)) (List.Sublist.refl _)⟩
 ·rintro D3 L' Rs' W2 ⟨v6,rfl,rfl⟩ hkW hP0
  generalize ({ target := .collected D3,args := #[] } :: [] : List Deferred) = ds2 at hP0 ⊢
  obtain ⟨A6,c6,rfl⟩ := own_slice (hP0.row 0 rfl)
  obtain ⟨n,hn⟩ : ∃ n,n = xs.length := ⟨_,rfl⟩
  rw [← hn] at hP0
  have hn' := hide hn
  clear hkW hP hn
  have hP : Hid (Sp w [] w ds2 [(b2,30, #[.slice A6 n c6])] [(3,1, .slice A6 n c6,n,xs.flatMap encI)] W2) := hide hP0
  clear hP0
  try dsimp only
  repeat ((fail_if_success (with_reducible refine wp_reg (id := 4) ?_)); (first | go_values | go_skip | go_step | go_guarded | go_upon | go_in | go_back | fail))
  with_reducible refine wp_reg (id := 4) ?_
  refine wpO_val rfl (load_V (v := .slice A6 n c6) rfl rfl (by simp [go_sem]) (((unhide hP).get 0 rfl).cell 0)) ?_
  go_frame
  refine wpO_want rfl ?_
  go_simp
  refine wpO_done ?_
  try go_frame
  go_wp2_with fail
  refine (unhide hP).leaves ?_
  intro w' hx hst
  exact ⟨_,results_tmp (t := 4) rfl _ _ _,OwL.mk (unhide hn') (hst.row 0 rfl) hx⟩
 ·intro D3 c L' Rs' W2 h
  exact h.elim
set_option maxRecDepth 100000 in
set_option maxHeartbeats 16000000 in
theorem collect_any (gf : Nat) (lb : Array Value) (xs : List Int) (np : Nat) (ex : List Nat) (w : World) (hit : Iter1 Tryz.prog gf lb (fun x : Int => #[.int .i64 x]) xs np ex w) (hex : ∀ b ∈ ex,b < w.heap.size) (eg : ∀ args w,(callFunc gf args).run Tryz.prog w = .ok (.enter gf args) w) (hl : xs.length ≤ 100000) :
  Calls Tryz.prog 81 #[.func (.func gf) #[] lb] w (OwL w xs) := by
 have hit' := hide hit
 have hex' := hide hex
 have eg' := hide eg
 have hl' := hide hl
 clear hit hex eg hl
 have hP := hide (Sp.new w)
 obtain ⟨n,hn⟩ : ∃ n,n = xs.length := ⟨_,rfl⟩
 have hn' := hide hn
 clear hn
 refine callsIn_wide.1 (callsIn_of_wp_marks (n := 0) Tryz.func81 rfl trivial (wpIn_wide.2 ?_))
 simp only [Tryz.ntmps81,List.size_toArray,List.length_cons,List.length_nil,Nat.reduceAdd,Nat.reduceSub,Array.replicate_succ,Array.replicate_zero,List.push_toArray,List.append_toArray,List.nil_append,List.cons_append]
 try dsimp only
 repeat ((fail_if_success (with_reducible refine wp_reg (id := 1) ?_)); (first | go_values | go_skip | go_step | go_guarded | go_upon | go_in | go_back | fail))
 with_reducible refine wp_reg (id := 1) ?_
 refine wpO_val rfl (run_move rfl rfl) ?_
 go_frame
 refine wpO_want rfl ?_
 go_simp
 have hca := appSeq_any gf lb xs np ex w ((unhide hit').ext (unhide hP).extf) (fun b hb => Nat.lt_of_lt_of_le (unhide hex' b hb) (unhide hP).size) (unhide eg') (unhide hl')
 refine hca.mono ?_
 rintro _ y1 ⟨A2,c2,rfl,ho,hxc⟩
 rw [← unhide hn'] at ho
 rw [← unhide hn']
 clear hca
 refine ⟨_,rfl, ?_⟩
 replace hP : Hid (Sp w [] w [] [] [(3,1, .slice A2 n c2,n,xs.flatMap encI)] y1) := hide ((unhide hP).addRow hxc ho)
 clear hxc ho
 refine wpO_want rfl ?_
 go_simp
 refine wpO_done ?_
 try go_frame
 go_wp2_with fail
 refine Sp.leaves0 ?_
 exact ⟨_,results_tmp (t := 2) rfl _ _ _,OwL.mk (unhide hn') ((unhide hP).row 0 rfl) (unhide hP).extf⟩
theorem sortRow (base : Nat) (v : Value) (xs S : List Int) (w : World) (hown : w.ownsRow base 3 1 v xs.length (xs.flatMap encI)) (hp : xs.Perm S) (hS : S.Pairwise (· < ·)) (hsz : xs.length ≤ 10000000) :
  Calls Tryz.prog 114 #[v] w fun e w' => e = .returned (.tuple #[]) ∧ w'.ownsRow base 3 1 v xs.length (S.flatMap encI) ∧ w.grownBy w' v.ownBlock := by
 have hso : xs.mergeSort (fun x y => decide (x ≤ y)) = S := sort_self hp hS
 rw [← encZ_flat] at hown
 rcases hown.2 with ⟨rfl,hz⟩ | ⟨gb,cap,cur,rfl,hbase,hgb,r1,r2,r3,r4⟩
 ·have hss : xs = [] := List.eq_nil_of_length_eq_zero hz
  subst hss
  have hS0 : S = [] := hp.symm.eq_nil
  subst hS0
  refine (AnyM.slices_Sort_int_none Tryz.sortA none 0 w).mono ?_
  rintro e w' ⟨rfl,rfl⟩
  exact ⟨rfl,World.ownsRow_nil _ _ _ _,World.grownBy.refl _ _⟩
 ·have hH : Go.Sort.Holds encZ w gb 0 xs.toArray := holds_of_block_i hgb (by simpa using r4)
  have hgl : gb < w.heap.size := (Array.getElem?_eq_some_iff.1 hgb).1
  refine (AnyM.slices_Sort_int Tryz.sortA gb 0 cap xs w hH hgl (by omega)).mono ?_
  rintro e w' ⟨rfl,nn,os,rfl⟩
  have h := ownsRow_sorted_i (os := os) (n := nn) (ts := xs.mergeSort fun x y => decide (x ≤ y)) (by simp) hbase hgb r1 r2 r3
  refine ⟨rfl, ?_,grownBy_sorted_i _⟩
  rw [hso,encZ_flat] at h
  rw [hso]
  exact h
theorem Sp.sortedR {wf w W W' : World} {T0 : List Nat} {ds : List Deferred} {L : List Cl} {Rs : List Rw} (h : Sp wf T0 w ds L Rs W) (i : Nat) {T k n : Nat} {v : Value} {xs xs' : List Value} (hk : k ≠ 0) (hi : Rs[i]? = some (T,k,v,n,xs)) (hown : W'.ownsRow wf.heap.size T k v n xs') (hg : W.grownBy W' v.ownBlock) : Sp wf T0 w ds L (Rs.set i (T,k,v,n,xs')) W' := h.push i hk hi (Ext.refl W) hown hg (.inl rfl)
set_option maxRecDepth 100000 in
set_option maxHeartbeats 16000000 in
theorem sorted_any (gf : Nat) (lb : Array Value) (xs : List Int) (np : Nat) (ex : List Nat) (w : World) (hit : Iter1 Tryz.prog gf lb (fun x : Int => #[.int .i64 x]) xs np ex w) (hex : ∀ b ∈ ex,b < w.heap.size) (eg : ∀ args w,(callFunc gf args).run Tryz.prog w = .ok (.enter gf args) w) (hl : xs.length ≤ 100000) (S : List Int) (hp : xs.Perm S) (hS : S.Pairwise (· < ·)) :
  Calls Tryz.prog 65 #[.func (.func gf) #[] lb] w (OwL w S) := by
 have hit' := hide hit
 have hex' := hide hex
 have eg' := hide eg
 have hl' := hide hl
 clear hit hex eg hl
 have hP := hide (Sp.new w)
 obtain ⟨n,hn⟩ : ∃ n,n = xs.length := ⟨_,rfl⟩
 have hn' := hide hn
 have hp' := hide hp
 have hS' := hide hS
 clear hn hp hS
 refine callsIn_wide.1 (callsIn_of_wp_marks (n := 0) Tryz.func65 rfl trivial (wpIn_wide.2 ?_))
 simp only [Tryz.ntmps65,List.size_toArray,List.length_cons,List.length_nil,Nat.reduceAdd,Nat.reduceSub,Array.replicate_succ,Array.replicate_zero,List.push_toArray,List.append_toArray,List.nil_append,List.cons_append]
 try dsimp only
 repeat ((fail_if_success (with_reducible refine wp_reg (id := 1) ?_)); (first | go_values | go_skip | go_step | go_guarded | go_upon | go_in | go_back | fail))
 with_reducible refine wp_reg (id := 1) ?_
 refine wpO_val rfl (run_move rfl rfl) ?_
 go_frame
 refine wpO_want rfl ?_
 go_simp
 have hca := collect_any gf lb xs np ex w ((unhide hit').ext (unhide hP).extf) (fun b hb => Nat.lt_of_lt_of_le (unhide hex' b hb) (unhide hP).size) (unhide eg') (unhide hl')
 refine hca.mono ?_
 rintro _ y1 ⟨A2,c2,rfl,ho,hxc⟩
 rw [← unhide hn'] at ho
 rw [← unhide hn']
 clear hca
 refine ⟨_,rfl, ?_⟩
 replace hP : Hid (Sp w [] w [] [] [(3,1, .slice A2 n c2,n,xs.flatMap encI)] y1) := hide ((unhide hP).addRow hxc ho)
 clear hxc ho
 refine wpO_want rfl ?_
 go_simp
 refine wpO_done ?_
 try go_frame
 try dsimp only
 repeat ((fail_if_success (with_reducible refine wp_reg (id := 2) ?_)); (first | go_values | go_skip | go_step | go_guarded | go_upon | go_in | go_back | fail))
 with_reducible refine wp_reg (id := 2) ?_
 refine wpO_want rfl ?_
 go_simp
 refine wpO_want rfl ?_
 go_simp
 have hca := sortRow w.heap.size (.slice A2 n c2) xs S y1 (by have h := (unhide hP).row 0 rfl; rw [unhide hn'] at h ⊢; exact h) (unhide hp') (unhide hS') (by have := unhide hl'; omega)
 refine hca.mono ?_
 clear hca
 rintro _ y2 ⟨rfl,ho,hgr⟩
 refine ⟨_,rfl, ?_⟩
 rw [← unhide hn'] at ho
 replace hP := hide ((unhide hP).sortedR 0 (by decide) rfl ho hgr)
 replace hP : Hid (Sp w [] w [] [] [(3,1, .slice A2 n c2,n,S.flatMap encI)] y2) := hP
 clear ho hgr
 refine wpO_done ?_
 try go_frame
 try dsimp only
 repeat ((fail_if_success (with_reducible refine wp_reg (id := 3) ?_)); (first | go_values | go_skip | go_step | go_guarded | go_upon | go_in | go_back | fail))
 with_reducible refine wp_reg (id := 3) ?_
 iterate 2
  refine wpO_want rfl ?_
  go_simp
 refine wpO_done ?_
 try go_frame
 go_wp2_with fail
 refine Sp.leaves0 ?_
 exact ⟨_,results_tmp (t := 2) rfl _ _ _,OwL.mk (by rw [unhide hn']; exact (unhide hp').length_eq) ((unhide hP).row 0 rfl) (unhide hP).extf⟩
set_option maxRecDepth 100000 in
set_option maxHeartbeats 16000000 in
theorem elements_any (N : Nat) (w : World) (hT : Tab w) :
  Calls Tryz.prog 41 #[.agg (setC N)] w (OwL w (toL N)) := by
 have hT' := hide hT
 obtain ⟨xs,hxs⟩ : ∃ xs,xs = toL N := ⟨_,rfl⟩
 have hl' := hide (show xs.length ≤ 100000 by have := toL_len_le N; rw [hxs]; omega)
 obtain ⟨n,hn⟩ : ∃ n,n = xs.length := ⟨_,rfl⟩
 rw [← hxs]
 have hn' := hide hn
 have hxs' := hide hxs
 clear hT hn hxs
 have hP := hide (Sp.new w)
 refine callsIn_wide.1 (callsIn_of_wp_marks (n := 0) Tryz.func41 rfl trivial (wpIn_wide.2 ?_))
 simp only [Tryz.ntmps41,List.size_toArray,List.length_cons,List.length_nil,Nat.reduceAdd,Nat.reduceSub,Array.replicate_succ,Array.replicate_zero,List.push_toArray,List.append_toArray,List.nil_append,List.cons_append]
 try dsimp only
 repeat ((fail_if_success (with_reducible refine wp_reg (id := 0) ?_)); (first | go_values | go_skip | go_step | go_guarded | go_upon | go_in | go_back | fail))
 with_reducible refine wp_reg (id := 0) ?_
 refine (unhide hP).allocO 76 (setC N) rfl (run_box (v := .agg (setC N)) rfl rfl) ?_
 intro b1 y1 hQ
 replace hP : Hid (Sp w [] w [] [(b1,76,setC N)] [] y1) := hide hQ
 clear hQ
 refine wpO_want rfl ?_
 go_simp
 refine wpO_done ?_
 try go_frame
 try dsimp only
 repeat ((fail_if_success (with_reducible refine wp_reg (id := 1) ?_)); (first | go_values | go_skip | go_step | go_guarded | go_upon | go_in | go_back | fail))
 with_reducible refine wp_reg (id := 1) ?_
 refine wpO_val rfl (load_SetR (N := N) rfl rfl ((unhide hP).get 0 rfl).whole) ?_
 try go_frame
 refine wpO_want rfl ?_
 go_simp
 refine (all_ext N _).mono ?_
 rintro _ y2 ⟨ba,rfl,hBa0,hxc⟩
 refine ⟨_,rfl, ?_⟩
 replace hP : Hid (Sp w [] w [] [(b1,76,setC N)] [] y2) := hide ((unhide hP).ext hxc)
 have hBa := hide hBa0
 clear hxc hBa0
 refine wpO_want rfl ?_
 go_simp
 have hit := all_iter N ba y2 (unhide hBa) ((unhide hT').ext (unhide hP).extf)
 rw [← unhide hxs'] at hit
 have hlt := (unhide hBa).lt
 have hca := collect_any 112 #[.pointer (some ⟨ba,0,none⟩)] xs 1 [0] y2 hit (fun b hb => by rw [List.mem_singleton] at hb; subst hb; exact ((unhide hT').ext (unhide hP).extf).lt) (enters_of Tryz.func112 (by kernel_rfl) rfl) (unhide hl')
 refine hca.mono ?_
 rintro _ y3 ⟨A2,c2,rfl,ho,hxc⟩
 rw [← unhide hn'] at ho
 rw [← unhide hn']
 clear hca
 refine ⟨_,rfl, ?_⟩
 replace hP : Hid (Sp w [] w [] [(b1,76,setC N)] [(3,1, .slice A2 n c2,n,xs.flatMap encI)] y3) := hide ((unhide hP).addRow hxc ho)
 clear hxc ho
 clear hit hlt
 refine wpO_want rfl ?_
 go_simp
 refine wpO_done ?_
 try go_frame
 go_wp2_with fail
 refine Sp.leaves0 ?_
 exact ⟨_,results_tmp (t := 2) rfl _ _ _,OwL.mk (unhide hn') ((unhide hP).row 0 rfl) (unhide hP).extf⟩
end Go.Proofs.YtoacpebmhbkmbaaGreatDoor
namespace Go.Proofs.YtoacpebmhbkmbaaGreatDoor
open Go Go.RowKit Go.Shelf
attribute [local go_sem] qUpon lUpon
section
variable {α : Type} {enc : α → List Value} {k : Nat}
def vA (enc : α → List Value) (C : List α) : Array Value := (C.flatMap enc).toArray
theorem vA_size (hk : ∀ x,(enc x).length = k) (C : List α) : (vA enc C).size = C.length * k := by
 unfold vA
 rw [List.size_toArray]
 exact flat_length hk C
theorem vA_put (hk : ∀ x,(enc x).length = k) (x : α) : ∀ (C : List α) (i : Nat),i < C.length → (C.flatMap enc).take (i * k) ++ enc x ++ (C.flatMap enc).drop (i * k + k) = (C.set i x).flatMap enc
 | [],i,h => by simp at h
 | a :: C,0,_ => by
  rw [List.flatMap_cons,List.set_cons_zero,List.flatMap_cons,Nat.zero_mul,List.take_zero,List.nil_append,Nat.zero_add,List.drop_append_of_le_length (by rw [hk]; exact Nat.le_refl _),List.drop_of_length_le (by rw [hk]; exact Nat.le_refl _),List.nil_append]
 | a :: C,i + 1,h => by
  have ih := vA_put hk x C i (by simpa using h)
  rw [List.flatMap_cons,List.set_cons_succ,List.flatMap_cons, ← ih]
  have e : (i + 1) * k = (enc a).length + i * k := by rw [hk,Nat.add_mul,Nat.one_mul,Nat.add_comm]
  rw [e,List.take_length_add_append,Nat.add_assoc,List.drop_length_add_append,List.append_assoc,List.append_assoc,List.append_assoc]
theorem run_store_elem {P : Program} {ρ : Operand → Value} {o : Oper} {t : TypeId} {p x : Operand} {w : World} {b i : Nat} {C : List α} {v : Value} {t0 : TypeId} (y : α) (ho : o.op = .store t p x) (hp : ρ p = .pointer (some ⟨b,i * k,none⟩)) (hx : ρ x = v) (hv : v.cells.toList = enc y)
  (hk : ∀ x,(enc x).length = k) (h1 : ∀ x, ∀ u ∈ enc x,u.oneCell' = true) (hs : (sizeOf t).run P w = .ok k w) (hb : Blk w b t0 (vA enc C)) (hi : i < C.length) :
  (execOp ρ o).run P w = .ok .skip (w.setRow b (vA enc (C.set i y))) := by
 have hle : i * k + k ≤ C.length * k := by
  have := Nat.mul_le_mul_right k (show i + 1 ≤ C.length from hi)
  rw [Nat.add_mul,Nat.one_mul] at this
  exact this
 have hst := run_storeCells_at (P := P) b (i * k) t0 (enc y) 0 (vA enc C) w hb (by rw [vA_size hk,hk]; omega) (h1 y)
 rw [Nat.add_zero,hk] at hst
 have e : ((vA enc C).toList.take (i * k) ++ enc y ++ (vA enc C).toList.drop (i * k + k)).toArray = vA enc (C.set i y) := by
  unfold vA
  rw [← vA_put hk y C i hi]
 rw [e] at hst
 have hsz : v.cells.size = k := by rw [← Array.length_toList,hv,hk]
 unfold execOp
 simp only [ho,hp,hx]
 simp [Instr.storeAt,Instr.sureAddr,storeVar,hs,hv,hsz,hst,Result.andThen]
theorem flat_rep {z : List Value} (hz : z.length = k) (n : Nat) (j : Nat) (hj : j < n * k) : ((List.replicate n z).flatMap id)[j]? = z[j % k]? := by
 induction n generalizing j with
 | zero => omega
 | succ n ih =>
  rw [List.replicate_succ,List.flatMap_cons]
  by_cases h : j < k
  ·rw [List.getElem?_append_left (by simpa [hz] using h),Nat.mod_eq_of_lt h]; rfl
  ·rw [List.getElem?_append_right (by simp [hz]; omega),ih _ (by simp only [id,hz]; rw [Nat.add_mul,Nat.one_mul] at hj; omega)]
   congr 1
   simp only [id,hz]
   exact (Nat.mod_eq_sub_mod (by omega)).symm
theorem run_mkA {P : Program} {ρ : Operand → Value} {o : Oper} {x y : Operand} {n by_ : Nat} {ST T : TypeId} {z : Value} (d : α) (ho : o.op = .makeSlice ST x y) (hx : ρ x = .int .i64 n) (hy : ρ y = .int .i64 n) (hn : n ≤ 100000) (ht : P.underlying ST = some (.slice T)) (hi : (P.info? T).map (fun i => (i.zero,i.size,i.bytes)) = some (some z,k,by_)) (hb : by_ ≤ 1000) (hz : z.cells.toList = enc d) (hk : ∀ x,(enc x).length = k) (hk0 : 0 < k) (w : World) :
  (execOp ρ o).run P w = .ok (.value (.slice (some ⟨w.heap.size,0,none⟩) n n)) (w.alloc (.cells (vA enc (List.replicate n d)) T)) := by
 obtain ⟨i0,hi0,hi1⟩ := Option.map_eq_some_iff.1 hi
 simp only [Prod.mk.injEq] at hi1
 obtain ⟨hz1,hz2,hz3⟩ := hi1
 have hbn : (i0.bytes : Int) * (n : Int) ≤ 281474976710656 := by
  rw [hz3]
  have h1 : by_ * n ≤ 1000 * 100000 := Nat.mul_le_mul hb hn
  have h2 : (by_ : Int) * (n : Int) = ((by_ * n : Nat) : Int) := by simp
  rw [h2]
  omega
 have h := run_make (P := P) w ST T i0 z ht hi0 hz1 .i64 .i64 n n (by omega) (Int.le_refl _) hbn (by omega)
 rw [hz2] at h
 simp only [Int.toNat_natCast] at h
 have hsz : z.cells.size = k := by rw [← Array.length_toList,hz,hk]
 have e : madeCells z.cells (n * k) = vA enc (List.replicate n d) := by
  apply Array.ext_getElem?
  intro j
  by_cases hj : j < n * k
  ·have h1 : j % k < z.cells.size := by rw [hsz]; exact Nat.mod_lt _ hk0
   have h2 : (vA enc (List.replicate n d))[j]? = (enc d)[j % k]? := by
    unfold vA
    rw [List.getElem?_toArray]
    have := flat_rep (hk d) n j hj
    rw [← this]
    congr 1
    rw [List.flatMap_id, ← List.map_replicate (f := enc),List.flatMap_def]
   rw [h2, ← hz,Array.getElem?_toList,Array.getElem?_eq_getElem h1]
   simp [madeCells,hsz,hj]
   exact (getElem!_pos z.cells (j % k) h1)
  ·rw [Array.getElem?_eq_none (by simp [madeCells]; omega),Array.getElem?_eq_none (by rw [vA_size hk,List.length_replicate]; omega)]
 rw [e] at h
 unfold execOp
 simp only [ho,hx,hy]
 simp [h,Result.andThen]
end
def encB (b : Bool) : List Value := [.bool b]
theorem flat1 {α : Type} {enc : α → List Value} {f : α → Value} (he : ∀ x,enc x = [f x]) : ∀ C : List α,C.flatMap enc = C.map f
 | [] => rfl
 | x :: C => by rw [List.flatMap_cons,List.map_cons,he,flat1 he C]; rfl
theorem run_store_elem1 {α : Type} {enc : α → List Value} {P : Program} {ρ : Operand → Value} {o : Oper} {t : TypeId} {p x : Operand} {w : World} {b i : Nat} {C : List α} {v : Value} {t0 : TypeId} (y : α) (ho : o.op = .store t p x) (hp : ρ p = .pointer (some ⟨b,i,none⟩)) (hx : ρ x = v) (hv : v.cells.toList = enc y)
  (hk : ∀ x,(enc x).length = 1) (h1 : ∀ x, ∀ u ∈ enc x,u.oneCell' = true) (hs : (sizeOf t).run P w = .ok 1 w) (hb : Blk w b t0 (vA enc C)) (hi : i < C.length) :
  (execOp ρ o).run P w = .ok .skip (w.setRow b (vA enc (C.set i y))) := run_store_elem (k := 1) y ho (by rw [Nat.mul_one]; exact hp) hx hv hk h1 hs hb hi
section
variable {P : Program} {l : List Oper} {a : Act} {W w wf : World} {T0 : List Nat} {ds : List Deferred} {L : List Cl} {Rs : List Rw} {S : List Nat} {w1 : World} {safe : Nat → Bool} {Q : Act → World → Prop} {n : Nat}
end
end Go.Proofs.YtoacpebmhbkmbaaGreatDoor
namespace Go.Proofs.YtoacpebmhbkmbaaGreatDoor
open Go Go.RowKit Go.Shelf
attribute [local go_sem] qUpon lUpon
theorem eqS_nil {N : Nat} : eqS N 0 = true ↔ toL N = [] := by
 rw [eqS_iff,List.eq_nil_iff_forall_not_mem]
 have hm := fun x => mem_toL' (N := N) (x := x)
 generalize toL N = l at hm
 constructor
 ·intro h x hx
  have := (hm x).1 hx
  have h2 := h x.toNat (by omega)
  rw [this.2.2,Nat.zero_testBit] at h2
  cases h2
 ·intro h k hk
  rw [Nat.zero_testBit]
  cases hb : N.testBit k
  ·rfl
  ·exact absurd ((hm k).2 ⟨by omega,by omega,by simpa using hb⟩) (h _)
set_option maxRecDepth 100000 in
set_option maxHeartbeats 4000000 in
theorem empty_any (N : Nat) (w : World) : Calls Tryz.prog 46 #[.agg (setC N)] w fun e w' => e = .returned (.bool (eqS N 0)) ∧ Ext w w' := by
 have hB := hide (Blk.new w 76 (setC N))
 have hx := hide (ext_self1 w (.cells (setC N) 76))
 go_enter Tryz.func46,Tryz.ntmps46
 try dsimp only
 repeat ((fail_if_success (with_reducible refine wp_reg (id := 1) ?_)); (first | go_values | go_skip | go_step | go_guarded | go_upon | go_in | go_back | fail))
 with_reducible refine wp_reg (id := 1) ?_
 refine wpO_val rfl (load_SetR rfl rfl (unhide hB).whole) ?_
 refine wpO_want rfl ?_
 go_simp
 refine wpO_val rfl (run_eql_Set (N := N) (M := 0) rfl rfl rfl) ?_
 go_frame
 refine wpO_want rfl ?_
 go_simp
 refine wpO_done ?_
 try go_frame
 go_wp2_with fail
 go_ret
 exact ⟨rfl,unhide hx⟩
end Go.Proofs.YtoacpebmhbkmbaaGreatDoor
