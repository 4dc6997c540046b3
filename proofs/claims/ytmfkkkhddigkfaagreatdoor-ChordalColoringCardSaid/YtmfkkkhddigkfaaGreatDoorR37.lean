/- Parts of a proof, laid together. Each part says its own conditions. -/
import Derived.Test.YtmfkkkhddigkfaaGreatDoorR36
import Derived.Shelf.RegionOpenPlain
import Derived.Deep.LoopGhost
import Derived.Lib.SlicesMore
import Derived.Lib.SliceRun
namespace Go.Proofs.YtmfkkkhddigkfaaGreatDoor
open Go Go.RowKit Go.Shelf
attribute [local go_sem] qUpon lUpon
set_option maxRecDepth 100000 in
set_option maxHeartbeats 4000000 in
theorem cloneW_any (A : Option Addr) (L : List Int) (cL : Nat) (w : World) (hL : SlAt encI 1 w A L) (hl : L.length ≤ 2000) :
  Calls Tryz.prog 83 #[.slice A L.length cL] w fun e w' => ∃ A' c',e = .returned (.slice A' L.length c') ∧ w'.ownsRow w.heap.size 3 1 (.slice A' L.length c') L.length (L.flatMap encI) ∧ Ext w w' := by
 have q := fun (w : World) (a : Option Addr) (n c n' c' : Nat) => Lib.run_eql_slice_nil (P := Tryz.prog) w 92 3 a n c n' c' Tryz.underlying92
 cases A with
 | none =>
  have h0 : L = [] := by
   cases L with
   | nil => rfl
   | cons a r =>
    obtain ⟨b,off,e,_⟩ := hL.at_ (i := 0) (by simp)
    cases e
  subst h0
  have hself := Ext.refl w
  go_enter Tryz.func83,Tryz.ntmps83
  go_wp2_with fail
  go_ret
  exact ⟨none,0,rfl,World.ownsRow_nil _ _ _ _,hself⟩
 | some a =>
  have hL' := hide hL
  clear hL
  go_enter Tryz.func83,Tryz.ntmps83
  try dsimp only
  repeat ((fail_if_success (with_reducible refine wp_reg (id := 3) ?_)); (first | go_values | go_skip | go_step | go_guarded | go_upon | go_in | go_back | fail))
  with_reducible refine wp_reg (id := 3) ?_
  refine wpO_want rfl ?_
  go_simp
  have hown := hide (World.ownsRow_made (base := w.heap.size) (e := 3) (size := 1) w #[] 0 (Nat.le_refl _) (by decide) rfl)
  have hx1 := hide (ext_self1 w (.cells #[] 3))
  refine wpO_want rfl ?_
  go_simp
  refine wpO_apA (enc := encI) rfl infoI Tryz.underlying92 one_encI (fun _ => rfl) (by decide) (by decide) rfl (xs := []) L rfl rfl rfl ((unhide hL').ext (unhide hx1)) (unhide hown) (by omega) (Below.size (unhide hx1)) ?_
  intro A1 c1 w1 ho1 hg1 hat1
  have hx := hide ((unhide hx1).of_new (Keep.of_grown hg1) (fun z hz => Nat.le_of_eq (List.mem_singleton.1 hz).symm))
  have ho := hide ho1
  clear ho1 hg1 hat1
  try go_frame
  refine wpO_want rfl ?_
  go_simp
  refine wpO_done ?_
  try go_frame
  go_wp2_with fail
  go_ret
  have h := unhide ho
  rw [List.nil_append,Nat.zero_add] at h
  exact ⟨A1,c1,by first | rfl | (rw [Nat.zero_add]; rfl),h,unhide hx⟩
theorem run_build1W {ρ : Operand → Value} {o : Oper} {x : Operand} {w : World} {z : Int} (ho : o.op = .buildSlice 92 1 #[(0,x)]) (hx : ρ x = .int .i64 z) : (execOp ρ o).run Tryz.prog w = .ok (.value (.slice (some ⟨w.heap.size,0,none⟩) 1 1)) (w.alloc (.cells #[.int .i64 z] 3)) := by
 unfold execOp
 simp only [ho]
 simp [go_sem,hx]
def LoPost (w : World) (o : Option (List Int)) (e : Ending) (w' : World) : Prop := match o with
 | none => e = .returned (.slice none 0 0) ∧ Ext w w'
 | some l => ∃ A c,e = .returned (.slice A l.length c) ∧ w'.ownsRow w.heap.size 3 1 (.slice A l.length c) l.length (l.flatMap encI) ∧ Ext w w'
theorem LoPost.none {w w' : World} (h : Ext w w') : LoPost w none (.returned (.slice none 0 0)) w' := ⟨rfl,h⟩
theorem LoPost.some {w w' : World} {l : List Int} {A : Option Addr} {n c : Nat} (hn : n = l.length) (h : w'.ownsRow w.heap.size 3 1 (.slice A n c) n (l.flatMap encI)) (hx : Ext w w') : LoPost w (some l) (.returned (.slice A n c)) w' := by
 subst hn
 exact ⟨A,c,rfl,h,hx⟩
set_option maxRecDepth 100000 in
set_option maxHeartbeats 16000000 in
theorem longer_any (A : Option Addr) (L : List Int) (cL : Nat) (og : Option Addr) (V : List (Int × Thing)) (E : List ((Int × Int) × Thing)) (few : Int) (w : World) (hL : SlAt encI 1 w A L) (h2 : 2 ≤ L.length) (hl : L.length ≤ 1900) (hcL : L.length ≤ cL) (hr : ∀ x ∈ L,0 ≤ x ∧ x < 1024) (hg : GL w og V E) (hT : Tab w) (hfew : 0 ≤ few ∧ few ≤ 3000) :
  Calls Tryz.prog 54 #[.slice A L.length cL, .pointer og, .int .i64 few] w (LoPost w (longerS V E L few)) := by
 obtain ⟨b,off,rfl,hcc⟩ := atI hL (i := 0) (by omega)
 clear hcc
 have hL' := hide hL
 have hg' := hide hg
 have hT' := hide hT
 have hr' := hide hr
 obtain ⟨n,hn⟩ : ∃ n,n = L.length := ⟨_,rfl⟩
 obtain ⟨n1,hn1⟩ : ∃ n1,n1 + 1 = n := ⟨n - 1,by omega⟩
 have hwn : IntKind.i64.wrap ((n : Int) - 1) = (n1 : Int) := by
  rw [show (n : Int) - 1 = (n1 : Int) by omega]
  exact IntWalk.i64_in _ (by omega)
 have hwf : IntKind.i64.wrap (few - 1) = few - 1 := IntWalk.i64_in _ (by omega)
 have hnx := hide (fun (W : World) (hW : Ext w W) => by
  have h := next_any (some ⟨b,off,none⟩) L cL og V E W (hL.ext hW) h2 (by omega) hcL hr (hg.ext hW)
  rw [← hn] at h
  exact h)
 have hcl := hide (fun (W : World) (hW : Ext w W) => by
  have h := cloneW_any (some ⟨b,off,none⟩) L cL W (hL.ext hW) (by omega)
  rw [← hn] at h
  exact h)
 have hsh := hide (fun (v : Int) (hv : 0 ≤ v ∧ v < 1024) (A' : Option Addr) (m c : Nat) (hm : m = n + 1) (hc : m ≤ c) (W : World) (hW : Ext w W) (hA : SlAt encI 1 W A' (L ++ [v])) => by
  have h := short_any A' (L ++ [v]) c og V E W hA (by rw [List.length_append]; omega) (by rw [List.length_append,List.length_singleton]; omega) (by rw [List.length_append,List.length_singleton]; omega) (fun x hx => by
   rcases List.mem_append.1 hx with hx | hx
   ·exact hr x hx
   ·rw [List.mem_singleton] at hx; rw [hx]; exact hv) (hg.ext hW) (hT.ext hW)
  rw [show (L ++ [v]).length = m by rw [List.length_append,List.length_singleton]; omega] at h
  exact h)
 have hdef : longerS V E L few = if (L.length : Int) = few - 1 then (if anyB (lastW V E L &&& nearS (L.getLastD 0) E) = true then some (L ++ [minV (lastW V E L &&& nearS (L.getLastD 0) E)]) else none)
  else ((toL (nextW V E L &&& nearS (L.getLastD 0) E)).find? fun v => decide (shortS V E (L ++ [v]) = few)).map fun v => L ++ [v] := rfl
 generalize nextW V E L = nx at hnx hdef
 generalize lastW V E L = la at hnx hdef
 have hlast := last_at hL (by omega)
 rw [show L.length - 1 = n1 by omega] at hlast
 have hlt1 : n1 < n := by omega
 have hlt2 : (n1 : Int) < (n : Int) := by omega
 obtain ⟨xl,hxl⟩ : ∃ xl,xl = L.getLastD 0 := ⟨_,rfl⟩
 rw [← hxl] at hlast
 rw [← hxl, ← hn] at hdef
 have hlast' := hide (fun (W : World) (hW : Ext w W) (W' : World) (hk : Keep [] W W') => hlast W' (hW.trans ((Ext.refl _).of_new hk (by simp))))
 generalize longerS V E L few = res at hdef ⊢
 have hdef' := hide hdef
 rw [← hn]
 have hn' := hide hn
 have hnb := hide (show 2 ≤ n ∧ n ≤ 1900 by omega)
 clear hL hg hT hr hn hn1 hcL hl h2 hlast hxl hdef hfew
 obtain ⟨ne,hne⟩ : ∃ ne,ne = nearS xl E := ⟨_,rfl⟩
 have hnr := hide (fun (W : World) (hW : Ext w W) => nearG og V E xl W ((unhide hg').ext hW))
 rw [← hne] at hdef' hnr
 clear hne
 have hP := hide (Sp.new w)
 refine callsIn_wide.1 (callsIn_of_wp_marks (n := 0) Tryz.func54 rfl trivial (wpIn_wide.2 ?_))
 simp only [Tryz.ntmps54,List.size_toArray,List.length_cons,List.length_nil,Nat.reduceAdd,Nat.reduceSub,Array.replicate_succ,Array.replicate_zero,List.push_toArray,List.append_toArray,List.nil_append,List.cons_append]
 try dsimp only
 repeat ((fail_if_success (with_reducible refine wp_reg (id := 0) ?_)); (first | go_values | go_skip | go_step | go_guarded | go_upon | go_in | go_back | fail))
 with_reducible refine wp_reg (id := 0) ?_
 refine (unhide hP).allocO 92 #[.slice (some ⟨b,off,none⟩) n cL] rfl (run_box (v := .slice (some ⟨b,off,none⟩) n cL) rfl rfl) ?_
 intro bw y1 hQ
 replace hP : Hid (Sp w [] w [] [(bw,92, #[.slice (some ⟨b,off,none⟩) n cL])] [] y1) := hide hQ
 clear hQ
 refine (unhide hP).allocO 24 #[.pointer og] rfl (run_box (v := .pointer og) rfl rfl) ?_
 intro bg y2 hQ
 replace hP : Hid (Sp w [] w [] [(bw,92, #[.slice (some ⟨b,off,none⟩) n cL]),(bg,24, #[.pointer og])] [] y2) := hide hQ
 clear hQ
 refine (unhide hP).allocO 3 #[.int .i64 few] rfl (run_box (v := .int .i64 few) rfl rfl) ?_
 intro bf y3 hQ
 replace hP : Hid (Sp w [] w [] [(bw,92, #[.slice (some ⟨b,off,none⟩) n cL]),(bg,24, #[.pointer og]),(bf,3, #[.int .i64 few])] [] y3) := hide hQ
 clear hQ
 refine (unhide hP).allocO 92 #[.slice none 0 0] rfl (by go_simp) ?_
 intro br y4 hQ
 replace hP : Hid (Sp w [] w [] [(bw,92, #[.slice (some ⟨b,off,none⟩) n cL]),(bg,24, #[.pointer og]),(bf,3, #[.int .i64 few]),(br,92, #[.slice none 0 0])] [] y4) := hide hQ
 clear hQ
 refine wpO_done ?_
 try go_frame
 try dsimp only
 repeat ((fail_if_success (with_reducible refine wp_reg (id := 1) ?_)); (first | go_values | go_skip | go_step | go_guarded | go_upon | go_in | go_back | fail))
 with_reducible refine wp_reg (id := 1) ?_
 refine wpO_val rfl (load_V (v := .slice (some ⟨b,off,none⟩) n cL) rfl rfl (by simp [go_sem]) (((unhide hP).get 0 rfl).cell 0)) ?_
 go_frame
 refine wpO_val rfl (load_V (v := .pointer og) rfl rfl (by simp [go_sem]) (((unhide hP).get 1 rfl).cell 0)) ?_
 go_frame
 refine wpO_want rfl ?_
 go_simp
 refine (unhide hnx _ (unhide hP).extf).mono ?_
 rintro _ y5 ⟨rfl,hxc⟩
 refine ⟨_,rfl, ?_⟩
 replace hP : Hid (Sp w [] w [] [(bw,92, #[.slice (some ⟨b,off,none⟩) n cL]),(bg,24, #[.pointer og]),(bf,3, #[.int .i64 few]),(br,92, #[.slice none 0 0])] [] y5) := hide ((unhide hP).ext hxc)
 clear hxc
 generalize htu0 : Value.tuple _ = tu
 have htu := hide htu0
 clear htu0
 refine wpO_val rfl (run_move rfl rfl) ?_
 go_frame
 refine wpO_val rfl (run_extract (i := 0) (v := .agg (setC nx)) rfl (unhide htu).symm rfl) ?_
 go_frame
 refine wpO_val rfl (run_extract (i := 1) (v := .agg (setC la)) rfl (unhide htu).symm rfl) ?_
 go_frame
 clear hnx
 refine (unhide hP).allocO 51 (setC 0) rfl (run_alloc_set rfl) ?_
 intro bm y6 hQ
 replace hP : Hid (Sp w [] w [] [(bw,92, #[.slice (some ⟨b,off,none⟩) n cL]),(bg,24, #[.pointer og]),(bf,3, #[.int .i64 few]),(br,92, #[.slice none 0 0]),(bm,51,setC 0)] [] y6) := hide hQ
 clear hQ
 refine (unhide hP).allocO 51 (setC 0) rfl (run_alloc_set rfl) ?_
 intro bl y7 hQ
 replace hP : Hid (Sp w [] w [] [(bw,92, #[.slice (some ⟨b,off,none⟩) n cL]),(bg,24, #[.pointer og]),(bf,3, #[.int .i64 few]),(br,92, #[.slice none 0 0]),(bm,51,setC 0),(bl,51,setC 0)] [] y7) := hide hQ
 clear hQ
 refine (unhide hP).setO 4 (setC nx) rfl rfl (fun hb => store_SetR (N := nx) rfl rfl rfl hb) ?_
 intro y8 hQ
 replace hP : Hid (Sp w [] w [] [(bw,92, #[.slice (some ⟨b,off,none⟩) n cL]),(bg,24, #[.pointer og]),(bf,3, #[.int .i64 few]),(br,92, #[.slice none 0 0]),(bm,51,setC nx),(bl,51,setC 0)] [] y8) := hide hQ
 clear hQ
 refine (unhide hP).setO 5 (setC la) rfl rfl (fun hb => store_SetR (N := la) rfl rfl rfl hb) ?_
 intro y9 hQ
 replace hP : Hid (Sp w [] w [] [(bw,92, #[.slice (some ⟨b,off,none⟩) n cL]),(bg,24, #[.pointer og]),(bf,3, #[.int .i64 few]),(br,92, #[.slice none 0 0]),(bm,51,setC nx),(bl,51,setC la)] [] y9) := hide hQ
 clear hQ
 refine wpO_done ?_
 try go_frame
 go_wp2_with fail
 have ql := unhide hlast' _ (unhide hP).extf
 have hself := Keep.refl [] y9
 refine wp_regionK (P := Tryz.prog) [] [0,1,2,3,4,5,6,7] [9] 2 #[true,true,true,true,true,true,true,true,false,false] (by kernel_rfl) (by kernel_rfl) rfl (by rfl) ?_
 refine ql_want (v := .pointer og) rfl (by rfl) (fun W hW => qUpon_ofX (load_V rfl rfl (by simp [go_sem]) ((unhide hP).cellK 1 0 rfl rfl (by simp) W hW))) ?_
 go_frame
 refine ql_want (v := .slice (some ⟨b,off,none⟩) n cL) rfl (by rfl) (fun W hW => qUpon_ofX (load_V rfl rfl (by simp [go_sem]) ((unhide hP).cellK 0 0 rfl rfl (by simp) W hW))) ?_
 go_frame
 refine ql_want (v := .slice (some ⟨b,off,none⟩) n cL) rfl (by rfl) (fun W hW => qUpon_ofX (load_V rfl rfl (by simp [go_sem]) ((unhide hP).cellK 0 0 rfl rfl (by simp) W hW))) ?_
 go_frame
 iterate 4
  refine ql_want (v := ?_) rfl (by rfl) (fun W hW => ?_) ?_
  rotate_left
  ·go_simp
   first | done | rfl
  go_frame
 refine ql_want (v := .agg (setC ne)) rfl (by rfl) (fun W hW => ?_) ?_
 ·go_simp
  refine (unhide hnr _ ((unhide hP).extf.trans ((Ext.refl _).of_new hW (by simp)))).mono ?_
  rintro _ _ ⟨h1,h2⟩
  exact ⟨_,h1,rfl,h2⟩
 go_frame
 refine wpQL_nil (fun y10 hxq => ?_)
 have hK := hide (hxq.keep [])
 replace hP : Hid (Sp w [] w [] [(bw,92, #[.slice (some ⟨b,off,none⟩) n cL]),(bg,24, #[.pointer og]),(bf,3, #[.int .i64 few]),(br,92, #[.slice none 0 0]),(bm,51,setC nx),(bl,51,setC la)] [] y10) := hide ((unhide hP).ext hxq)
 clear hxq
 clear ql hself hlast' hnr
 refine (unhide hP).allocX (unhide hK) 51 (setC 0) (j := 8) (by kernel_rfl) rfl (by rfl) #[true,true,true,true,true,true,true,true,true,false] (by rfl) (run_alloc_set rfl) ?_
 intro bn y11 hQ hK2
 replace hP : Hid (Sp w [] w [] [(bw,92, #[.slice (some ⟨b,off,none⟩) n cL]),(bg,24, #[.pointer og]),(bf,3, #[.int .i64 few]),(br,92, #[.slice none 0 0]),(bm,51,setC nx),(bl,51,setC la),(bn,51,setC 0)] [] y11) := hide hQ
 replace hK := hide hK2
 clear hQ hK2
 try go_frame
 refine (unhide hP).setX 6 (setC ne) rfl (j := 9) (by kernel_rfl) rfl (by rfl) #[true,true,true,true,true,true,true,true,true,true] (by rfl) rfl (fun hb => store_SetR (N := ne) rfl (by rfl) (by rfl) hb) ?_
 intro y12 hQ
 replace hP : Hid (Sp w [] w [] [(bw,92, #[.slice (some ⟨b,off,none⟩) n cL]),(bg,24, #[.pointer og]),(bf,3, #[.int .i64 few]),(br,92, #[.slice none 0 0]),(bm,51,setC nx),(bl,51,setC la),(bn,51,setC ne)] [] y12) := hide hQ
 clear hQ
 try go_frame
 refine wpX_done (by kernel_rfl) ?_
 try go_frame
 clear hK
 by_cases hnf : (n : Int) = few - 1
 ·rw [if_pos hnf] at hdef'
  try dsimp only
  repeat ((fail_if_success (with_reducible refine wp_reg (id := 3) ?_)); (first | go_values | go_skip | go_step | go_guarded | go_upon | go_in | go_back | fail))
  with_reducible refine wp_reg (id := 3) ?_
  refine wpO_val rfl (load_V (v := .slice (some ⟨b,off,none⟩) n cL) rfl rfl (by simp [go_sem]) (((unhide hP).get 0 rfl).cell 0)) ?_
  go_frame
  refine wpO_want rfl ?_
  go_simp
  refine wpO_val rfl (load_V (v := .int .i64 few) rfl rfl (by simp [go_sem]) (((unhide hP).get 2 rfl).cell 0)) ?_
  go_frame
  iterate 2
   refine wpO_want rfl ?_
   go_simp
  refine wpO_done ?_
  try go_frame
  obtain ⟨mv,hmv⟩ : ∃ mv,mv = minV (la &&& ne) := ⟨_,rfl⟩
  obtain ⟨ab,hab⟩ : ∃ ab,ab = anyB (la &&& ne) := ⟨_,rfl⟩
  rw [← hmv, ← hab] at hdef'
  have hmn := hide (fun (W : World) (hW : Ext w W) => min_any (la &&& ne) W ((unhide hT').ext hW))
  rw [← hmv, ← hab] at hmn
  clear hmv hab
  try dsimp only
  repeat ((fail_if_success (with_reducible refine wp_reg (id := 4) ?_)); (first | go_values | go_skip | go_step | go_guarded | go_upon | go_in | go_back | fail))
  with_reducible refine wp_reg (id := 4) ?_
  refine wpO_val rfl (load_SetR (N := la) rfl rfl ((unhide hP).get 5 rfl).whole) ?_
  refine wpO_val rfl (load_SetR (N := ne) rfl rfl ((unhide hP).get 6 rfl).whole) ?_
  refine wpO_want rfl ?_
  go_simp
  refine (inter_any _ _ _).mono ?_
  rintro _ y13 ⟨rfl,hxc⟩
  refine ⟨_,rfl, ?_⟩
  replace hP : Hid (Sp w [] w [] [(bw,92, #[.slice (some ⟨b,off,none⟩) n cL]),(bg,24, #[.pointer og]),(bf,3, #[.int .i64 few]),(br,92, #[.slice none 0 0]),(bm,51,setC nx),(bl,51,setC la),(bn,51,setC ne)] [] y13) := hide ((unhide hP).ext hxc)
  clear hxc
  refine wpO_want rfl ?_
  go_simp
  refine (unhide hmn _ (unhide hP).extf).mono ?_
  rintro _ y14 ⟨rfl,hxc⟩
  refine ⟨_,rfl, ?_⟩
  replace hP : Hid (Sp w [] w [] [(bw,92, #[.slice (some ⟨b,off,none⟩) n cL]),(bg,24, #[.pointer og]),(bf,3, #[.int .i64 few]),(br,92, #[.slice none 0 0]),(bm,51,setC nx),(bl,51,setC la),(bn,51,setC ne)] [] y14) := hide ((unhide hP).ext hxc)
  clear hxc
  generalize htu0 : Value.tuple _ = tu
  have htu := hide htu0
  clear htu0
  refine wpO_val rfl (run_move rfl rfl) ?_
  go_frame
  refine wpO_val rfl (run_extract (i := 0) (v := .int .i64 mv) rfl (unhide htu).symm rfl) ?_
  go_frame
  refine wpO_val rfl (run_extract (i := 1) (v := .bool ab) rfl (unhide htu).symm rfl) ?_
  go_frame
  iterate 2
   refine wpO_want rfl ?_
   go_simp
  refine wpO_done ?_
  try go_frame
  clear hmn
  cases ab
  ·have hres : res = none := by have h := unhide hdef'; rw [if_neg (by simp)] at h; exact h
   have hres' := hide hres
   clear hres
   try dsimp only
   repeat ((fail_if_success (with_reducible refine wp_reg (id := 6) ?_)); (first | go_values | go_skip | go_step | go_guarded | go_upon | go_in | go_back | fail))
   with_reducible refine wp_reg (id := 6) ?_
   refine (unhide hP).setO 3 #[.slice none 0 0] rfl rfl (fun hb => run_store_row (v := .slice none 0 0) rfl rfl rfl (by simp [go_sem]) hb rfl (by simp [Value.cells,Value.oneCell'])) ?_
   intro y15 hQ
   replace hP : Hid (Sp w [] w [] [(bw,92, #[.slice (some ⟨b,off,none⟩) n cL]),(bg,24, #[.pointer og]),(bf,3, #[.int .i64 few]),(br,92, #[.slice none 0 0]),(bm,51,setC nx),(bl,51,setC la),(bn,51,setC ne)] [] y15) := hide hQ
   clear hQ
   refine wpO_done ?_
   try go_frame
   go_wp2_with fail
   refine (unhide hP).leaves ?_
   intro w' hx hst
   refine ⟨_,ret_cell1 (t := 6) rfl rfl (loadVar_V (by simp [go_sem]) ((hst.get 3 rfl).cell 0)), ?_⟩
   rw [unhide hres']
   exact LoPost.none hx
  ·have hres : res = some (L ++ [mv]) := by have h := unhide hdef'; rw [if_pos rfl] at h; exact h
   have hres' := hide hres
   clear hres
   clear htu
   try dsimp only
   repeat ((fail_if_success (with_reducible refine wp_reg (id := 7) ?_)); (first | go_values | go_skip | go_step | go_guarded | go_upon | go_in | go_back | fail))
   with_reducible refine wp_reg (id := 7) ?_
   refine wpO_val rfl (load_V (v := .slice (some ⟨b,off,none⟩) n cL) rfl rfl (by simp [go_sem]) (((unhide hP).get 0 rfl).cell 0)) ?_
   go_frame
   refine wpO_want rfl ?_
   go_simp
   refine (unhide hcl _ (unhide hP).extf).mono ?_
   rintro _ y15 ⟨A5,c5,rfl,ho5,hx5⟩
   refine ⟨_,rfl, ?_⟩
   replace hP : Hid (Sp w [] w [] [(bw,92, #[.slice (some ⟨b,off,none⟩) n cL]),(bg,24, #[.pointer og]),(bf,3, #[.int .i64 few]),(br,92, #[.slice none 0 0]),(bm,51,setC nx),(bl,51,setC la),(bn,51,setC ne)] [(3,1, .slice A5 n c5,n,L.flatMap encI)] y15) := hide ((unhide hP).addRow hx5 ho5)
   clear ho5 hx5
   refine wpO_val rfl (run_move rfl rfl) ?_
   go_frame
   refine (unhide hP).build1O 3 #[.int .i64 mv] rfl (run_build1W rfl rfl) ?_
   intro bt y16 hQ
   replace hP : Hid (Sp w [] w [] [(bw,92, #[.slice (some ⟨b,off,none⟩) n cL]),(bg,24, #[.pointer og]),(bf,3, #[.int .i64 few]),(br,92, #[.slice none 0 0]),(bm,51,setC nx),(bl,51,setC la),(bn,51,setC ne),(bt,3, #[.int .i64 mv])] [(3,1, .slice A5 n c5,n,L.flatMap encI)] y16) := hide hQ
   clear hQ
   go_frame
   refine (unhide hP).ap1O (enc := encI) (T := 3) (ST := 92) 0 (v := .slice A5 n c5) (m := n) (xs := L) rfl rfl infoI Tryz.underlying92 one_encI (fun _ => rfl) (by decide) (by decide) rfl mv rfl rfl ((unhide hP).get 7 rfl) (by have := unhide hnb; omega) ?_
   intro A6 c6 y17 hQ
   replace hP : Hid (Sp w [] w [] [(bw,92, #[.slice (some ⟨b,off,none⟩) n cL]),(bg,24, #[.pointer og]),(bf,3, #[.int .i64 few]),(br,92, #[.slice none 0 0]),(bm,51,setC nx),(bl,51,setC la),(bn,51,setC ne),(bt,3, #[.int .i64 mv])] [(3,1, .slice A6 (n + 1) c6,n + 1,(L ++ [mv]).flatMap encI)] y17) := hide hQ
   clear hQ
   go_frame
   replace hP : Hid (Sp w [] w [] [(bw,92, #[.slice (some ⟨b,off,none⟩) n cL]),(bg,24, #[.pointer og]),(bf,3, #[.int .i64 few]),(br,92, #[.slice none 0 0]),(bm,51,setC nx),(bl,51,setC la),(bn,51,setC ne)] [(3,1, .slice A6 (n + 1) c6,n + 1,(L ++ [mv]).flatMap encI)] y17) := hide ((unhide hP).sub (List.sublist_append_left _ ([(bt,3, #[.int .i64 mv])] : List Cl)) (List.Sublist.refl _))
   refine (unhide hP).setO 3 #[.slice A6 (n + 1) c6] rfl rfl (fun hb => run_store_row (v := .slice A6 (n + 1) c6) rfl rfl rfl (by simp [go_sem]) hb rfl (by simp [Value.cells,Value.oneCell'])) ?_
   intro y18 hQ
   replace hP : Hid (Sp w [] w [] [(bw,92, #[.slice (some ⟨b,off,none⟩) n cL]),(bg,24, #[.pointer og]),(bf,3, #[.int .i64 few]),(br,92, #[.slice A6 (n + 1) c6]),(bm,51,setC nx),(bl,51,setC la),(bn,51,setC ne)] [(3,1, .slice A6 (n + 1) c6,n + 1,(L ++ [mv]).flatMap encI)] y18) := hide hQ
   clear hQ
   refine wpO_done ?_
   try go_frame
   go_wp2_with fail
   refine (unhide hP).leaves ?_
   intro w' hx hst
   refine ⟨_,ret_cell1 (t := 6) rfl rfl (loadVar_V (by simp [go_sem]) ((hst.get 3 rfl).cell 0)), ?_⟩
   rw [unhide hres']
   exact LoPost.some (by rw [List.length_append, ← unhide hn']; rfl) (hst.row 0 rfl) hx
 ·rw [if_neg hnf] at hdef'
  try dsimp only
  repeat ((fail_if_success (with_reducible refine wp_reg (id := 3) ?_)); (first | go_values | go_skip | go_step | go_guarded | go_upon | go_in | go_back | fail))
  with_reducible refine wp_reg (id := 3) ?_
  refine wpO_val rfl (load_V (v := .slice (some ⟨b,off,none⟩) n cL) rfl rfl (by simp [go_sem]) (((unhide hP).get 0 rfl).cell 0)) ?_
  go_frame
  refine wpO_want rfl ?_
  go_simp
  refine wpO_val rfl (load_V (v := .int .i64 few) rfl rfl (by simp [go_sem]) (((unhide hP).get 2 rfl).cell 0)) ?_
  go_frame
  iterate 2
   refine wpO_want rfl ?_
   go_simp
  refine wpO_done ?_
  try go_frame
  try dsimp only
  repeat ((fail_if_success (with_reducible refine wp_reg (id := 8) ?_)); (first | go_values | go_skip | go_step | go_guarded | go_upon | go_in | go_back | fail))
  with_reducible refine wp_reg (id := 8) ?_
  refine wpO_val rfl (load_SetR (N := nx) rfl rfl ((unhide hP).get 4 rfl).whole) ?_
  refine wpO_val rfl (load_SetR (N := ne) rfl rfl ((unhide hP).get 6 rfl).whole) ?_
  refine wpO_want rfl ?_
  go_simp
  refine (inter_any _ _ _).mono ?_
  rintro _ y13 ⟨rfl,hxc⟩
  refine ⟨_,rfl, ?_⟩
  replace hP : Hid (Sp w [] w [] [(bw,92, #[.slice (some ⟨b,off,none⟩) n cL]),(bg,24, #[.pointer og]),(bf,3, #[.int .i64 few]),(br,92, #[.slice none 0 0]),(bm,51,setC nx),(bl,51,setC la),(bn,51,setC ne)] [] y13) := hide ((unhide hP).ext hxc)
  clear hxc
  refine wpO_want rfl ?_
  go_simp
  refine (all_ext (nx &&& ne) _).mono ?_
  rintro _ y14 ⟨bi,rfl,hBa0,hxc⟩
  refine ⟨_,rfl, ?_⟩
  replace hP : Hid (Sp w [] w [] [(bw,92, #[.slice (some ⟨b,off,none⟩) n cL]),(bg,24, #[.pointer og]),(bf,3, #[.int .i64 few]),(br,92, #[.slice none 0 0]),(bm,51,setC nx),(bl,51,setC la),(bn,51,setC ne)] [] y14) := hide ((unhide hP).ext hxc)
  have hBa := hide hBa0
  clear hxc hBa0
  refine wpO_done ?_
  try go_frame
  go_wp2_with fail
  refine wp_rngS (gf := 78) (lb := #[.pointer (some ⟨bi,0,none⟩)]) (unhide hP) rfl (enters_of Tryz.func78 (by kernel_rfl) rfl) (ex := [0]) ((unhide hP).tab (unhide hT')) (all_iter (nx &&& ne) bi y14 (unhide hBa) ((unhide hT').ext (unhide hP).extf)) (fun _ => rfl)
   (fun pre L' Rs' => L' = [(bw,92, #[.slice (some ⟨b,off,none⟩) n cL]),(bg,24, #[.pointer og]),(bf,3, #[.int .i64 few]),(br,92, #[.slice none 0 0]),(bm,51,setC nx),(bl,51,setC la),(bn,51,setC ne)] ∧ Rs' = [] ∧ ∀ x ∈ pre,decide (shortS V E (L ++ [x]) = few) = false)
   (fun c L' Rs' => c = .ret ∧ ∃ u A6 c6,L' = [(bw,92, #[.slice (some ⟨b,off,none⟩) n cL]),(bg,24, #[.pointer og]),(bf,3, #[.int .i64 few]),(br,92, #[.slice A6 (n + 1) c6]),(bm,51,setC nx),(bl,51,setC la),(bn,51,setC ne)] ∧ Rs' = [(3,1, .slice A6 (n + 1) c6,n + 1,(L ++ [u]).flatMap encI)] ∧ (toL (nx &&& ne)).find? (fun v => decide (shortS V E (L ++ [v]) = few)) = some u)
   (fun tm _ v a1 _ => a1 = ⟨(tm.setIfInBounds 51 (.int .i64 v)).setIfInBounds 12 (.int .i64 v),[]⟩)
   (fun _ _ _ _ _ h _ => h) ⟨rfl,rfl,by simp⟩ ?_ ?_ ?_ ?_
  ·intro T' v W' K hlt' hsz hK
   have hK' := hide hK
   have hlt2 := hide hlt'
   have hsz2 := hide hsz
   clear hK hlt' hsz
   rw [zip1]
   simp only [List.setIfInBounds_toArray,List.set_cons_succ,List.set_cons_zero]
   try dsimp only
   repeat ((fail_if_success (with_reducible refine wpI_reg (id := 9) (by kernel_rfl) ?_)); (first | go_values | gi_step | gi_guarded | gi_upon | gi_in | gi_back | fail))
   with_reducible refine wpI_reg (id := 9) (by kernel_rfl) ?_
   refine wpO_want rfl ?_
   go_simp
   refine wpO_done ?_
   try go_frame
   exact unhide hK' _ _ rfl (Ext.refl _)
  ·rintro l pre v a1 L' Rs' W' ⟨rfl,rfl,hpre⟩ hB0 rfl hpx hl hkW htW
   simp only [List.setIfInBounds_toArray,List.set_cons_succ,List.set_cons_zero]
   have hpre' := hide hpre
   have hpx' := hide hpx
   have hv0 := hide (show 0 ≤ v ∧ v < 1024 by have hm : v ∈ toL (nx &&& ne) := hpx.subset (by simp); have := mem_toL'.1 hm; exact ⟨this.1,this.2.1⟩)
   have hB := hide hB0
   clear hB0 hl hkW htW hpre hpx
   try dsimp only
   repeat ((fail_if_success (with_reducible refine wpI_reg (id := 10) (by kernel_rfl) ?_)); (first | go_values | gi_step | gi_guarded | gi_upon | gi_in | gi_back | fail))
   with_reducible refine wpI_reg (id := 10) (by kernel_rfl) ?_
   refine wpO_val rfl (load_V (v := .slice (some ⟨b,off,none⟩) n cL) rfl rfl (by simp [go_sem]) (((unhide hB).get 0 rfl).cell 0)) ?_
   go_frame
   refine wpO_want rfl ?_
   go_simp
   refine (unhide hcl _ (unhide hB).extf).mono ?_
   rintro _ y15 ⟨A5,c5,rfl,ho5,hx5⟩
   refine ⟨_,rfl, ?_⟩
   replace hB : Hid (Sp w (stT [(bw,92, #[.slice (some ⟨b,off,none⟩) n cL]),(bg,24, #[.pointer og]),(bf,3, #[.int .i64 few]),(br,92, #[.slice none 0 0]),(bm,51,setC nx),(bl,51,setC la),(bn,51,setC ne)] []) W' [] [(bw,92, #[.slice (some ⟨b,off,none⟩) n cL]),(bg,24, #[.pointer og]),(bf,3, #[.int .i64 few]),(br,92, #[.slice none 0 0]),(bm,51,setC nx),(bl,51,setC la),(bn,51,setC ne)] [(3,1, .slice A5 n c5,n,L.flatMap encI)] y15) := hide ((unhide hB).addRow hx5 ho5)
   clear ho5 hx5
   refine wpO_val rfl (run_move rfl rfl) ?_
   go_frame
   refine (unhide hB).build1O 3 #[.int .i64 v] rfl (run_build1W rfl rfl) ?_
   intro bt y16 hQ
   replace hB : Hid (Sp w (stT [(bw,92, #[.slice (some ⟨b,off,none⟩) n cL]),(bg,24, #[.pointer og]),(bf,3, #[.int .i64 few]),(br,92, #[.slice none 0 0]),(bm,51,setC nx),(bl,51,setC la),(bn,51,setC ne)] []) W' [] [(bw,92, #[.slice (some ⟨b,off,none⟩) n cL]),(bg,24, #[.pointer og]),(bf,3, #[.int .i64 few]),(br,92, #[.slice none 0 0]),(bm,51,setC nx),(bl,51,setC la),(bn,51,setC ne),(bt,3, #[.int .i64 v])] [(3,1, .slice A5 n c5,n,L.flatMap encI)] y16) := hide hQ
   clear hQ
   go_frame
   refine (unhide hB).ap1O (enc := encI) (T := 3) (ST := 92) 0 (v := .slice A5 n c5) (m := n) (xs := L) rfl rfl infoI Tryz.underlying92 one_encI (fun _ => rfl) (by decide) (by decide) rfl v rfl rfl ((unhide hB).get 7 rfl) (by have := unhide hnb; omega) ?_
   intro A6 c6 y17 hQ
   replace hB : Hid (Sp w (stT [(bw,92, #[.slice (some ⟨b,off,none⟩) n cL]),(bg,24, #[.pointer og]),(bf,3, #[.int .i64 few]),(br,92, #[.slice none 0 0]),(bm,51,setC nx),(bl,51,setC la),(bn,51,setC ne)] []) W' [] [(bw,92, #[.slice (some ⟨b,off,none⟩) n cL]),(bg,24, #[.pointer og]),(bf,3, #[.int .i64 few]),(br,92, #[.slice none 0 0]),(bm,51,setC nx),(bl,51,setC la),(bn,51,setC ne),(bt,3, #[.int .i64 v])] [(3,1, .slice A6 (n + 1) c6,n + 1,(L ++ [v]).flatMap encI)] y17) := hide hQ
   clear hQ
   go_frame
   replace hB : Hid (Sp w (stT [(bw,92, #[.slice (some ⟨b,off,none⟩) n cL]),(bg,24, #[.pointer og]),(bf,3, #[.int .i64 few]),(br,92, #[.slice none 0 0]),(bm,51,setC nx),(bl,51,setC la),(bn,51,setC ne)] []) W' [] [(bw,92, #[.slice (some ⟨b,off,none⟩) n cL]),(bg,24, #[.pointer og]),(bf,3, #[.int .i64 few]),(br,92, #[.slice none 0 0]),(bm,51,setC nx),(bl,51,setC la),(bn,51,setC ne)] [(3,1, .slice A6 (n + 1) c6,n + 1,(L ++ [v]).flatMap encI)] y17) := hide ((unhide hB).sub (List.sublist_append_left _ ([(bt,3, #[.int .i64 v])] : List Cl)) (List.Sublist.refl _))
   refine wpO_want rfl ?_
   go_simp
   refine wpO_done ?_
   try go_frame
   obtain ⟨q,hq⟩ : ∃ q,shortS V E (L ++ [v]) = q := ⟨_,rfl⟩
   have hq' := hide hq
   obtain ⟨m,hm⟩ : ∃ m,m = n + 1 := ⟨_,rfl⟩
   have hsv := hide (fun (W : World) (hW : Ext w W) (hA : SlAt encI 1 W A6 (L ++ [v])) => unhide hsh v (unhide hv0) A6 (n + 1) c6 rfl (own_cap ((unhide hB).row 0 rfl)) W hW hA)
   rw [hq] at hsv
   clear hq
   have hsl : Hid (SlAt encI 1 y17 A6 (L ++ [v])) := hide (by have h := (unhide hB).row 0 rfl; rw [show n + 1 = (L ++ [v]).length by rw [List.length_append, ← unhide hn']; rfl] at h; exact own_at h (fun _ => rfl))
   gi_wp2_with fail
   refine wpI_regionK (P := Tryz.prog) [] [0,1,2,3,4] [] 0 #[true,true,true,true,true] (by kernel_rfl) (by kernel_rfl) (by kernel_rfl) rfl (by rfl) ?_
   iterate 1
    refine ql_want (v := ?_) rfl (by rfl) (fun W hW => ?_) ?_
    rotate_left
    ·go_simp
     first | done | rfl
    go_frame
   refine ql_want (v := .pointer og) rfl (by rfl) (fun W hW => qUpon_ofX (load_V rfl rfl (by simp [go_sem]) ((unhide hB).cellK 1 0 rfl rfl (by simp) W hW))) ?_
   go_frame
   refine ql_want (v := .int .i64 q) rfl (by rfl) (fun W hW => ?_) ?_
   ·go_simp
    refine (unhide hsv _ ((unhide hB).extf.trans ((Ext.refl _).of_new hW (by simp))) ((unhide hsl).ext ((Ext.refl _).of_new hW (by simp)))).mono ?_
    rintro _ _ ⟨h1,h2⟩
    exact ⟨_,h1,rfl,h2⟩
   go_frame
   refine ql_want (v := .int .i64 few) rfl (by rfl) (fun W hW => qUpon_ofX (load_V rfl rfl (by simp [go_sem]) ((unhide hB).cellK 2 0 rfl rfl (by simp) W hW))) ?_
   go_frame
   by_cases hqf : q = few
   ·have hqb : (q == few) = true := by simp [hqf]
    iterate 1
     refine ql_want (v := ?_) rfl (by rfl) (fun W hW => ?_) ?_
     rotate_left
     ·go_simp
      first | done | rfl
     go_frame
    refine wpQL_nil (fun y18 hxq => ?_)
    replace hB : Hid (Sp w (stT [(bw,92, #[.slice (some ⟨b,off,none⟩) n cL]),(bg,24, #[.pointer og]),(bf,3, #[.int .i64 few]),(br,92, #[.slice none 0 0]),(bm,51,setC nx),(bl,51,setC la),(bn,51,setC ne)] []) W' [] [(bw,92, #[.slice (some ⟨b,off,none⟩) n cL]),(bg,24, #[.pointer og]),(bf,3, #[.int .i64 few]),(br,92, #[.slice none 0 0]),(bm,51,setC nx),(bl,51,setC la),(bn,51,setC ne)] [(3,1, .slice A6 (n + 1) c6,n + 1,(L ++ [v]).flatMap encI)] y18) := hide ((unhide hB).ext hxq)
    clear hxq
    refine wpX_done (by kernel_rfl) ?_
    try go_frame
    try dsimp only
    repeat ((fail_if_success (with_reducible refine wpI_reg (id := 12) (by kernel_rfl) ?_)); (first | go_values | gi_step | gi_guarded | gi_upon | gi_in | gi_back | fail))
    with_reducible refine wpI_reg (id := 12) (by kernel_rfl) ?_
    refine wpO_want rfl ?_
    go_simp
    refine (unhide hB).setO 3 #[.slice A6 (n + 1) c6] rfl rfl (fun hb => run_store_row (v := .slice A6 (n + 1) c6) rfl rfl rfl (by simp [go_sem]) hb rfl (by simp [Value.cells,Value.oneCell'])) ?_
    intro y19 hQ
    replace hB : Hid (Sp w (stT [(bw,92, #[.slice (some ⟨b,off,none⟩) n cL]),(bg,24, #[.pointer og]),(bf,3, #[.int .i64 few]),(br,92, #[.slice none 0 0]),(bm,51,setC nx),(bl,51,setC la),(bn,51,setC ne)] []) W' [] [(bw,92, #[.slice (some ⟨b,off,none⟩) n cL]),(bg,24, #[.pointer og]),(bf,3, #[.int .i64 few]),(br,92, #[.slice A6 (n + 1) c6]),(bm,51,setC nx),(bl,51,setC la),(bn,51,setC ne)] [(3,1, .slice A6 (n + 1) c6,n + 1,(L ++ [v]).flatMap encI)] y19) := hide hQ
    clear hQ
    refine wpO_done ?_
    try go_frame
    gi_wp2_with fail
    exact ⟨_,_,⟨rfl,v,A6,c6,rfl,rfl,find_pre (unhide hpx') (unhide hpre') (by rw [unhide hq',hqf]; exact decide_eq_true rfl)⟩,unhide hB⟩
   ·have hqb : (q == few) = false := by simp [hqf]
    iterate 1
     refine ql_want (v := ?_) rfl (by rfl) (fun W hW => ?_) ?_
     rotate_left
     ·go_simp
      first | done | rfl
     go_frame
    refine wpQL_nil (fun y18 hxq => ?_)
    replace hB : Hid (Sp w (stT [(bw,92, #[.slice (some ⟨b,off,none⟩) n cL]),(bg,24, #[.pointer og]),(bf,3, #[.int .i64 few]),(br,92, #[.slice none 0 0]),(bm,51,setC nx),(bl,51,setC la),(bn,51,setC ne)] []) W' [] [(bw,92, #[.slice (some ⟨b,off,none⟩) n cL]),(bg,24, #[.pointer og]),(bf,3, #[.int .i64 few]),(br,92, #[.slice none 0 0]),(bm,51,setC nx),(bl,51,setC la),(bn,51,setC ne)] [(3,1, .slice A6 (n + 1) c6,n + 1,(L ++ [v]).flatMap encI)] y18) := hide ((unhide hB).ext hxq)
    clear hxq
    refine wpX_done (by kernel_rfl) ?_
    try go_frame
    gi_wp2_with fail
    exact ⟨_,_,⟨rfl,rfl,fun x hx => by
     rcases List.mem_append.1 hx with hx | hx
     ·exact unhide hpre' x hx
     ·rw [List.mem_singleton] at hx; rw [hx,unhide hq']; exact decide_eq_false hqf⟩,(unhide hB).sub (List.Sublist.refl _) (List.nil_sublist _)⟩
  ·rintro D L' Rs' W' ⟨rfl,rfl,hall⟩ hkW hP0
   generalize ({ target := .collected D,args := #[] } :: [] : List Deferred) = ds2 at hP0 ⊢
   clear hkW hP hBa
   have hP : Hid (Sp w [] w ds2 [(bw,92, #[.slice (some ⟨b,off,none⟩) n cL]),(bg,24, #[.pointer og]),(bf,3, #[.int .i64 few]),(br,92, #[.slice none 0 0]),(bm,51,setC nx),(bl,51,setC la),(bn,51,setC ne)] [] W') := hide hP0
   have hres : res = none := by rw [unhide hdef',List.find?_eq_none.2 (fun x hx => by rw [hall x hx]; simp)]; rfl
   have hres' := hide hres
   clear hP0 hres hall
   try dsimp only
   repeat ((fail_if_success (with_reducible refine wp_reg (id := 13) ?_)); (first | go_values | go_skip | go_step | go_guarded | go_upon | go_in | go_back | fail))
   with_reducible refine wp_reg (id := 13) ?_
   refine (unhide hP).setO 3 #[.slice none 0 0] rfl rfl (fun hb => run_store_row (v := .slice none 0 0) rfl rfl rfl (by simp [go_sem]) hb rfl (by simp [Value.cells,Value.oneCell'])) ?_
   intro y15 hQ
   replace hP : Hid (Sp w [] w ds2 [(bw,92, #[.slice (some ⟨b,off,none⟩) n cL]),(bg,24, #[.pointer og]),(bf,3, #[.int .i64 few]),(br,92, #[.slice none 0 0]),(bm,51,setC nx),(bl,51,setC la),(bn,51,setC ne)] [] y15) := hide hQ
   clear hQ
   refine wpO_done ?_
   try go_frame
   go_wp2_with fail
   refine (unhide hP).leaves ?_
   intro w' hx hst
   refine ⟨_,ret_cell1 (t := 6) rfl rfl (loadVar_V (by simp [go_sem]) ((hst.get 3 rfl).cell 0)), ?_⟩
   rw [unhide hres']
   exact LoPost.none hx
  ·rintro D c L' Rs' W' ⟨rfl,u,A6,c6,rfl,rfl,hfind⟩ hkW hP0
   generalize ({ target := .collected D,args := #[] } :: [] : List Deferred) = ds2 at hP0 ⊢
   clear hkW hP hBa
   have hP : Hid (Sp w [] w ds2 [(bw,92, #[.slice (some ⟨b,off,none⟩) n cL]),(bg,24, #[.pointer og]),(bf,3, #[.int .i64 few]),(br,92, #[.slice A6 (n + 1) c6]),(bm,51,setC nx),(bl,51,setC la),(bn,51,setC ne)] [(3,1, .slice A6 (n + 1) c6,n + 1,(L ++ [u]).flatMap encI)] W') := hide hP0
   have hres : res = some (L ++ [u]) := by rw [unhide hdef',hfind]; rfl
   have hres' := hide hres
   clear hP0 hres hfind
   go_wp2_with fail
   refine (unhide hP).leaves ?_
   intro w' hx hst
   refine ⟨_,ret_cell1 (t := 6) rfl rfl (loadVar_V (by simp [go_sem]) ((hst.get 3 rfl).cell 0)), ?_⟩
   rw [unhide hres']
   exact LoPost.some (by rw [List.length_append, ← unhide hn']; rfl) (hst.row 0 rfl) hx
end Go.Proofs.YtmfkkkhddigkfaaGreatDoor
