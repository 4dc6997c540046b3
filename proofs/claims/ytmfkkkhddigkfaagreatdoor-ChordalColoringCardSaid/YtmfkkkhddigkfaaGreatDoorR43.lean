/- Parts of a proof, laid together. Each part says its own conditions. -/
import Derived.Test.YtmfkkkhddigkfaaGreatDoorR42
import Derived.Test.YtmfkkkhddigkfaaGreatDoorR31
namespace Go.Proofs.YtmfkkkhddigkfaaGreatDoor
open Go Go.RowKit Go.Shelf
attribute [local go_sem] qUpon lUpon
attribute [local irreducible] wpO wpX wpQL
theorem app_types {P : Program} {T1 T2 e1 e2 : TypeId} (h1 : P.underlying T1 = some (.slice e1)) (h2 : P.underlying T2 = some (.slice e2)) (ty : TypeId) (s x : Value) (W : World) : (Builtin.append_ #[T1,T2] ty #[s,x]).run P W = (Builtin.append_ #[T1,T1] ty #[s,x]).run P W := by
 unfold Builtin.append_
 cases s <;> simp [run_underlying h1,run_underlying h2,Sem.run_bind]
section
variable {α : Type} {enc : α → List Value} {T ST ST2 T2 : TypeId} {kk byt : Nat} {l : List Oper} {s x : Operand} {o : Oper} {a : Act} {W w wf : World} {T0 : List Nat} {ds : List Deferred} {L : List Cl} {Rs : List Rw} {S : List Nat} {w1 : World} {safe : Nat → Bool} {q : Prop} {Q : Act → World → Prop} {n : Nat} {li : Array Bool}
theorem Sp.apAL2 (h : Sp wf T0 w ds L Rs W) (hK : Keep S w1 W) (i : Nat) {v : Value} {m : Nat} {xs : List α} (hi : Rs[i]? = some (T,kk,v,m,xs.flatMap enc)) (hS : ∀ z ∈ v.ownBlock.toList,z ∈ S ∨ w1.heap.size ≤ z)
  (hi0 : (Tryz.prog.info? T).map (fun i => (i.zero.map (·.cells.size),i.size,i.bytes)) = some (some kk,kk,byt)) (hu : Tryz.prog.underlying ST = some (.slice T)) (hu2 : Tryz.prog.underlying ST2 = some (.slice T2)) (hone : ∀ x, ∀ v ∈ enc x,v.oneCell' = true) (hlen : ∀ x,(enc x).length = kk) (hk : 0 < kk) (hby : byt ≤ 1000)
  (ho : o.op = .call { callee := .builtin .append,args := #[s,x],argTypes := #[ST,ST2] }) (ys : List α) {my c : Nat} {A : Option Addr} (hs : a.eval s = v) (hx : a.eval x = .slice A my c) (hm : ys.length = my) (hsrc : SlAt enc kk W A ys) (hl : m + my ≤ 100000000)
  (hk2 : ∀ A' c' W',Sp wf T0 w ds L (Rs.set i (T,kk, .slice A' (m + my) c',m + my,(xs ++ ys).flatMap enc)) W' → Keep S w1 W' → (∀ z ∈ (Value.slice A' (m + my) c').ownBlock.toList,z ∈ S ∨ w1.heap.size ≤ z) → wpX Tryz.prog l.toArray Ext (Keep S w1) safe Q n li (a.put o.dst (.slice A' (m + my) c')) W') :
  lUpon Tryz.prog (fun v w' => (q → Keep S w1 w') ∧ ∀ w'',Ext w' w'' → wpX Tryz.prog l.toArray Ext (Keep S w1) safe Q n li (a.put o.dst v) w'') ((execOp a.eval o).run Tryz.prog W) := by
 have e : (execOp a.eval o).run Tryz.prog W = (execOp a.eval { o with op := .call { callee := .builtin .append,args := #[s,x],argTypes := #[ST,ST] } }).run Tryz.prog W := by
  unfold execOp
  simp only [ho,resolve,invoke,builtin,Sem.run_bind,Sem.run_pure,Result.andThen_ok,List.map_toArray,List.map_cons,List.map_nil]
  rw [app_types hu hu2]
 rw [e]
 exact h.apAL (o := { o with op := .call { callee := .builtin .append,args := #[s,x],argTypes := #[ST,ST] } }) hK i hi hS hi0 hu hone hlen hk hby rfl ys hs hx hm hsrc hl hk2
end
theorem clqN_any (A B : Option Addr) (V : List (Int × Thing)) (E : List ((Int × Int) × Thing)) (cA cB : Nat) (C : Option Addr) (L : List Int) (n cL : Nat) (w : World) (hV : SlAt encV 3 w A V) (hnV : V.length ≤ 4096) (hE : SlAt encE 4 w B E) (hnE : E.length ≤ 4096) (hL : SlAt encI 1 w C L) (hn : n = L.length) (hl : n ≤ 4096) :
  Calls Tryz.prog 28 #[.agg #[.slice A V.length cA, .slice B E.length cB], .slice C n cL] w fun e w' => e = .returned (.bool (clqB V E L)) ∧ Ext w w' := by
 subst hn
 exact clqR_walk A B V E cA cB C L cL w hV hnV hE hnE hL hl
theorem run_buildI0 {ρ : Operand → Value} {o : Oper} {w : World} (ho : o.op = .buildSlice 31 0 #[]) : (execOp ρ o).run Tryz.prog w = .ok (.value (.slice (some ⟨w.heap.size,0,none⟩) 0 0)) (w.alloc (.cells #[] 3)) := by
 unfold execOp
 simp only [ho]
 simp [go_sem]
section
open Classical
variable {V : List (Int × Thing)} {E : List ((Int × Int) × Thing)}
noncomputable def maxQ (V : List (Int × Thing)) (E : List ((Int × Int) × Thing)) (K : List Int) (k : Nat) : Bool := ((V.map (·.1)).take k).all fun v => decide (v ∈ K) || !clqB V E (K ++ [v])
theorem maxQ_next (K : List Int) {k : Nat} (h : k < V.length) : maxQ V E K (k + 1) = (maxQ V E K k && (decide (V[k].1 ∈ K) || !clqB V E (K ++ [V[k].1]))) := by
 unfold maxQ
 rw [List.take_succ_eq_append_getElem (by rw [List.length_map]; exact h),List.all_append]
 simp
noncomputable def cqF (V : List (Int × Thing)) (E : List ((Int × Int) × Thing)) (K : List Int) : Bool := decide (K ≠ []) && clqB V E K && maxQ V E K V.length
theorem cliques_filter (V : List (Int × Thing)) (E : List ((Int × Int) × Thing)) : cliquesR V E = (subsR (V.map (·.1))).filter (cqF V E) := by
 unfold cliquesR
 refine List.filter_congr fun K _ => ?_
 rw [Bool.eq_iff_iff,decide_eq_true_eq]
 unfold cqF MaxR maxQ
 rw [Bool.and_eq_true,Bool.and_eq_true,decide_eq_true_eq,clqB_true,List.all_eq_true,List.take_of_length_le (by rw [List.length_map]; exact Nat.le_refl _),and_assoc]
 refine and_congr Iff.rfl (and_congr Iff.rfl (forall_congr' fun v => imp_congr Iff.rfl ?_))
 rw [Bool.or_eq_true,decide_eq_true_eq,Bool.not_eq_true', ← Bool.not_eq_true,clqB_true]
theorem filt_next {α : Type} (p : α → Bool) (l : List α) {k : Nat} (h : k < l.length) : (l.take (k + 1)).filter p = (l.take k).filter p ++ (if p l[k] = true then [l[k]] else []) := by
 rw [List.take_succ_eq_append_getElem h,List.filter_append,List.filter_cons,List.filter_nil]
end
def SlsOk (W : World) (ps : List Sl) (KK : List (List Int)) : Prop := ps.length = KK.length ∧ ∀ (i : Nat) (h : i < ps.length) (h2 : i < KK.length),ps[i].2.1 = KK[i].length ∧ SlAt encI 1 W ps[i].1 KK[i]
theorem SlsOk.snoc {W : World} {ps : List Sl} {KK : List (List Int)} (h : SlsOk W ps KK) {p : Sl} {K : List Int} (h1 : p.2.1 = K.length) (h2 : SlAt encI 1 W p.1 K) : SlsOk W (ps ++ [p]) (KK ++ [K]) := by
 refine ⟨by rw [List.length_append,List.length_append,h.1]; rfl,fun i hi hi2 => ?_⟩
 by_cases hl : i < ps.length
 ·rw [List.getElem_append_left hl,List.getElem_append_left (by rw [← h.1]; exact hl)]
  exact h.2 i hl (by rw [← h.1]; exact hl)
 ·rw [List.getElem_append_right (by omega),List.getElem_append_right (by rw [← h.1]; omega)]
  simp only [List.getElem_singleton]
  exact ⟨h1,h2⟩
theorem SlsOk.ss {W W' : World} {ps : List Sl} {KK : List (List Int)} {A : Option Addr} (h : SlsOk W ps KK) (hx : Ext W W') (hs : SlAt encSl 1 W' A ps) : SSAt W' A KK := ⟨ps,h.1,hs,fun i a b => ⟨(h.2 i a b).1,(h.2 i a b).2.ext hx⟩⟩
set_option maxRecDepth 100000 in
set_option maxHeartbeats 16000000 in
theorem cliquesR_any (A B : Option Addr) (V : List (Int × Thing)) (E : List ((Int × Int) × Thing)) (cA cB : Nat) (w : World) (hV : SlAt encV 3 w A V) (hE : SlAt encE 4 w B E) (hnE : E.length ≤ 4096) (hi : GInv V E) (hl : V.length ≤ 12) :
  Calls Tryz.prog 22 #[.agg #[.slice A V.length cA, .slice B E.length cB]] w (SsPost w (cliquesR V E)) := by
 have hV' := hide hV
 have hE' := hide hE
 have hnE' := hide hnE
 have hnV' := hide (show V.length ≤ 4096 by omega)
 have hl' := hide hl
 have hofq := hide (ofQ_sorted (sv_map.1 hi.sv) fun x hx => ids_rng hi hx)
 obtain ⟨ids,hids⟩ : ∃ ids,ids = V.map (·.1) := ⟨_,rfl⟩
 rw [← hids] at hofq
 have hids' := hide hids
 obtain ⟨OL,hOL⟩ : ∃ l,l = cliquesR V E := ⟨_,rfl⟩
 rw [← hOL]
 have hOL' := hide (show OL = (subsR ids).filter (cqF V E) by rw [hOL,hids]; exact cliques_filter V E)
 clear hV hE hnE hl hi hids hOL
 have hP := hide (Sp.new w)
 refine callsIn_wide.1 (callsIn_of_wp_marks (n := 0) Tryz.func22 rfl trivial (wpIn_wide.2 ?_))
 simp only [Tryz.ntmps22,List.size_toArray,List.length_cons,List.length_nil,Nat.reduceAdd,Nat.reduceSub,Array.replicate_succ,Array.replicate_zero,List.push_toArray,List.append_toArray,List.nil_append,List.cons_append]
 try dsimp only
 repeat ((fail_if_success (with_reducible refine wp_reg (id := 0) ?_)); (first | go_values | go_skip | go_step | go_guarded | go_upon | go_in | go_back | fail))
 with_reducible refine wp_reg (id := 0) ?_
 refine (unhide hP).allocO 28 #[.slice A V.length cA, .slice B E.length cB] rfl (run_box (v := .agg #[.slice A V.length cA, .slice B E.length cB]) rfl rfl) ?_
 intro r1 y1 hQ
 replace hP : Hid (Sp w [] w [] [(r1,28, #[.slice A V.length cA, .slice B E.length cB])] [] y1) := hide hQ
 clear hQ
 refine wpO_want rfl ?_
 go_simp
 refine wpO_done ?_
 try go_frame
 try dsimp only
 repeat ((fail_if_success (with_reducible refine wp_reg (id := 1) ?_)); (first | go_values | go_skip | go_step | go_guarded | go_upon | go_in | go_back | fail))
 with_reducible refine wp_reg (id := 1) ?_
 refine wpO_want rfl ?_
 go_simp
 refine wpO_done ?_
 try go_frame
 try dsimp only
 repeat ((fail_if_success (with_reducible refine wp_reg (id := 2) ?_)); (first | go_values | go_skip | go_step | go_guarded | go_upon | go_in | go_back | fail))
 with_reducible refine wp_reg (id := 2) ?_
 have q0 := (unhide hP).cell 0 0 (v := .slice A V.length cA) rfl rfl
 have q1 := (unhide hP).cell 0 1 (v := .slice B E.length cB) rfl rfl
 have hself := Ext.refl y1
 refine wpO_want rfl ?_
 go_simp
 clear q0 q1 hself
 refine wpO_want rfl ?_
 go_simp
 have hca := ids_any A B V E cA cB y1 ((unhide hV').ext (unhide hP).extf) (unhide hnV')
 rw [← unhide hids'] at hca
 obtain ⟨nI,hnI⟩ : ∃ n,n = ids.length := ⟨_,rfl⟩
 have hnI' := hide hnI
 have hnb := hide (show nI ≤ 12 by rw [hnI,unhide hids',List.length_map]; exact unhide hl')
 clear hnI
 refine (hca).mono ?_
 rintro _ y2 ⟨A5,c5,rfl,ho,hxc⟩
 rw [← unhide hnI'] at ho ⊢
 have hsI := hide (show SlAt encI 1 _ A5 ids from own_at (enc := encI) (by rw [← unhide hnI']; exact ho) (fun _ => rfl))
 clear hca ho
 refine ⟨_,rfl, ?_⟩
 replace hP : Hid (Sp w [] w [] [(r1,28, #[.slice A V.length cA, .slice B E.length cB])] [] y2) := hide ((unhide hP).ext hxc)
 clear hxc
 refine wpO_want rfl ?_
 go_simp
 have hca := ofQ_any A5 ids nI c5 y2 (unhide hsI) (unhide hnI') (by have := unhide hnb; omega)
 rw [unhide hofq] at hca
 refine (hca).mono ?_
 rintro _ y3 ⟨A6,c6,rfl,hs0,hxc⟩
 rw [← unhide hnI']
 have hsO := hide hs0
 clear hca hs0 hsI
 refine ⟨_,rfl, ?_⟩
 replace hP : Hid (Sp w [] w [] [(r1,28, #[.slice A V.length cA, .slice B E.length cB])] [] y3) := hide ((unhide hP).ext hxc)
 clear hxc
 refine wpO_want rfl ?_
 go_simp
 have hca := subsQ_any A6 ids nI c6 y3 (unhide hsO) (unhide hnI') (unhide hnb)
 obtain ⟨SS,hSS⟩ : ∃ l,l = subsR ids := ⟨_,rfl⟩
 rw [← hSS] at hca hOL'
 obtain ⟨n,hn⟩ : ∃ n,n = SS.length := ⟨_,rfl⟩
 have hn' := hide hn
 have hnb2 := hide (show n ≤ 4096 by have h := subs_small ids (i := ids.length) (by have := unhide hnb; have := unhide hnI'; omega); rw [List.take_length, ← hSS, ← hn] at h; exact h)
 have hKl := hide (show ∀ K ∈ SS,K.length ≤ 12 from fun K hK => subs_mem_len (L := ids) (i := ids.length) (by have := unhide hnb; have := unhide hnI'; omega) (by rw [List.take_length, ← hSS]; exact hK))
 clear hn hSS
 refine (hca).mono ?_
 rintro _ y4 ⟨A7,c7,rfl,hs0,hxc⟩
 rw [← unhide hn']
 have hss := hide hs0
 clear hca hs0 hsO
 refine ⟨_,rfl, ?_⟩
 replace hP : Hid (Sp w [] w [] [(r1,28, #[.slice A V.length cA, .slice B E.length cB])] [] y4) := hide ((unhide hP).ext hxc)
 clear hxc
 refine wpO_want rfl ?_
 go_simp
 refine wpO_done ?_
 try go_frame
 have hx0 := hide (unhide hP).extf
 have hB1 := hide ((unhide hP).get 0 rfl)
 replace hV' := hide ((unhide hV').ext (unhide hP).extf)
 replace hE' := hide ((unhide hE').ext (unhide hP).extf)
 clear hP
 have hP : Hid (Sp y4 [] y4 [] [] [] y4) := hide (Sp.new y4)
 replace hP : Hid (Sp y4 [] y4 [] [] [(48,1, .slice none 0 0,0,([] : List Sl).flatMap encSl)] y4) := hide ((unhide hP).nil 48 1)
 try dsimp only
 repeat ((fail_if_success (with_reducible refine wp_reg (id := 3) ?_)); (first | go_values | go_skip | go_step | go_guarded | go_upon | go_in | go_back | fail))
 with_reducible refine wp_reg (id := 3) ?_
 refine wpO_want rfl ?_
 go_simp
 refine wpO_done ?_
 try go_frame
 go_wp2_with fail
 obtain ⟨I4_2,hI4_20⟩ : ∃ I : Nat → Act → World → Prop,I = fun fi a' wr => ∃ (i : Nat), ∃ (A3 : Option Addr), ∃ (q : Nat), ∃ (c3 : Nat), ∃ (ps : List Sl),a'.tmps.size = 79 ∧ a'.tmps.getD 1 undef = .pointer (some ⟨r1,0,none⟩) ∧ a'.tmps.getD 3 undef = .slice A3 q c3 ∧ a'.tmps.getD 4 undef = .slice A7 n c7 ∧ a'.tmps.getD 5 undef = .int .i64 (i : Nat) ∧ a'.defers = [] ∧ i ≤ n ∧ q = ps.length ∧ SlsOk y4 ps ((SS.take i).filter (cqF V E)) ∧ Sp y4 [] y4 [] [] [(48,1, .slice A3 q c3,q,ps.flatMap encSl)] wr ∧ fi = n - i := ⟨_,rfl⟩
 have hI4_2 := hide hI4_20
 clear hI4_20
 refine wp_loop_ix I4_2 (n - 0) ?_ ?_
 ·rw [unhide hI4_2]; exact ⟨0,none,0,0,[],rfl,rfl,rfl,rfl,rfl,rfl,Nat.zero_le _,rfl,⟨rfl,fun i h => by simp at h⟩,unhide hP,rfl⟩
 ·rintro fi ⟨tm,dfs⟩ wr hrel
  rw [unhide hI4_2] at hrel
  obtain ⟨i,A3,q,c3,ps,hsz,e1,e3,e4,e5,hdf,hi,hq,hps,hPr,hfm⟩ := hrel
  obtain ⟨us,rfl⟩ : ∃ us : Nat → Value,tm = #[us 0,us 1,us 2,us 3,us 4,us 5,us 6,us 7,us 8,us 9,us 10,us 11,us 12,us 13,us 14,us 15,us 16,us 17,us 18,us 19,us 20,us 21,us 22,us 23,us 24,us 25,us 26,us 27,us 28,us 29,us 30,us 31,us 32,us 33,us 34,us 35,us 36,us 37,us 38,us 39,us 40,us 41,us 42,us 43,us 44,us 45,us 46,us 47,us 48,us 49,us 50,us 51,us 52,us 53,us 54,us 55,us 56,us 57,us 58,us 59,us 60,us 61,us 62,us 63,us 64,us 65,us 66,us 67,us 68,us 69,us 70,us 71,us 72,us 73,us 74,us 75,us 76,us 77,us 78] := ⟨fun i => tm.getD i undef,arr_fn hsz⟩
  have h1 : us 1 = .pointer (some ⟨r1,0,none⟩) := e1
  have h3 : us 3 = .slice A3 q c3 := e3
  have h4 : us 4 = .slice A7 n c7 := e4
  have h5 : us 5 = .int .i64 (i : Nat) := e5
  have hdf2 : dfs = [] := hdf
  subst hdf2
  clear hdf hsz e1 e3 e4 e5
  simp only [h1,h3,h4,h5]
  clear h1 h3 h4 h5
  clear hP
  have hP := hide hPr
  have hq' := hide hq
  have hps' := hide hps
  have hfm' := hide hfm
  have hqb := hide (show q ≤ 4096 by rw [hq,hps.1]; exact Nat.le_trans (List.length_filter_le _ _) (by rw [List.length_take]; have := unhide hnb2; have := unhide hn'; omega))
  clear hPr hq hps hfm
  by_cases hlt : i < n
  ·have hil : (i : Int) < (n : Int) := by omega
   have hi2 := hide hlt
   have hiS : i < SS.length := by have := unhide hn'; omega
   have hib : (i : Int) ≤ 4096 := by have := unhide hnb2; omega
   obtain ⟨b7,o7,rfl,hg7⟩ := (unhide hss).get (by omega)
   obtain ⟨ak,ck,hck,hKs0⟩ := hg7 i hiS
   have hnx := filt_next (cqF V E) SS hiS
   obtain ⟨K,hK⟩ : ∃ K,K = SS[i] := ⟨_,rfl⟩
   rw [← hK] at hck hKs0 hnx
   obtain ⟨m,hm⟩ : ∃ m,m = K.length := ⟨_,rfl⟩
   rw [← hm] at hck
   have hm' := hide hm
   have hmb := hide (show m ≤ 12 by rw [hm]; exact unhide hKl K (by rw [hK]; exact List.getElem_mem _))
   have hKs := hide hKs0
   have hcell := hide (fun (W : World) (hW : Ext y4 W) => hck [] W (hW.keep []) (by simp))
   have hnx' := hide hnx
   obtain ⟨qc,hqc⟩ : ∃ q,q = clqB V E K := ⟨_,rfl⟩
   have hqc' := hide hqc
   clear hck hKs0 hnx hK hm hg7 hqc hlt hi hiS
   try dsimp only
   repeat ((fail_if_success (with_reducible refine wp_reg (id := 4) ?_)); (first | go_values | go_skip | go_step | go_guarded | go_upon | go_in | go_back | fail))
   with_reducible refine wp_reg (id := 4) ?_
   iterate 4
    refine wpO_want rfl ?_
    go_simp
   refine wpO_done ?_
   try go_frame
   go_wp2_with fail
   have q0 := fun W (hW : Keep [] wr W) => ((unhide hB1).ext (unhide hP).extf).cells 0 (v := .slice A V.length cA) rfl W hW.ext
   have q1 := fun W (hW : Keep [] wr W) => ((unhide hB1).ext (unhide hP).extf).cells 1 (v := .slice B E.length cB) rfl W hW.ext
   have c0 := fun W (hW : Keep [] wr W) => unhide hcell W ((unhide hP).extf.trans hW.ext)
   have hself := Keep.refl [] wr
   by_cases hm0 : m = 0
   ·have hmi : ((m : Int) == 0) = true := by simp [hm0]
    refine wp_regionK (P := Tryz.prog) [] [0,1,2,3,4,5,6,7,8,9,10,11,12,13,14] [] 0 #[true,true,true,true,true,true,true,true,true,true,true,true,true,true,true] (by kernel_rfl) (by kernel_rfl) rfl (by rfl) ?_
    iterate 7
     refine ql_want (v := ?_) rfl (by rfl) (fun W hW => ?_) ?_
     rotate_left
     ·go_simp
      first | done | rfl
     go_frame
    iterate 8
     first
     | (refine ql_skip rfl (by rfl) ?_)
     | (refine ql_want (v := ?_) rfl (by rfl) (fun W hW => ?_) ?_; rotate_left; (go_simp; (first | done | rfl)))
     try go_frame
    refine wpQL_nil (fun y5 hxq => ?_)
    replace hP : Hid (Sp y4 [] y4 [] [] [(48,1, .slice A3 q c3,q,ps.flatMap encSl)] y5) := hide ((unhide hP).ext hxq)
    clear hxq
    refine wpX_done (by kernel_rfl) ?_
    try go_frame
    clear q0 q1 c0 hself hmi
    have hF := hide (show cqF V E K = false by unfold cqF; rw [show K = [] from List.length_eq_zero_iff.1 (by rw [← unhide hm']; exact hm0)]; simp)
    replace hm0 := hide hm0
    go_wp2_with fail
    have h1 := unhide hi2
    refine ⟨n - (i + 1), ?_,by have := unhide hfm'; omega⟩
    rw [unhide hI4_2]
    exact ⟨i + 1,A3,q,c3,ps,(by first | rfl | trivial),(by first | rfl | trivial),(by first | rfl | trivial),(by first | rfl | trivial),(by first | rfl | (show _ = Value.int _ _; go_num) | go_num),(by first | rfl | trivial),by omega,unhide hq',by rw [unhide hnx',unhide hF]; simpa using unhide hps',unhide hP,rfl⟩
   ·have hmi : ((m : Int) == 0) = false := by simp [hm0]
    have hKne := hide (show K ≠ [] by rintro rfl; exact hm0 (unhide hm'))
    replace hm0 := hide hm0
    refine wp_regionK (P := Tryz.prog) [] [0,1,2,3,4,5,6,7,8,9,10,11,12,13,14] [] 0 #[true,true,true,true,true,true,true,true,true,true,true,true,true,true,true] (by kernel_rfl) (by kernel_rfl) rfl (by rfl) ?_
    iterate 12
     refine ql_want (v := ?_) rfl (by rfl) (fun W hW => ?_) ?_
     rotate_left
     ·go_simp
      first | done | rfl
     go_frame
    refine ql_want (v := .bool qc) rfl (by rfl) (fun W hW => ?_) ?_
    ·go_simp
     refine (clqN_any A B V E cA cB ak K m ck W ((unhide hV').ext ((unhide hP).extf.trans ((Ext.refl _).of_new hW (by simp)))) (unhide hnV') ((unhide hE').ext ((unhide hP).extf.trans ((Ext.refl _).of_new hW (by simp)))) (unhide hnE') ((unhide hKs).ext ((unhide hP).extf.trans ((Ext.refl _).of_new hW (by simp)))) (unhide hm') (by have := unhide hmb; omega)).mono ?_
     rw [← unhide hqc']
     rintro _ _ ⟨h1,h2⟩
     exact ⟨_,h1,rfl,h2⟩
    go_frame
    iterate 2
     refine ql_want (v := ?_) rfl (by rfl) (fun W hW => ?_) ?_
     rotate_left
     ·go_simp
      first | done | rfl
     go_frame
    refine wpQL_nil (fun y5 hxq => ?_)
    replace hP : Hid (Sp y4 [] y4 [] [] [(48,1, .slice A3 q c3,q,ps.flatMap encSl)] y5) := hide ((unhide hP).ext hxq)
    clear hxq
    refine wpX_done (by kernel_rfl) ?_
    try go_frame
    clear q0 q1 c0 hself hmi
    cases qc with
    | false =>
     have hF := hide (show cqF V E K = false by unfold cqF; rw [← unhide hqc',Bool.and_false,Bool.false_and])
     go_wp2_with fail
     have h1 := unhide hi2
     refine ⟨n - (i + 1), ?_,by have := unhide hfm'; omega⟩
     rw [unhide hI4_2]
     exact ⟨i + 1,A3,q,c3,ps,(by first | rfl | trivial),(by first | rfl | trivial),(by first | rfl | trivial),(by first | rfl | trivial),(by first | rfl | (show _ = Value.int _ _; go_num) | go_num),(by first | rfl | trivial),by omega,unhide hq',by rw [unhide hnx',unhide hF]; simpa using unhide hps',unhide hP,rfl⟩
    | true =>
     have hF := hide (show cqF V E K = maxQ V E K V.length by unfold cqF; rw [← unhide hqc',decide_eq_true (unhide hKne)]; rfl)
     try dsimp only
     repeat ((fail_if_success (with_reducible refine wp_reg (id := 7) ?_)); (first | go_values | go_skip | go_step | go_guarded | go_upon | go_in | go_back | fail))
     with_reducible refine wp_reg (id := 7) ?_
     refine wpO_want rfl ?_
     go_simp
     refine wpO_done ?_
     try go_frame
     try dsimp only
     repeat ((fail_if_success (with_reducible refine wp_reg (id := 8) ?_)); (first | go_values | go_skip | go_step | go_guarded | go_upon | go_in | go_back | fail))
     with_reducible refine wp_reg (id := 8) ?_
     refine wpO_want rfl ?_
     go_simp
     refine wpO_done ?_
     try go_frame
     go_wp2_with fail
     obtain ⟨I5_10,hI5_100⟩ : ∃ I : Nat → Act → World → Prop,I = fun fk a' wr => ∃ (k : Nat), ∃ (mq : Bool),a'.tmps.size = 79 ∧ a'.tmps.getD 1 undef = .pointer (some ⟨r1,0,none⟩) ∧ a'.tmps.getD 3 undef = .slice A3 q c3 ∧ a'.tmps.getD 4 undef = .slice (some ⟨b7,o7,none⟩) n c7 ∧ a'.tmps.getD 5 undef = .int .i64 (i : Nat) ∧ a'.tmps.getD 6 undef = .bool mq ∧ a'.tmps.getD 7 undef = .int .i64 (k : Nat) ∧ a'.defers = [] ∧ k ≤ V.length ∧ mq = maxQ V E K k ∧ Sp y4 [] y4 [] [] [(48,1, .slice A3 q c3,q,ps.flatMap encSl)] wr ∧ fk = V.length - k := ⟨_,rfl⟩
     have hI5_10 := hide hI5_100
     clear hI5_100
     refine wp_loop_ix I5_10 (V.length - 0) ?_ ?_
     ·rw [unhide hI5_10]; exact ⟨0,true,rfl,rfl,rfl,rfl,rfl,rfl,rfl,rfl,Nat.zero_le _,rfl,unhide hP,rfl⟩
     ·rintro fk ⟨tm,dfs⟩ wr hrel
      rw [unhide hI5_10] at hrel
      obtain ⟨k,mq,hsz,e1,e3,e4,e5,e6,e7,hdf,hk,hmq,hPr,hfk⟩ := hrel
      obtain ⟨us,rfl⟩ : ∃ us : Nat → Value,tm = #[us 0,us 1,us 2,us 3,us 4,us 5,us 6,us 7,us 8,us 9,us 10,us 11,us 12,us 13,us 14,us 15,us 16,us 17,us 18,us 19,us 20,us 21,us 22,us 23,us 24,us 25,us 26,us 27,us 28,us 29,us 30,us 31,us 32,us 33,us 34,us 35,us 36,us 37,us 38,us 39,us 40,us 41,us 42,us 43,us 44,us 45,us 46,us 47,us 48,us 49,us 50,us 51,us 52,us 53,us 54,us 55,us 56,us 57,us 58,us 59,us 60,us 61,us 62,us 63,us 64,us 65,us 66,us 67,us 68,us 69,us 70,us 71,us 72,us 73,us 74,us 75,us 76,us 77,us 78] := ⟨fun i => tm.getD i undef,arr_fn hsz⟩
      have h1 : us 1 = .pointer (some ⟨r1,0,none⟩) := e1
      have h3 : us 3 = .slice A3 q c3 := e3
      have h4 : us 4 = .slice (some ⟨b7,o7,none⟩) n c7 := e4
      have h5 : us 5 = .int .i64 (i : Nat) := e5
      have h6 : us 6 = .bool mq := e6
      have h7 : us 7 = .int .i64 (k : Nat) := e7
      have hdf2 : dfs = [] := hdf
      subst hdf2
      clear hdf hsz e1 e3 e4 e5 e6 e7
      simp only [h1,h3,h4,h5,h6,h7]
      clear h1 h3 h4 h5 h6 h7
      clear hP
      have hP := hide hPr
      have hmq' := hide hmq
      have hfk' := hide hfk
      clear hPr hmq hfk
      by_cases hlt : k < V.length
      ·have hil2 : (k : Int) < (V.length : Int) := by omega
       have hk2 := hide hlt
       have hkb : (k : Int) ≤ 12 := by have := unhide hl'; omega
       obtain ⟨bV,oV,rfl,d0,d1,d2⟩ := atV (unhide hV') hlt
       clear d1 d2
       obtain ⟨y,hy⟩ : ∃ y,y = V[k].1 := ⟨_,rfl⟩
       have cV := hide (fun W (hW : Ext y4 W) => show W.cell? ⟨bV,oV + k * 3,none⟩ = some (.int .i64 y) by rw [hy]; exact d0 W hW)
       have hmn : maxQ V E K (k + 1) = (mq && (decide (y ∈ K) || !clqB V E (K ++ [y]))) := by rw [hy,unhide hmq']; exact maxQ_next K hlt
       obtain ⟨hq1,hhq1⟩ : ∃ h,h = decide (y ∈ K) := ⟨_,rfl⟩
       obtain ⟨hq2,hhq2⟩ : ∃ h,h = clqB V E (K ++ [y]) := ⟨_,rfl⟩
       rw [← hhq1, ← hhq2] at hmn
       have hmn' := hide hmn
       have hh1 := hide hhq1
       have hh2 := hide hhq2
       clear hk d0 hy hmn hhq1 hhq2 hlt
       have q0 := fun W (hW : Ext wr W) => ((unhide hB1).ext (unhide hP).extf).cells 0 (v := .slice (some ⟨bV,oV,none⟩) V.length cA) rfl W hW
       have q1 := fun W (hW : Ext wr W) => ((unhide hB1).ext (unhide hP).extf).cells 1 (v := .slice B E.length cB) rfl W hW
       have c0 := fun W (hW : Ext wr W) => unhide hcell W ((unhide hP).extf.trans hW)
       have c1 := fun W (hW : Ext wr W) => unhide cV W ((unhide hP).extf.trans hW)
       have hself := Ext.refl wr
       try dsimp only
       repeat ((fail_if_success (with_reducible refine wp_reg (id := 9) ?_)); (first | go_values | go_skip | go_step | go_guarded | go_upon | go_in | go_back | fail))
       with_reducible refine wp_reg (id := 9) ?_
       iterate 5
        refine wpO_want rfl ?_
        go_simp
       refine wpO_done ?_
       try go_frame
       try dsimp only
       repeat ((fail_if_success (with_reducible refine wp_reg (id := 11) ?_)); (first | go_values | go_skip | go_step | go_guarded | go_upon | go_in | go_back | fail))
       with_reducible refine wp_reg (id := 11) ?_
       iterate 7
        refine wpO_want rfl ?_
        go_simp
       clear q0 q1 c0 c1 hself
       refine wpO_done ?_
       try go_frame
       go_wp2_with fail
       have q0 := fun W (hW : Keep [] wr W) => ((unhide hB1).ext (unhide hP).extf).cells 0 (v := .slice (some ⟨bV,oV,none⟩) V.length cA) rfl W hW.ext
       have q1 := fun W (hW : Keep [] wr W) => ((unhide hB1).ext (unhide hP).extf).cells 1 (v := .slice B E.length cB) rfl W hW.ext
       have c0 := fun W (hW : Keep [] wr W) => unhide hcell W ((unhide hP).extf.trans hW.ext)
       have c1 := fun W (hW : Keep [] wr W) => unhide cV W ((unhide hP).extf.trans hW.ext)
       have hself := Keep.refl [] wr
       cases mq with
       | false =>
        refine wp_regionK (P := Tryz.prog) [] [0,1,2,3,4,5,6,7,8,9,10,11,12,13,14,15,16,17,18,19,20,21,22,23] [] 0 #[true,true,true,true,true,true,true,true,true,true,true,true,true,true,true,true,true,true,true,true,true,true,true,true] (by kernel_rfl) (by kernel_rfl) rfl (by rfl) ?_
        iterate 2
         refine ql_want (v := ?_) rfl (by rfl) (fun W hW => ?_) ?_
         rotate_left
         ·go_simp
          first | done | rfl
         go_frame
        iterate 22
         first
         | (refine ql_skip rfl (by rfl) ?_)
         | (refine ql_want (v := ?_) rfl (by rfl) (fun W hW => ?_) ?_; rotate_left; (go_simp; (first | done | rfl)))
         try go_frame
        refine wpQL_nil (fun y6 hxq => ?_)
        replace hP : Hid (Sp y4 [] y4 [] [] [(48,1, .slice A3 q c3,q,ps.flatMap encSl)] y6) := hide ((unhide hP).ext hxq)
        clear hxq
        refine wpX_done (by kernel_rfl) ?_
        try go_frame
        clear q0 q1 c0 c1 hself
        go_wp2_with fail
        have h1 := unhide hk2
        refine ⟨V.length - (k + 1), ?_,by have := unhide hfk'; omega⟩
        rw [unhide hI5_10]
        exact ⟨k + 1,false,(by first | rfl | trivial),(by first | rfl | trivial),(by first | rfl | trivial),(by first | rfl | trivial),(by first | rfl | trivial),(by first | rfl | trivial),(by first | rfl | (show _ = Value.int _ _; go_num) | go_num),(by first | rfl | trivial),by omega,by rw [unhide hmn']; rfl,unhide hP,rfl⟩
       | true =>
        cases hq1 with
        | false =>
         refine wp_regionK (P := Tryz.prog) [] [0,1,2,3,4,5,6,7,8,9,11,12,13,14,16] [] 9 #[true,true,true,true,true,true,true,true,true,true,false,true,true,true,true,false,true,false,false,false,false,false,false,false] (by kernel_rfl) (by kernel_rfl) rfl (by rfl) ?_
         iterate 7
          refine ql_want (v := ?_) rfl (by rfl) (fun W hW => ?_) ?_
          rotate_left
          ·go_simp
           first | done | rfl
          go_frame
         refine ql_want (v := .bool false) rfl (by rfl) (fun W hW => ?_) ?_
         ·go_simp
          refine (hasQ_any ak K m ck y W ((unhide hKs).ext ((unhide hP).extf.trans ((Ext.refl _).of_new hW (by simp)))) (unhide hm') (by have := unhide hmb; omega)).mono ?_
          rw [← unhide hh1]
          rintro _ _ ⟨h1,h2⟩
          exact ⟨_,h1,rfl,h2⟩
         go_frame
         iterate 7
          refine ql_want (v := ?_) rfl (by rfl) (fun W hW => ?_) ?_
          rotate_left
          ·go_simp
           first | done | rfl
          go_frame
         refine wpQL_nil (fun y6 hxq => ?_)
         have hK := hide (hxq.keep [])
         replace hP : Hid (Sp y4 [] y4 [] [] [(48,1, .slice A3 q c3,q,ps.flatMap encSl)] y6) := hide ((unhide hP).ext hxq)
         clear hxq
         clear q0 q1 c0 c1 hself
         have hWq := hide (Ext.refl y6)
         refine lx_two (i := 10) (k := 17) (by kernel_rfl) rfl (by rfl) #[true,true,true,true,true,true,true,true,true,true,true,true,true,true,true,false,true,false,false,false,false,false,false,false] (by rfl) rfl (by rfl) #[true,true,true,true,true,true,true,true,true,true,false,true,true,true,true,false,true,true,false,false,false,false,false,false] (by rfl) ?_ ?_
         ·skip
          refine (unhide hP).allocL (unhide hK) (v := fun b => .slice (some ⟨b,0,none⟩) 0 0) 3 #[] ?_ ?_
          ·exact run_buildI0 rfl
          intro be y7 hQ hK2 hg2
          replace hP : Hid (Sp y4 [] y4 [] [(be,3, #[])] [(48,1, .slice A3 q c3,q,ps.flatMap encSl)] y7) := hide hQ
          replace hK := hide hK2
          have hge_be := hide hg2
          clear hQ hK2 hg2
          try go_frame
          replace hP : Hid (Sp y4 [] y4 [] [] [(48,1, .slice A3 q c3,q,ps.flatMap encSl),(3,1, .slice (some ⟨be,0,none⟩) 0 0,0,[])] y7) := hide (Sp.toRow (L := []) (b := be) (t := 3) (n := 0) (cs := #[]) (unhide hP) rfl (by decide))
          refine lx_two (i := 15) (k := 17) (by kernel_rfl) rfl (by rfl) #[true,true,true,true,true,true,true,true,true,true,true,true,true,true,true,true,true,false,false,false,false,false,false,false] (by rfl) rfl (by rfl) #[true,true,true,true,true,true,true,true,true,true,true,true,true,true,true,false,true,true,false,false,false,false,false,false] (by rfl) ?_ ?_
          ·skip
           refine (unhide hP).apAL2 (unhide hK) (enc := encI) (T := 3) (ST := 31) (ST2 := 48) (T2 := 3) 1 (v := .slice (some ⟨be,0,none⟩) 0 0) (m := 0) (xs := ([] : List Int)) rfl (fun z hz => .inr (by simp [Value.ownBlock] at hz; subst hz; exact unhide hge_be)) infoI Tryz.underlying31 Tryz.underlying48 one_encI (fun _ => rfl) (by decide) (by decide) rfl K rfl rfl (unhide hm').symm ((unhide hKs).ext (unhide hP).extf) (by have := unhide hmb; omega) ?_
           intro A8 cA8 y8 hQ hK2 hg2
           replace hP : Hid (Sp y4 [] y4 [] [] [(48,1, .slice A3 q c3,q,ps.flatMap encSl),(3,1, .slice A8 (0 + m) cA8,0 + m,([] ++ K).flatMap encI)] y8) := hide hQ
           replace hK := hide hK2
           have hge_A8 := hide hg2
           clear hQ hK2 hg2
           try go_frame
           refine lx_one (i := 17) (by kernel_rfl) rfl (by rfl) #[true,true,true,true,true,true,true,true,true,true,true,true,true,true,true,true,true,true,false,false,false,false,false,false] (by rfl) ?_
           refine (unhide hP).allocL (unhide hK) (v := fun b => .slice (some ⟨b,0,none⟩) 1 1) 3 #[.int .i64 y] ?_ ?_
           ·exact run_build1 rfl rfl
           intro bt y9 hQ hK2 hg2
           replace hP : Hid (Sp y4 [] y4 [] [(bt,3, #[.int .i64 y])] [(48,1, .slice A3 q c3,q,ps.flatMap encSl),(3,1, .slice A8 (0 + m) cA8,0 + m,([] ++ K).flatMap encI)] y9) := hide hQ
           replace hK := hide hK2
           have hge_bt := hide hg2
           clear hQ hK2 hg2
           try go_frame
           refine lx_one (i := 18) (by kernel_rfl) rfl (by rfl) #[true,true,true,true,true,true,true,true,true,true,true,true,true,true,true,true,true,true,true,false,false,false,false,false] (by rfl) ?_
           refine (unhide hP).ap1L (unhide hK) (enc := encI) (T := 3) (ST := 31) 1 (v := .slice A8 (0 + m) cA8) (m := 0 + m) (xs := ([] ++ K)) rfl (unhide hge_A8) infoI Tryz.underlying31 one_encI (fun _ => rfl) (by decide) (by decide) rfl y rfl rfl ((unhide hP).get 0 rfl) (by have := unhide hmb; omega) ?_
           intro A9 cA9 y10 hQ hK2 hg2
           replace hP : Hid (Sp y4 [] y4 [] [(bt,3, #[.int .i64 y])] [(48,1, .slice A3 q c3,q,ps.flatMap encSl),(3,1, .slice A9 (0 + m + 1) cA9,0 + m + 1,(([] ++ K) ++ [y]).flatMap encI)] y10) := hide hQ
           replace hK := hide hK2
           have hge_A9 := hide hg2
           clear hQ hK2 hg2
           try go_frame
           obtain ⟨m9,hm9⟩ : ∃ m9,m9 = 0 + m + 1 := ⟨_,rfl⟩
           rw [← hm9] at hP ⊢
           have hm9' := hide (show m9 = (([] ++ K) ++ [y]).length by rw [hm9,List.length_append,List.length_append, ← unhide hm']; rfl)
           clear hm9
           refine lx_one (i := 19) (by kernel_rfl) rfl (by rfl) #[true,true,true,true,true,true,true,true,true,true,true,true,true,true,true,true,true,true,true,true,false,false,false,false] (by rfl) ?_
           have hca := clqN_any (some ⟨bV,oV,none⟩) B V E cA cB A9 (([] ++ K) ++ [y]) m9 cA9 y10 ((unhide hV').ext (unhide hP).extf) (unhide hnV') ((unhide hE').ext (unhide hP).extf) (unhide hnE') (own_at (enc := encI) (by have h := (unhide hP).row 1 rfl; rw [unhide hm9'] at h; exact h) (fun _ => rfl)) (unhide hm9') (by have h := unhide hm9'; have := unhide hmb; have := unhide hm'; simp at h; omega)
           rw [show clqB V E (([] ++ K) ++ [y]) = hq2 by rw [List.nil_append]; exact (unhide hh2).symm] at hca
           go_simp
           refine (hca).mono ?_
           rintro _ zy11 ⟨rfl,hxc⟩
           refine ⟨_,rfl,(unhide hK).trans (hxc.keep _),fun y11 hxd => ?_⟩
           replace hP : Hid (Sp y4 [] y4 [] [(bt,3, #[.int .i64 y])] [(48,1, .slice A3 q c3,q,ps.flatMap encSl),(3,1, .slice A9 m9 cA9,m9,(([] ++ K) ++ [y]).flatMap encI)] y11) := hide ((unhide hP).ext (hxc.trans hxd))
           replace hK := hide ((unhide hK).trans ((hxc.trans hxd).keep _))
           clear hxc hxd
           try go_frame
           clear hca
           refine lx_rekeep (unhide hK) [20,21,22,23] [] 0 4 #[true,true,true,true,true,true,true,true,true,true,true,true,true,true,true,true,true,true,true,true,false,false,false,false] #[true,true,true,true,true,true,true,true,true,true,true,true,true,true,true,true,true,true,true,true,true,true,true,true] (by kernel_rfl) rfl (by rfl) ?_
           clear hK
           iterate 4
            refine ql_want (v := ?_) rfl (by rfl) (fun W hW => ?_) ?_
            rotate_left
            ·go_simp
             first | done | rfl
            go_frame
           refine wpQL_nil (fun y12 hxq => ?_)
           replace hP : Hid (Sp y4 [] y4 [] [(bt,3, #[.int .i64 y])] [(48,1, .slice A3 q c3,q,ps.flatMap encSl),(3,1, .slice A9 m9 cA9,m9,(([] ++ K) ++ [y]).flatMap encI)] y12) := hide ((unhide hP).ext hxq)
           clear hxq
           refine wpX_done (by kernel_rfl) ?_
           try go_frame
           replace hP : Hid (Sp y4 [] y4 [] [] [(48,1, .slice A3 q c3,q,ps.flatMap encSl)] y12) := hide ((unhide hP).sub (List.nil_sublist _) (by simp))
           cases hq2 with
           | false =>
            go_wp2_with fail
            have h1 := unhide hk2
            refine ⟨V.length - (k + 1), ?_,by have := unhide hfk'; omega⟩
            rw [unhide hI5_10]
            exact ⟨k + 1,true,(by first | rfl | trivial),(by first | rfl | trivial),(by first | rfl | trivial),(by first | rfl | trivial),(by first | rfl | trivial),(by first | rfl | trivial),(by first | rfl | (show _ = Value.int _ _; go_num) | go_num),(by first | rfl | trivial),by omega,by rw [unhide hmn']; rfl,unhide hP,rfl⟩
           | true =>
            go_wp2_with fail
            have h1 := unhide hk2
            refine ⟨V.length - (k + 1), ?_,by have := unhide hfk'; omega⟩
            rw [unhide hI5_10]
            exact ⟨k + 1,false,(by first | rfl | trivial),(by first | rfl | trivial),(by first | rfl | trivial),(by first | rfl | trivial),(by first | rfl | trivial),(by first | rfl | trivial),(by first | rfl | (show _ = Value.int _ _; go_num) | go_num),(by first | rfl | trivial),by omega,by rw [unhide hmn']; rfl,unhide hP,rfl⟩
          ·skip
           refine (unhide hP).allocL (unhide hK) (v := fun b => .slice (some ⟨b,0,none⟩) 1 1) 3 #[.int .i64 y] ?_ ?_
           ·exact run_build1 rfl rfl
           intro bt y8 hQ hK2 hg2
           replace hP : Hid (Sp y4 [] y4 [] [(bt,3, #[.int .i64 y])] [(48,1, .slice A3 q c3,q,ps.flatMap encSl),(3,1, .slice (some ⟨be,0,none⟩) 0 0,0,[])] y8) := hide hQ
           replace hK := hide hK2
           have hge_bt := hide hg2
           clear hQ hK2 hg2
           try go_frame
           refine lx_one (i := 15) (by kernel_rfl) rfl (by rfl) #[true,true,true,true,true,true,true,true,true,true,true,true,true,true,true,true,true,true,false,false,false,false,false,false] (by rfl) ?_
           refine (unhide hP).apAL2 (unhide hK) (enc := encI) (T := 3) (ST := 31) (ST2 := 48) (T2 := 3) 1 (v := .slice (some ⟨be,0,none⟩) 0 0) (m := 0) (xs := ([] : List Int)) rfl (fun z hz => .inr (by simp [Value.ownBlock] at hz; subst hz; exact unhide hge_be)) infoI Tryz.underlying31 Tryz.underlying48 one_encI (fun _ => rfl) (by decide) (by decide) rfl K rfl rfl (unhide hm').symm ((unhide hKs).ext (unhide hP).extf) (by have := unhide hmb; omega) ?_
           intro A8 cA8 y9 hQ hK2 hg2
           replace hP : Hid (Sp y4 [] y4 [] [(bt,3, #[.int .i64 y])] [(48,1, .slice A3 q c3,q,ps.flatMap encSl),(3,1, .slice A8 (0 + m) cA8,0 + m,([] ++ K).flatMap encI)] y9) := hide hQ
           replace hK := hide hK2
           have hge_A8 := hide hg2
           clear hQ hK2 hg2
           try go_frame
           refine lx_one (i := 18) (by kernel_rfl) rfl (by rfl) #[true,true,true,true,true,true,true,true,true,true,true,true,true,true,true,true,true,true,true,false,false,false,false,false] (by rfl) ?_
           refine (unhide hP).ap1L (unhide hK) (enc := encI) (T := 3) (ST := 31) 1 (v := .slice A8 (0 + m) cA8) (m := 0 + m) (xs := ([] ++ K)) rfl (unhide hge_A8) infoI Tryz.underlying31 one_encI (fun _ => rfl) (by decide) (by decide) rfl y rfl rfl ((unhide hP).get 0 rfl) (by have := unhide hmb; omega) ?_
           intro A9 cA9 y10 hQ hK2 hg2
           replace hP : Hid (Sp y4 [] y4 [] [(bt,3, #[.int .i64 y])] [(48,1, .slice A3 q c3,q,ps.flatMap encSl),(3,1, .slice A9 (0 + m + 1) cA9,0 + m + 1,(([] ++ K) ++ [y]).flatMap encI)] y10) := hide hQ
           replace hK := hide hK2
           have hge_A9 := hide hg2
           clear hQ hK2 hg2
           try go_frame
           obtain ⟨m9,hm9⟩ : ∃ m9,m9 = 0 + m + 1 := ⟨_,rfl⟩
           rw [← hm9] at hP ⊢
           have hm9' := hide (show m9 = (([] ++ K) ++ [y]).length by rw [hm9,List.length_append,List.length_append, ← unhide hm']; rfl)
           clear hm9
           refine lx_one (i := 19) (by kernel_rfl) rfl (by rfl) #[true,true,true,true,true,true,true,true,true,true,true,true,true,true,true,true,true,true,true,true,false,false,false,false] (by rfl) ?_
           have hca := clqN_any (some ⟨bV,oV,none⟩) B V E cA cB A9 (([] ++ K) ++ [y]) m9 cA9 y10 ((unhide hV').ext (unhide hP).extf) (unhide hnV') ((unhide hE').ext (unhide hP).extf) (unhide hnE') (own_at (enc := encI) (by have h := (unhide hP).row 1 rfl; rw [unhide hm9'] at h; exact h) (fun _ => rfl)) (unhide hm9') (by have h := unhide hm9'; have := unhide hmb; have := unhide hm'; simp at h; omega)
           rw [show clqB V E (([] ++ K) ++ [y]) = hq2 by rw [List.nil_append]; exact (unhide hh2).symm] at hca
           go_simp
           refine (hca).mono ?_
           rintro _ zy11 ⟨rfl,hxc⟩
           refine ⟨_,rfl,(unhide hK).trans (hxc.keep _),fun y11 hxd => ?_⟩
           replace hP : Hid (Sp y4 [] y4 [] [(bt,3, #[.int .i64 y])] [(48,1, .slice A3 q c3,q,ps.flatMap encSl),(3,1, .slice A9 m9 cA9,m9,(([] ++ K) ++ [y]).flatMap encI)] y11) := hide ((unhide hP).ext (hxc.trans hxd))
           replace hK := hide ((unhide hK).trans ((hxc.trans hxd).keep _))
           clear hxc hxd
           try go_frame
           clear hca
           refine lx_rekeep (unhide hK) [20,21,22,23] [] 0 4 #[true,true,true,true,true,true,true,true,true,true,true,true,true,true,true,true,true,true,true,true,false,false,false,false] #[true,true,true,true,true,true,true,true,true,true,true,true,true,true,true,true,true,true,true,true,true,true,true,true] (by kernel_rfl) rfl (by rfl) ?_
           clear hK
           iterate 4
            refine ql_want (v := ?_) rfl (by rfl) (fun W hW => ?_) ?_
            rotate_left
            ·go_simp
             first | done | rfl
            go_frame
           refine wpQL_nil (fun y12 hxq => ?_)
           replace hP : Hid (Sp y4 [] y4 [] [(bt,3, #[.int .i64 y])] [(48,1, .slice A3 q c3,q,ps.flatMap encSl),(3,1, .slice A9 m9 cA9,m9,(([] ++ K) ++ [y]).flatMap encI)] y12) := hide ((unhide hP).ext hxq)
           clear hxq
           refine wpX_done (by kernel_rfl) ?_
           try go_frame
           replace hP : Hid (Sp y4 [] y4 [] [] [(48,1, .slice A3 q c3,q,ps.flatMap encSl)] y12) := hide ((unhide hP).sub (List.nil_sublist _) (by simp))
           cases hq2 with
           | false =>
            go_wp2_with fail
            have h1 := unhide hk2
            refine ⟨V.length - (k + 1), ?_,by have := unhide hfk'; omega⟩
            rw [unhide hI5_10]
            exact ⟨k + 1,true,(by first | rfl | trivial),(by first | rfl | trivial),(by first | rfl | trivial),(by first | rfl | trivial),(by first | rfl | trivial),(by first | rfl | trivial),(by first | rfl | (show _ = Value.int _ _; go_num) | go_num),(by first | rfl | trivial),by omega,by rw [unhide hmn']; rfl,unhide hP,rfl⟩
           | true =>
            go_wp2_with fail
            have h1 := unhide hk2
            refine ⟨V.length - (k + 1), ?_,by have := unhide hfk'; omega⟩
            rw [unhide hI5_10]
            exact ⟨k + 1,false,(by first | rfl | trivial),(by first | rfl | trivial),(by first | rfl | trivial),(by first | rfl | trivial),(by first | rfl | trivial),(by first | rfl | trivial),(by first | rfl | (show _ = Value.int _ _; go_num) | go_num),(by first | rfl | trivial),by omega,by rw [unhide hmn']; rfl,unhide hP,rfl⟩
         ·skip
          refine (unhide hP).allocL (unhide hK) (v := fun b => .slice (some ⟨b,0,none⟩) 1 1) 3 #[.int .i64 y] ?_ ?_
          ·exact run_build1 rfl rfl
          intro bt y7 hQ hK2 hg2
          replace hP : Hid (Sp y4 [] y4 [] [(bt,3, #[.int .i64 y])] [(48,1, .slice A3 q c3,q,ps.flatMap encSl)] y7) := hide hQ
          replace hK := hide hK2
          have hge_bt := hide hg2
          clear hQ hK2 hg2
          try go_frame
          refine lx_one (i := 10) (by kernel_rfl) rfl (by rfl) #[true,true,true,true,true,true,true,true,true,true,true,true,true,true,true,false,true,true,false,false,false,false,false,false] (by rfl) ?_
          refine (unhide hP).allocL (unhide hK) (v := fun b => .slice (some ⟨b,0,none⟩) 0 0) 3 #[] ?_ ?_
          ·exact run_buildI0 rfl
          intro be y8 hQ hK2 hg2
          replace hP : Hid (Sp y4 [] y4 [] [(bt,3, #[.int .i64 y]),(be,3, #[])] [(48,1, .slice A3 q c3,q,ps.flatMap encSl)] y8) := hide hQ
          replace hK := hide hK2
          have hge_be := hide hg2
          clear hQ hK2 hg2
          try go_frame
          replace hP : Hid (Sp y4 [] y4 [] [(bt,3, #[.int .i64 y])] [(48,1, .slice A3 q c3,q,ps.flatMap encSl),(3,1, .slice (some ⟨be,0,none⟩) 0 0,0,[])] y8) := hide (Sp.toRow (L := [(bt,3, #[.int .i64 y])]) (b := be) (t := 3) (n := 0) (cs := #[]) (unhide hP) rfl (by decide))
          refine lx_one (i := 15) (by kernel_rfl) rfl (by rfl) #[true,true,true,true,true,true,true,true,true,true,true,true,true,true,true,true,true,true,false,false,false,false,false,false] (by rfl) ?_
          refine (unhide hP).apAL2 (unhide hK) (enc := encI) (T := 3) (ST := 31) (ST2 := 48) (T2 := 3) 1 (v := .slice (some ⟨be,0,none⟩) 0 0) (m := 0) (xs := ([] : List Int)) rfl (fun z hz => .inr (by simp [Value.ownBlock] at hz; subst hz; exact unhide hge_be)) infoI Tryz.underlying31 Tryz.underlying48 one_encI (fun _ => rfl) (by decide) (by decide) rfl K rfl rfl (unhide hm').symm ((unhide hKs).ext (unhide hP).extf) (by have := unhide hmb; omega) ?_
          intro A8 cA8 y9 hQ hK2 hg2
          replace hP : Hid (Sp y4 [] y4 [] [(bt,3, #[.int .i64 y])] [(48,1, .slice A3 q c3,q,ps.flatMap encSl),(3,1, .slice A8 (0 + m) cA8,0 + m,([] ++ K).flatMap encI)] y9) := hide hQ
          replace hK := hide hK2
          have hge_A8 := hide hg2
          clear hQ hK2 hg2
          try go_frame
          refine lx_one (i := 18) (by kernel_rfl) rfl (by rfl) #[true,true,true,true,true,true,true,true,true,true,true,true,true,true,true,true,true,true,true,false,false,false,false,false] (by rfl) ?_
          refine (unhide hP).ap1L (unhide hK) (enc := encI) (T := 3) (ST := 31) 1 (v := .slice A8 (0 + m) cA8) (m := 0 + m) (xs := ([] ++ K)) rfl (unhide hge_A8) infoI Tryz.underlying31 one_encI (fun _ => rfl) (by decide) (by decide) rfl y rfl rfl ((unhide hP).get 0 rfl) (by have := unhide hmb; omega) ?_
          intro A9 cA9 y10 hQ hK2 hg2
          replace hP : Hid (Sp y4 [] y4 [] [(bt,3, #[.int .i64 y])] [(48,1, .slice A3 q c3,q,ps.flatMap encSl),(3,1, .slice A9 (0 + m + 1) cA9,0 + m + 1,(([] ++ K) ++ [y]).flatMap encI)] y10) := hide hQ
          replace hK := hide hK2
          have hge_A9 := hide hg2
          clear hQ hK2 hg2
          try go_frame
          obtain ⟨m9,hm9⟩ : ∃ m9,m9 = 0 + m + 1 := ⟨_,rfl⟩
          rw [← hm9] at hP ⊢
          have hm9' := hide (show m9 = (([] ++ K) ++ [y]).length by rw [hm9,List.length_append,List.length_append, ← unhide hm']; rfl)
          clear hm9
          refine lx_one (i := 19) (by kernel_rfl) rfl (by rfl) #[true,true,true,true,true,true,true,true,true,true,true,true,true,true,true,true,true,true,true,true,false,false,false,false] (by rfl) ?_
          have hca := clqN_any (some ⟨bV,oV,none⟩) B V E cA cB A9 (([] ++ K) ++ [y]) m9 cA9 y10 ((unhide hV').ext (unhide hP).extf) (unhide hnV') ((unhide hE').ext (unhide hP).extf) (unhide hnE') (own_at (enc := encI) (by have h := (unhide hP).row 1 rfl; rw [unhide hm9'] at h; exact h) (fun _ => rfl)) (unhide hm9') (by have h := unhide hm9'; have := unhide hmb; have := unhide hm'; simp at h; omega)
          rw [show clqB V E (([] ++ K) ++ [y]) = hq2 by rw [List.nil_append]; exact (unhide hh2).symm] at hca
          go_simp
          refine (hca).mono ?_
          rintro _ zy11 ⟨rfl,hxc⟩
          refine ⟨_,rfl,(unhide hK).trans (hxc.keep _),fun y11 hxd => ?_⟩
          replace hP : Hid (Sp y4 [] y4 [] [(bt,3, #[.int .i64 y])] [(48,1, .slice A3 q c3,q,ps.flatMap encSl),(3,1, .slice A9 m9 cA9,m9,(([] ++ K) ++ [y]).flatMap encI)] y11) := hide ((unhide hP).ext (hxc.trans hxd))
          replace hK := hide ((unhide hK).trans ((hxc.trans hxd).keep _))
          clear hxc hxd
          try go_frame
          clear hca
          refine lx_rekeep (unhide hK) [20,21,22,23] [] 0 4 #[true,true,true,true,true,true,true,true,true,true,true,true,true,true,true,true,true,true,true,true,false,false,false,false] #[true,true,true,true,true,true,true,true,true,true,true,true,true,true,true,true,true,true,true,true,true,true,true,true] (by kernel_rfl) rfl (by rfl) ?_
          clear hK
          iterate 4
           refine ql_want (v := ?_) rfl (by rfl) (fun W hW => ?_) ?_
           rotate_left
           ·go_simp
            first | done | rfl
           go_frame
          refine wpQL_nil (fun y12 hxq => ?_)
          replace hP : Hid (Sp y4 [] y4 [] [(bt,3, #[.int .i64 y])] [(48,1, .slice A3 q c3,q,ps.flatMap encSl),(3,1, .slice A9 m9 cA9,m9,(([] ++ K) ++ [y]).flatMap encI)] y12) := hide ((unhide hP).ext hxq)
          clear hxq
          refine wpX_done (by kernel_rfl) ?_
          try go_frame
          replace hP : Hid (Sp y4 [] y4 [] [] [(48,1, .slice A3 q c3,q,ps.flatMap encSl)] y12) := hide ((unhide hP).sub (List.nil_sublist _) (by simp))
          cases hq2 with
          | false =>
           go_wp2_with fail
           have h1 := unhide hk2
           refine ⟨V.length - (k + 1), ?_,by have := unhide hfk'; omega⟩
           rw [unhide hI5_10]
           exact ⟨k + 1,true,(by first | rfl | trivial),(by first | rfl | trivial),(by first | rfl | trivial),(by first | rfl | trivial),(by first | rfl | trivial),(by first | rfl | trivial),(by first | rfl | (show _ = Value.int _ _; go_num) | go_num),(by first | rfl | trivial),by omega,by rw [unhide hmn']; rfl,unhide hP,rfl⟩
          | true =>
           go_wp2_with fail
           have h1 := unhide hk2
           refine ⟨V.length - (k + 1), ?_,by have := unhide hfk'; omega⟩
           rw [unhide hI5_10]
           exact ⟨k + 1,false,(by first | rfl | trivial),(by first | rfl | trivial),(by first | rfl | trivial),(by first | rfl | trivial),(by first | rfl | trivial),(by first | rfl | trivial),(by first | rfl | (show _ = Value.int _ _; go_num) | go_num),(by first | rfl | trivial),by omega,by rw [unhide hmn']; rfl,unhide hP,rfl⟩
        | true =>
         refine wp_regionK (P := Tryz.prog) [] [0,1,2,3,4,5,6,7,8,9,10,11,12,13,14,15,16,17,18,19,20,21,22,23] [] 0 #[true,true,true,true,true,true,true,true,true,true,true,true,true,true,true,true,true,true,true,true,true,true,true,true] (by kernel_rfl) (by kernel_rfl) rfl (by rfl) ?_
         iterate 7
          refine ql_want (v := ?_) rfl (by rfl) (fun W hW => ?_) ?_
          rotate_left
          ·go_simp
           first | done | rfl
          go_frame
         refine ql_want (v := .bool true) rfl (by rfl) (fun W hW => ?_) ?_
         ·go_simp
          refine (hasQ_any ak K m ck y W ((unhide hKs).ext ((unhide hP).extf.trans ((Ext.refl _).of_new hW (by simp)))) (unhide hm') (by have := unhide hmb; omega)).mono ?_
          rw [← unhide hh1]
          rintro _ _ ⟨h1,h2⟩
          exact ⟨_,h1,rfl,h2⟩
         go_frame
         iterate 1
          refine ql_want (v := ?_) rfl (by rfl) (fun W hW => ?_) ?_
          rotate_left
          ·go_simp
           first | done | rfl
          go_frame
         iterate 15
          first
          | (refine ql_skip rfl (by rfl) ?_)
          | (refine ql_want (v := ?_) rfl (by rfl) (fun W hW => ?_) ?_; rotate_left; (go_simp; (first | done | rfl)))
          try go_frame
         refine wpQL_nil (fun y6 hxq => ?_)
         replace hP : Hid (Sp y4 [] y4 [] [] [(48,1, .slice A3 q c3,q,ps.flatMap encSl)] y6) := hide ((unhide hP).ext hxq)
         clear hxq
         refine wpX_done (by kernel_rfl) ?_
         try go_frame
         clear q0 q1 c0 c1 hself
         go_wp2_with fail
         have h1 := unhide hk2
         refine ⟨V.length - (k + 1), ?_,by have := unhide hfk'; omega⟩
         rw [unhide hI5_10]
         exact ⟨k + 1,true,(by first | rfl | trivial),(by first | rfl | trivial),(by first | rfl | trivial),(by first | rfl | trivial),(by first | rfl | trivial),(by first | rfl | trivial),(by first | rfl | (show _ = Value.int _ _; go_num) | go_num),(by first | rfl | trivial),by omega,by rw [unhide hmn']; rfl,unhide hP,rfl⟩
      ·have hil2 : ¬ (k : Int) < (V.length : Int) := by omega
       obtain rfl : k = V.length := by omega
       clear hlt hk hfk'
       have q0 := ((unhide hB1).ext (unhide hP).extf).cells 0 (v := .slice A V.length cA) rfl
       have hself := Ext.refl wr
       try dsimp only
       repeat ((fail_if_success (with_reducible refine wp_reg (id := 9) ?_)); (first | go_values | go_skip | go_step | go_guarded | go_upon | go_in | go_back | fail))
       with_reducible refine wp_reg (id := 9) ?_
       iterate 5
        refine wpO_want rfl ?_
        go_simp
       clear q0 hself hil2
       refine wpO_done ?_
       try go_frame
       cases mq with
       | false =>
        try dsimp only
        repeat ((fail_if_success (with_reducible refine wp_reg (id := 13) ?_)); (first | go_values | go_skip | go_step | go_guarded | go_upon | go_in | go_back | fail))
        with_reducible refine wp_reg (id := 13) ?_
        refine wpO_want rfl ?_
        go_simp
        refine wpO_done ?_
        try go_frame
        go_wp2_with fail
        have h1 := unhide hi2
        refine ⟨n - (i + 1), ?_,by have := unhide hfm'; omega⟩
        rw [unhide hI4_2]
        exact ⟨i + 1,A3,q,c3,ps,(by first | rfl | trivial),(by first | rfl | trivial),(by first | rfl | trivial),(by first | rfl | trivial),(by first | rfl | (show _ = Value.int _ _; go_num) | go_num),(by first | rfl | trivial),by omega,unhide hq',by rw [unhide hnx',unhide hF, ← unhide hmq']; simpa using unhide hps',unhide hP,rfl⟩
       | true =>
        try dsimp only
        repeat ((fail_if_success (with_reducible refine wp_reg (id := 13) ?_)); (first | go_values | go_skip | go_step | go_guarded | go_upon | go_in | go_back | fail))
        with_reducible refine wp_reg (id := 13) ?_
        refine wpO_want rfl ?_
        go_simp
        refine wpO_done ?_
        try go_frame
        have c0 := fun W (hW : Ext wr W) => unhide hcell W ((unhide hP).extf.trans hW)
        have hself := Ext.refl wr
        try dsimp only
        repeat ((fail_if_success (with_reducible refine wp_reg (id := 14) ?_)); (first | go_values | go_skip | go_step | go_guarded | go_upon | go_in | go_back | fail))
        with_reducible refine wp_reg (id := 14) ?_
        iterate 5
         refine wpO_want rfl ?_
         go_simp
        clear c0 hself
        refine (unhide hP).build1O 48 #[.slice ak m ck] rfl (run_buildSl rfl rfl) ?_
        intro bs y6 hQ
        replace hP : Hid (Sp y4 [] y4 [] [(bs,48, #[.slice ak m ck])] [(48,1, .slice A3 q c3,q,ps.flatMap encSl)] y6) := hide hQ
        clear hQ
        go_frame
        refine (unhide hP).ap1O (enc := encSl) (T := 48) (ST := 46) 0 (v := .slice A3 q c3) (m := q) (xs := ps) rfl rfl infoR Tryz.underlying46 one_encSl (fun _ => rfl) (by decide) (by decide) rfl (ak,m,ck) rfl rfl ((unhide hP).get 0 rfl) (by have := unhide hqb; omega) ?_
        intro A10 cA10 y7 hQ
        replace hP : Hid (Sp y4 [] y4 [] [(bs,48, #[.slice ak m ck])] [(48,1, .slice A10 (q + 1) cA10,q + 1,(ps ++ [(ak,m,ck)]).flatMap encSl)] y7) := hide hQ
        clear hQ
        try go_frame
        refine wpO_want rfl ?_
        go_simp
        refine wpO_done ?_
        try go_frame
        replace hP : Hid (Sp y4 [] y4 [] [] [(48,1, .slice A10 (q + 1) cA10,q + 1,(ps ++ [(ak,m,ck)]).flatMap encSl)] y7) := hide ((unhide hP).sub (List.sublist_append_left _ ([(bs,48, #[.slice ak m ck])] : List Cl)) (List.Sublist.refl _))
        go_wp2_with fail
        have h1 := unhide hi2
        refine ⟨n - (i + 1), ?_,by have := unhide hfm'; omega⟩
        rw [unhide hI4_2]
        exact ⟨i + 1,A10,q + 1,cA10,ps ++ [(ak,m,ck)],(by first | rfl | trivial),(by first | rfl | trivial),(by first | rfl | trivial),(by first | rfl | trivial),(by first | rfl | (show _ = Value.int _ _; go_num) | go_num),(by first | rfl | trivial),by omega,by rw [List.length_append, ← unhide hq']; rfl,by rw [unhide hnx',unhide hF, ← unhide hmq',if_pos rfl]; exact (unhide hps').snoc (unhide hm') (unhide hKs),unhide hP,rfl⟩
  ·have hil : ¬ (i : Int) < (n : Int) := by omega
   have hpe := hide (show SlsOk _ ps OL by have h := unhide hps'; rw [List.take_of_length_le (by have := unhide hn'; omega), ← unhide hOL'] at h; exact h)
   clear hlt hi hps'
   try dsimp only
   repeat ((fail_if_success (with_reducible refine wp_reg (id := 4) ?_)); (first | go_values | go_skip | go_step | go_guarded | go_upon | go_in | go_back | fail))
   with_reducible refine wp_reg (id := 4) ?_
   iterate 4
    refine wpO_want rfl ?_
    go_simp
   refine wpO_done ?_
   try go_frame
   go_wp2_with fail
   refine Sp.leaves0 ?_
   exact ⟨_,results_tmp (t := 2) rfl _ _ _,SsPost.mk ((unhide hq').trans (unhide hpe).1) ((unhide hpe).ss (unhide hP).extf (own_at (enc := encSl) (by have h := (unhide hP).row 0 rfl; rw [unhide hq'] at h; exact h) (fun _ => rfl))) ((unhide hx0).trans (unhide hP).extf)⟩
end Go.Proofs.YtmfkkkhddigkfaaGreatDoor
