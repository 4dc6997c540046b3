/- Parts of a proof, laid together. Each part says its own conditions. -/
import Derived.Maps.RangeWalk
import Derived.Below
import Derived.Test.YtmokciekndllpaaGreatDoorC1
import Derived.Test.YtmokciekndllpaaGreatDoorRows
import Derived.WalkKit
import Derived.WalkSpells
import Derived.WalkLawsBesides
import Derived.BigQuiet
import Derived.Deep.QuietTactic
namespace Go.Proofs.YtmokciekndllpaaGreatDoor
open Go Go.RowKit Go.MapKept Go.ChangeMaps
open Go.Maps (Keyed)
structure Keep (S : List Nat) (w w' : World) : Prop where
 os : w'.os = w.os
 tape : w'.tape = w.tape
 output : w'.output = w.output
 size : w.heap.size ≤ w'.heap.size
 block : ∀ k,k < w.heap.size → k ∉ S → w'.heap[k]? = w.heap[k]?
theorem Keep.refl (S : List Nat) (w : World) : Keep S w w := ⟨rfl,rfl,rfl,Nat.le_refl _,fun _ _ _ => rfl⟩
theorem Keep.trans {S : List Nat} {a b c : World} (h : Keep S a b) (k : Keep S b c) : Keep S a c :=
 ⟨k.os.trans h.os,k.tape.trans h.tape,k.output.trans h.output,Nat.le_trans h.size k.size,fun i hi hs => (k.block i (Nat.lt_of_lt_of_le hi h.size) hs).trans (h.block i hi hs)⟩
theorem Keep.mono {S S' : List Nat} {a b : World} (h : Keep S a b) (hs : ∀ x ∈ S,x ∈ S') : Keep S' a b :=
 ⟨h.os,h.tape,h.output,h.size,fun i hi hn => h.block i hi (fun hin => hn (hs i hin))⟩
theorem Ext.keep {a b : World} (h : Ext a b) (S : List Nat) : Keep S a b := ⟨h.os,h.tape,h.output,h.size,fun i hi _ => h.block i hi⟩
theorem Keep.ext {a b : World} (h : Keep [] a b) : Ext a b := ⟨h.os,h.tape,h.output,h.size,fun i hi => h.block i hi (by simp)⟩
theorem Keep.of_new {S S' : List Nat} {a b c : World} (h : Keep S a b) (k : Keep S' b c) (hn : ∀ x ∈ S',x ∈ S ∨ a.heap.size ≤ x) : Keep S a c :=
 ⟨k.os.trans h.os,k.tape.trans h.tape,k.output.trans h.output,Nat.le_trans h.size k.size,fun i hi hs => (k.block i (Nat.lt_of_lt_of_le hi h.size) (fun hin => by
  rcases hn i hin with h1 | h1
  ·exact hs h1
  ·omega)).trans (h.block i hi hs)⟩
theorem Ext.of_new {S' : List Nat} {a b c : World} (h : Ext a b) (k : Keep S' b c) (hn : ∀ x ∈ S',a.heap.size ≤ x) : Ext a c :=
 (Keep.of_new (h.keep []) k (fun x hx => .inr (hn x hx))).ext
theorem Keep.setBlock {w : World} {b : Nat} (o : Obj) : Keep [b] w (setBlock w b o) :=
 ⟨rfl,rfl,rfl,by simp [ChangeMaps.setBlock],fun i hi hn => by
  have : i ≠ b := by simpa using hn
  simp [ChangeMaps.setBlock,Array.getElem?_setIfInBounds_ne (Ne.symm this)]⟩
theorem Keep.drew {S : List Nat} {a b : World} (h : Keep S a b) : Keep S a b.drew := ⟨h.os,h.tape,h.output,h.size,h.block⟩
section
variable {κ τ : Type} [DecidableEq κ]
def lookM (m : List (κ × τ)) (x : κ) : Option τ := (m.find? fun p => decide (p.1 = x)).map (·.2)
def putM (m : List (κ × τ)) (x : κ) (v : τ) : List (κ × τ) := if (lookM m x).isSome then m.map (fun p => if p.1 = x then (x,v) else p) else m ++ [(x,v)]
def delM (m : List (κ × τ)) (x : κ) : List (κ × τ) := m.filter fun p => decide (p.1 ≠ x)
theorem lookM_none {m : List (κ × τ)} {x : κ} : lookM m x = none ↔ ∀ p ∈ m,p.1 ≠ x := by
 simp [lookM]
theorem lookM_some {m : List (κ × τ)} (hn : (m.map (·.1)).Nodup) {x : κ} {v : τ} : lookM m x = some v ↔ (x,v) ∈ m := by
 induction m with
 | nil => simp [lookM]
 | cons p l ih =>
  simp only [List.map_cons,List.nodup_cons] at hn
  have ih := ih hn.2
  obtain ⟨a,b⟩ := p
  simp only [lookM,List.find?_cons] at ih ⊢
  by_cases h : a = x
  ·subst h
   simp only [decide_true,Option.map_some,Option.some.injEq,List.mem_cons,Prod.mk.injEq,true_and]
   constructor
   ·rintro rfl; exact .inl rfl
   ·rintro (h | h)
    ·exact h.symm
    ·exact absurd (List.mem_map.2 ⟨(a,v),h,rfl⟩) hn.1
  ·simp only [h,decide_false,List.mem_cons,Prod.mk.injEq]
   rw [ih]
   constructor
   ·exact .inr
   ·rintro (⟨h1,_⟩ | h1)
    ·exact absurd h1.symm h
    ·exact h1
theorem lookM_perm {m m' : List (κ × τ)} (hn : (m.map (·.1)).Nodup) (hp : m.Perm m') (x : κ) : lookM m x = lookM m' x := by
 have hn' : (m'.map (·.1)).Nodup := (hp.map _).nodup_iff.1 hn
 cases h : lookM m x with
 | none => exact (lookM_none.2 fun p hp' => lookM_none.1 h p (hp.mem_iff.2 hp')).symm
 | some v => exact ((lookM_some hn').2 (hp.mem_iff.1 ((lookM_some hn).1 h))).symm
end
structure KE (P : Program) (kt : TypeId) {κ : Type} (ek : κ → Value) (ok : κ → Prop) : Prop where
 keyed : Keyed P kt
 reads : ∀ k,ok k → ∃ l,keyOf P kt (ek k) = some l
 inj : ∀ a b,ek a = ek b → a = b
theorem keyOf_ints2 {P : Program} {k ki : TypeId} {f0 f1 : Field} (hu : P.underlying k = some (.struct #[f0,f1])) (hi : P.underlying ki = some (.int .i64)) (h0 : f0.type = ki) (h1 : f1.type = ki) (o0 : f0.offset = 0) (o1 : f1.offset = 1)
  (n0 : f0.name ≠ "_") (n1 : f1.name ≠ "_") (hkt : P.keyType k = true) (hc : P.cellsOf k = 2) (hci : P.cellsOf ki = 1) (hp : 0 < P.types.size) {a b : Int} (ha : (Lit.int .i64 a).wf = true) (hb : (Lit.int .i64 b).wf = true) : ∃ l,keyOf P k (.agg #[.int .i64 a, .int .i64 b]) = some l := by
 obtain ⟨d,hd⟩ : ∃ d,P.types.size = d + 1 := ⟨P.types.size - 1,by omega⟩
 simp [keyOf,hu,hkt,Value.formed,hc,Value.cells,hd,Program.keyLits,hi,hci,ha,hb,h0,h1,o0,o1,n0,n1]
def kv (e : MapEntry) : Value × Value := (e.key,e.val)
def MapIs {κ τ : Type} (ek : κ → Value) (ev : τ → Value) (ok : κ → Prop) (w : World) (b : Nat) (m : List (κ × τ)) : Prop :=
 ∃ es clock,w.heap[b]? = some (.map es clock) ∧ Stamped es clock ∧ es.toList.map kv = m.map (fun p => (ek p.1,ev p.2)) ∧ ∀ p ∈ m,ok p.1
def IterIs {κ τ : Type} (ek : κ → Value) (ev : τ → Value) (ok : κ → Prop) (w : World) (r b : Nat) (m left : List (κ × τ)) : Prop :=
 ∃ es clock since seen c0,w.heap[b]? = some (.map es clock) ∧ Stamped es clock ∧ es.toList.map kv = m.map (fun p => (ek p.1,ev p.2)) ∧ (∀ p ∈ m,ok p.1) ∧
  w.heap[r]? = some (.mapIter (some b) since seen c0) ∧ (∀ x ∈ es.toList,x.born < since) ∧ since ≤ c0 ∧ since ≤ clock ∧ (leftOf es seen).toList.map kv = left.map (fun p => (ek p.1,ev p.2))
section
variable {κ τ : Type} {ek : κ → Value} {ev : τ → Value} {ok : κ → Prop} {P : Program} {kt et t : TypeId} {w w' : World} {b : Nat} {m : List (κ × τ)}
theorem MapIs.lt (h : MapIs ek ev ok w b m) : b < w.heap.size := by
 obtain ⟨es,clock,hb,_⟩ := h
 exact (Array.getElem?_eq_some_iff.1 hb).1
theorem MapIs.of_block (h : MapIs ek ev ok w b m) (hb : w'.heap[b]? = w.heap[b]?) : MapIs ek ev ok w' b m := by
 obtain ⟨es,clock,h1,h2⟩ := h
 exact ⟨es,clock,hb.trans h1,h2⟩
theorem MapIs.keep {S : List Nat} (h : MapIs ek ev ok w b m) (hk : Keep S w w') (hn : b ∉ S) : MapIs ek ev ok w' b m := h.of_block (hk.block b h.lt hn)
theorem MapIs.ext (h : MapIs ek ev ok w b m) (hk : Ext w w') : MapIs ek ev ok w' b m := h.of_block (hk.block b h.lt)
theorem keys_nodup {es : Array MapEntry} {clock : Nat} (hs : Stamped es clock) (hm : es.toList.map kv = m.map (fun p => (ek p.1,ev p.2))) : (m.map (·.1)).Nodup := by
 have h1 : es.toList.map (·.key) = m.map (fun p => ek p.1) := by
  have := congrArg (List.map (·.1)) hm
  simpa [List.map_map,Function.comp_def,kv] using this
 have h2 : (m.map fun p => ek p.1).Nodup := h1 ▸ hs.2.2
 rw [show (fun p : κ × τ => ek p.1) = ek ∘ (·.1) from rfl, ← List.map_map] at h2
 exact (List.pairwise_map.1 h2).imp (fun {a b} hne e => hne (by rw [e]))
theorem MapIs.nodup (h : MapIs ek ev ok w b m) : (m.map (·.1)).Nodup := by
 obtain ⟨es,clock,_,hs,hm,_⟩ := h
 exact keys_nodup hs hm
variable {r : Nat} {left : List (κ × τ)}
theorem IterIs.map (h : IterIs ek ev ok w r b m left) : MapIs ek ev ok w b m := by
 obtain ⟨es,clock,since,seen,c0,h1,h2,h3,h4,_⟩ := h
 exact ⟨es,clock,h1,h2,h3,h4⟩
theorem IterIs.lt (h : IterIs ek ev ok w r b m left) : r < w.heap.size := by
 obtain ⟨es,clock,since,seen,c0,_,_,_,_,h1,_⟩ := h
 exact (Array.getElem?_eq_some_iff.1 h1).1
theorem IterIs.ne (h : IterIs ek ev ok w r b m left) : r ≠ b := by
 obtain ⟨es,clock,since,seen,c0,h0,_,_,_,h1,_⟩ := h
 intro e
 rw [e,h0] at h1
 cases h1
theorem IterIs.of_blocks (h : IterIs ek ev ok w r b m left) (hr : w'.heap[r]? = w.heap[r]?) (hb : w'.heap[b]? = w.heap[b]?) : IterIs ek ev ok w' r b m left := by
 obtain ⟨es,clock,since,seen,c0,h0,h2,h3,h4,h1,rest⟩ := h
 exact ⟨es,clock,since,seen,c0,hb.trans h0,h2,h3,h4,hr.trans h1,rest⟩
theorem IterIs.ext (h : IterIs ek ev ok w r b m left) (hk : Ext w w') : IterIs ek ev ok w' r b m left :=
 h.of_blocks (hk.block r h.lt) (hk.block b h.map.lt)
theorem MapIs.len (ht : P.underlying t = some (.map kt et)) (h : MapIs ek ev ok w b m) (ty : TypeId) : (Builtin.len_ #[t] ty #[.map (some b)]).run P w = .ok (.int .i64 m.length) w := by
 obtain ⟨es,clock,hb,_,hm,_⟩ := h
 have hl : es.size = m.length := by have := congrArg List.length hm; simpa using this
 simp [Builtin.len_,run_underlying ht,MapKept.run_getObj_map hb,Result.andThen,goInt,hl]
theorem MapIs.range (ht : P.underlying t = some (.map kt et)) (h : MapIs ek ev ok w b m) :
  ∃ w',(Instr.range t (.map (some b))).run P w = .ok (.pointer (some ⟨w.heap.size,0,none⟩)) w' ∧ IterIs ek ev ok w' w.heap.size b m m ∧ Ext w w' ∧ w'.heap.size = w.heap.size + 1 := by
 have hlt := h.lt
 obtain ⟨es,clock,hb,hs,hm,ho⟩ := h
 refine ⟨_,run_range_map w t kt et b es clock ht hb,⟨es,clock,clock, #[],clock, ?_,hs,hm,ho, ?_,hs.1,Nat.le_refl _,Nat.le_refl _, ?_⟩,(Ext.refl w).alloc _,by simp⟩
 ·exact ((MapKept.heap_alloc w _).2 b hlt).trans hb
 ·exact (MapKept.heap_alloc w _).1
 ·rw [show (leftOf es #[]).toList = es.toList from by simp [leftOf,List.filter_eq_self]]
  exact hm
theorem filter_push_seen {l : List MapEntry} {seen : Array Nat} {e : MapEntry} {l1 l2 : List MapEntry} (hn : (l.map (·.born)).Nodup) (h : l.filter (fun e => !seen.contains e.born) = l1 ++ e :: l2) :
  l.filter (fun x => !(seen.push e.born).contains x.born) = l1 ++ l2 := by
 have h1 : l.filter (fun x => !(seen.push e.born).contains x.born) = (l.filter (fun x => !seen.contains x.born)).filter (fun x => decide (x.born ≠ e.born)) := by
  rw [List.filter_filter]
  refine List.filter_congr fun x _ => ?_
  simp only [Array.contains_push,Bool.not_or]
  by_cases hh : x.born = e.born <;> cases seen.contains x.born <;> simp [hh]
 rw [h1,h]
 have h2 : ((l1 ++ e :: l2).map (·.born)).Nodup := by
  rw [← h]
  exact hn.sublist ((List.filter_sublist).map _)
 simp only [List.map_append,List.map_cons,List.nodup_append,List.nodup_cons] at h2
 obtain ⟨_,⟨h3,_⟩,h4⟩ := h2
 rw [List.filter_append,List.filter_cons_of_neg (by simp)]
 congr 1
 ·exact List.filter_eq_self.2 fun x hx => by
   simp only [decide_eq_true_eq]
   exact fun e1 => h4 _ (List.mem_map.2 ⟨x,hx,rfl⟩) _ (by simp) e1
 ·exact List.filter_eq_self.2 fun x hx => by
   simp only [decide_eq_true_eq]
   exact fun e1 => h3 (e1 ▸ List.mem_map.2 ⟨x,hx,rfl⟩)
theorem IterIs.next (h : IterIs ek ev ok w r b m left) (ty : TypeId) :
  (left = [] ∧ (Instr.next (.pointer (some ⟨r,0,none⟩)) false ty).run P w = .ok (.tuple #[.bool false]) w) ∨
  ∃ p l1 l2 w',left = l1 ++ p :: l2 ∧ (Instr.next (.pointer (some ⟨r,0,none⟩)) false ty).run P w = .ok (.tuple #[.bool true,ek p.1,ev p.2]) w' ∧ IterIs ek ev ok w' r b m (l1 ++ l2) ∧ Keep [r] w w' ∧ w'.heap.size = w.heap.size ∧
   (Instr.entry (.pointer (some ⟨r,0,none⟩))).run P w' = .ok (.tuple #[ek p.1,ev p.2]) w' := by
 have hne := h.ne
 obtain ⟨es,clock,since,seen,c0,hb,hs,hm,ho,hr,hold,hsc,hsk,hl⟩ := h
 rcases run_next_at (P := P) w ty r b since c0 seen es clock hr hb hold hsc with ⟨h0,hrun⟩ | ⟨e,he,w1,hw1,hrun⟩
 ·refine .inl ⟨?_,hrun⟩
  have : (leftOf es seen).toList = [] := by simpa using h0
  rw [this] at hl
  simpa using hl.symm
 ·obtain ⟨l1,l2,hll⟩ := List.append_of_mem he
  have hbw1 : w1.heap[b]? = some (.map es clock) := by rcases hw1 with rfl | rfl <;> exact hb
  have hrw1 : w1.heap[r]? = some (.mapIter (some b) since seen c0) := by rcases hw1 with rfl | rfl <;> exact hr
  have hkeep1 : Keep [r] w w1 := by rcases hw1 with rfl | rfl <;> first | exact Keep.refl _ _ | exact (Keep.refl _ _).drew
  have hsz : w1.heap.size = w.heap.size := by rcases hw1 with rfl | rfl <;> rfl
  have hmap : (l1.map kv ++ kv e :: l2.map kv) = left.map (fun p => (ek p.1,ev p.2)) := by rw [← hl,hll]; simp
  obtain ⟨m1,m2,hleft,hm1,hm2⟩ := List.map_eq_append_iff.1 hmap.symm
  obtain ⟨p,m3,hm2',hp,hm3⟩ := List.map_eq_cons_iff.1 hm2
  subst hm2'
  simp only [kv,Prod.mk.injEq] at hp
  obtain ⟨s1,s2,s3⟩ := hs
  have hb2 : (ChangeMaps.setBlock w1 r (.mapIter (some b) since (seen.push e.born) clock)).heap[b]? = some (.map es clock) := by
   rw [(Keep.setBlock (w := w1) (b := r) _).block b (Array.getElem?_eq_some_iff.1 hbw1).1 (by simpa using hne.symm)]
   exact hbw1
  have hr2 : (ChangeMaps.setBlock w1 r (.mapIter (some b) since (seen.push e.born) clock)).heap[r]? = some (.mapIter (some b) since (seen.push e.born) clock) := by
   have hlt := (Array.getElem?_eq_some_iff.1 hrw1).1
   simp [ChangeMaps.setBlock,hlt]
  have hees : e ∈ es.toList := by
   unfold leftOf at he
   simp only [Array.toList_filter,List.mem_filter] at he
   exact he.1
  refine .inr ⟨p,m1,m3,_,hleft,by rw [hrun,hp.1,hp.2],⟨es,clock,since,seen.push e.born,clock,hb2,⟨s1,s2,s3⟩,hm,ho,hr2,hold,hsk,hsk, ?_⟩,hkeep1.trans (Keep.setBlock _),by simp [ChangeMaps.setBlock,hsz], ?_⟩
  ·have := filter_push_seen (seen := seen) (e := e) s2 (by simpa [leftOf] using hll)
   simp only [leftOf,Array.toList_filter]
   rw [this,List.map_append,List.map_append,hm1,hm3]
  ·rw [run_entry_at _ r b since seen es clock e hr2 hb2 hees s2,hp.1,hp.2]
theorem IterIs.left_eq (h : IterIs ek ev ok w r b m left) : w.rangeLeft b r = left.length := by
 obtain ⟨es,clock,since,seen,c0,hb,_,_,_,hr,_,_,_,hl⟩ := h
 have := congrArg List.length hl
 simp only [World.rangeLeft,hb,hr]
 simpa using this
theorem MapIs.made (w : World) : MapIs ek ev ok (w.alloc (.map #[] 0)) w.heap.size ([] : List (κ × τ)) :=
 ⟨#[],0,(MapKept.heap_alloc w _).1,stamped_empty 0,by simp,by simp⟩
variable [DecidableEq κ]
theorem find_law (K : KE P kt ek ok) {es : Array MapEntry} {clock : Nat} (hs : Stamped es clock) (hm : es.toList.map kv = m.map (fun p => (ek p.1,ev p.2))) (ho : ∀ p ∈ m,ok p.1) {x : κ} (hx : ok x) (w : World) :
  ((Instr.findKey kt (ek x) es.toList).run P w = .ok none w ∧ lookM m x = none ∧ ∀ e ∈ es.toList,e.key ≠ ek x) ∨
  ∃ j v e,(Instr.findKey kt (ek x) es.toList).run P w = .ok (some (j,ev v)) w ∧ lookM m x = some v ∧ es.toList[j]? = some e ∧ e.key = ek x ∧ e.val = ev v ∧ m[j]? = some (x,v) := by
 obtain ⟨lx,hlx⟩ := K.reads x hx
 have hreads : ∀ e ∈ es.toList, ∃ l,keyOf P kt e.key = some l := by
  intro e he
  have h1 : kv e ∈ m.map (fun p => (ek p.1,ev p.2)) := hm ▸ List.mem_map.2 ⟨e,he,rfl⟩
  obtain ⟨p,hp,hpe⟩ := List.mem_map.1 h1
  simp only [kv,Prod.mk.injEq] at hpe
  rw [← hpe.1]
  exact K.reads _ (ho p hp)
 rcases K.keyed.find w hlx es.toList hreads with ⟨h1,h2⟩ | ⟨j,e,h1,h2,h3⟩
 ·refine .inl ⟨h1,lookM_none.2 fun p hp hpx => ?_,h2⟩
  have h4 : (ek p.1,ev p.2) ∈ es.toList.map kv := hm ▸ List.mem_map.2 ⟨p,hp,rfl⟩
  obtain ⟨e,he,hee⟩ := List.mem_map.1 h4
  simp only [kv,Prod.mk.injEq] at hee
  exact h2 e he (by rw [hee.1,hpx])
 ·have h4 : (es.toList.map kv)[j]? = some (kv e) := by simp [h2]
  rw [hm,List.getElem?_map] at h4
  cases hmj : m[j]? with
  | none => simp [hmj] at h4
  | some p =>
   simp only [hmj,Option.map_some,Option.some.injEq,kv,Prod.mk.injEq] at h4
   have hpx : p.1 = x := K.inj _ _ (h4.1.trans h3)
   have hpm : (x,p.2) ∈ m := by rw [← hpx]; exact List.mem_of_getElem? hmj
   refine .inr ⟨j,p.2,e,by rw [h1,h4.2],(lookM_some (keys_nodup hs hm)).2 hpm,h2,h3,h4.2.symm,by rw [← hpx]; exact hmj⟩
theorem MapIs.lookup2 (K : KE P kt ek ok) (ht : P.underlying t = some (.map kt et)) (h : MapIs ek ev ok w b m) {z0 : τ} (hz : (zeroValue et).run P w = .ok (ev z0) w) {x : κ} (hx : ok x) :
  (Instr.lookup t (.map (some b)) (ek x) true).run P w = .ok (.tuple #[ev ((lookM m x).getD z0), .bool (lookM m x).isSome]) w := by
 obtain ⟨es,clock,hb,hs,hm,ho⟩ := h
 obtain ⟨lx,hlx⟩ := K.reads x hx
 rcases find_law K hs hm ho hx w with ⟨h1,h2,_⟩ | ⟨j,v,e,h1,h2,_⟩
 ·simp [Instr.lookup,run_underlying ht,MapKept.run_getObj_map hb,K.keyed.check w _ hlx,h1,Result.andThen,hz,h2]
 ·simp [Instr.lookup,run_underlying ht,MapKept.run_getObj_map hb,K.keyed.check w _ hlx,h1,Result.andThen,h2]
theorem MapIs.lookup1 (K : KE P kt ek ok) (ht : P.underlying t = some (.map kt et)) (h : MapIs ek ev ok w b m) {z0 : τ} (hz : (zeroValue et).run P w = .ok (ev z0) w) {x : κ} (hx : ok x) :
  (Instr.lookup t (.map (some b)) (ek x) false).run P w = .ok (ev ((lookM m x).getD z0)) w := by
 obtain ⟨es,clock,hb,hs,hm,ho⟩ := h
 obtain ⟨lx,hlx⟩ := K.reads x hx
 rcases find_law K hs hm ho hx w with ⟨h1,h2,_⟩ | ⟨j,v,e,h1,h2,_⟩
 ·simp [Instr.lookup,run_underlying ht,MapKept.run_getObj_map hb,K.keyed.check w _ hlx,h1,Result.andThen,hz,h2]
 ·simp [Instr.lookup,run_underlying ht,MapKept.run_getObj_map hb,K.keyed.check w _ hlx,h1,Result.andThen,h2]
theorem map_set_key {l : List (κ × τ)} (hn : (l.map (·.1)).Nodup) {j : Nat} {x : κ} {v v' : τ} (hj : l[j]? = some (x,v)) : l.map (fun p => if p.1 = x then (x,v') else p) = l.set j (x,v') := by
 induction l generalizing j with
 | nil => simp at hj
 | cons p r ih =>
  simp only [List.map_cons,List.nodup_cons] at hn
  cases j with
  | zero =>
   simp only [List.getElem?_cons_zero,Option.some.injEq] at hj
   subst hj
   simp only [List.map_cons,if_true,List.set_cons_zero,List.cons.injEq,true_and]
   refine (List.map_congr_left fun q hq => ?_).trans (List.map_id r)
   rw [if_neg (fun e => hn.1 (List.mem_map.2 ⟨q,hq,e⟩))]
   rfl
  | succ j =>
   simp only [List.getElem?_cons_succ] at hj
   have : p.1 ≠ x := fun e => hn.1 (List.mem_map.2 ⟨(x,v),List.mem_of_getElem? hj,e.symm⟩)
   simp only [List.map_cons,if_neg this,List.set_cons_succ,ih hn.2 hj]
theorem MapIs.update (K : KE P kt ek ok) (ht : P.underlying t = some (.map kt et)) (h : MapIs ek ev ok w b m) {x : κ} (hx : ok x) (v : τ) :
  ∃ w',(Instr.mapUpdate t (.map (some b)) (ek x) (ev v)).run P w = .ok () w' ∧ MapIs ek ev ok w' b (putM m x v) ∧ Keep [b] w w' ∧ w'.heap.size = w.heap.size := by
 have hlt := h.lt
 have hnd := h.nodup
 obtain ⟨es,clock,hb,hs,hm,ho⟩ := h
 obtain ⟨lx,hlx⟩ := K.reads x hx
 rcases find_law K hs hm ho hx w with ⟨h1,h2,h3⟩ | ⟨j,u,e,h1,h2,h3,h4,h5,h6⟩
 ·refine ⟨ChangeMaps.setBlock w b (.map (es.push ⟨ek x,ev v,clock⟩) (clock + 1)), ?_,⟨_,_,heap_setBlock_same hb _,stamped_push hs h3, ?_, ?_⟩,Keep.setBlock _,by simp [ChangeMaps.setBlock]⟩
  ·simp [Instr.mapUpdate,run_underlying ht,MapKept.run_getObj_map hb,K.keyed.check w false hlx,h1,MapKept.run_setObj_map _ hb,Result.andThen,ChangeMaps.setBlock]
  ·simp [putM,h2,hm,kv]
  ·intro p hp
   simp only [putM,h2,Option.isSome_none,Bool.false_eq_true,if_false,List.mem_append,List.mem_singleton] at hp
   rcases hp with hp | rfl
   ·exact ho p hp
   ·exact hx
 ·have hj : es[j]? = some e := by simpa using h3
  have hstay : (Instr.keyThatStays (ek x) (ek x)).run P w = .ok (ek x) w := K.keyed.stays w hlx
  have hput : putM m x v = m.set j (x,v) := by
   unfold putM
   rw [h2]
   simp only [Option.isSome_some,if_true]
   exact map_set_key hnd h6
  have hjl : j < es.size := by
   rcases Nat.lt_or_ge j es.size with hlt | hge
   ·exact hlt
   ·simp [Array.getElem?_eq_none hge] at hj
  have hej : es[j] = e := by simpa [Array.getElem?_eq_getElem hjl] using hj
  have hmod : (es.modify j fun e => { e with key := ek x,val := ev v }).toList = es.toList.set j { e with key := ek x,val := ev v } := by
   apply List.ext_getElem?
   intro i
   rw [Array.getElem?_toList,Array.getElem?_modify,List.getElem?_set]
   by_cases hij : j = i
   ·subst hij
    simp [hjl,hej]
   ·simp [hij]
  refine ⟨ChangeMaps.setBlock w b (.map (es.modify j fun e => { e with key := ek x,val := ev v }) clock), ?_,⟨_,_,heap_setBlock_same hb _, ?_, ?_, ?_⟩,Keep.setBlock _,by simp [ChangeMaps.setBlock]⟩
  ·simp [Instr.mapUpdate,run_underlying ht,MapKept.run_getObj_map hb,K.keyed.check w false hlx,h1,hj,h4,hstay,MapKept.run_setObj_map _ hb,Result.andThen,ChangeMaps.setBlock]
  ·have hkk : ({ e with key := ek x,val := ev v } : MapEntry).key = e.key := h4.symm
   obtain ⟨s1,s2,s3⟩ := hs
   have e1 : (es.modify j fun e => { e with key := ek x,val := ev v }).toList.map (·.born) = es.toList.map (·.born) := by
    rw [hmod,List.map_set]
    apply List.ext_getElem?
    intro i
    rw [List.getElem?_set]
    by_cases hij : j = i
    ·subst hij; simp [h3]; omega
    ·simp [hij]
   have e2 : (es.modify j fun e => { e with key := ek x,val := ev v }).toList.map (·.key) = es.toList.map (·.key) := by
    rw [hmod,List.map_set]
    apply List.ext_getElem?
    intro i
    rw [List.getElem?_set]
    by_cases hij : j = i
    ·subst hij; simp [h3,h4]; omega
    ·simp [hij]
   refine ⟨?_,e1 ▸ s2,e2 ▸ s3⟩
   intro y hy
   have : y.born ∈ (es.modify j fun e => { e with key := ek x,val := ev v }).toList.map (·.born) := List.mem_map.2 ⟨y,hy,rfl⟩
   rw [e1] at this
   obtain ⟨z,hz,hzb⟩ := List.mem_map.1 this
   rw [← hzb]
   exact s1 z hz
  ·rw [hmod,hput,List.map_set,hm,List.map_set]
   rfl
  ·intro p hp
   rw [hput] at hp
   rcases List.mem_or_eq_of_mem_set hp with hp | rfl
   ·exact ho p hp
   ·exact hx
theorem eraseIdx_eq_filter {l : List (κ × τ)} (hn : (l.map (·.1)).Nodup) {j : Nat} {x : κ} {v : τ} (hj : l[j]? = some (x,v)) : delM l x = l.eraseIdx j := by
 unfold delM
 induction l generalizing j with
 | nil => simp at hj
 | cons p r ih =>
  simp only [List.map_cons,List.nodup_cons] at hn
  cases j with
  | zero =>
   simp only [List.getElem?_cons_zero,Option.some.injEq] at hj
   subst hj
   simp only [ne_eq,List.eraseIdx_cons_zero]
   rw [List.filter_cons_of_neg (by simp)]
   exact List.filter_eq_self.2 fun q hq => by
    simp only [decide_eq_true_eq]
    exact fun e => hn.1 (List.mem_map.2 ⟨q,hq,e⟩)
  | succ j =>
   simp only [List.getElem?_cons_succ] at hj
   have : p.1 ≠ x := fun e => hn.1 (List.mem_map.2 ⟨(x,v),List.mem_of_getElem? hj,e.symm⟩)
   rw [List.filter_cons_of_pos (by simpa using this),List.eraseIdx_cons_succ,ih hn.2 hj]
theorem delM_none {m : List (κ × τ)} {x : κ} (h : lookM m x = none) : delM m x = m :=
 List.filter_eq_self.2 fun p hp => by simpa using lookM_none.1 h p hp
theorem MapIs.delete (K : KE P kt ek ok) (ht : P.underlying t = some (.map kt et)) (h : MapIs ek ev ok w b m) {x : κ} (hx : ok x) (ty : TypeId) :
  ∃ w',(Builtin.delete_ #[t,kt] ty #[.map (some b),ek x]).run P w = .ok (.tuple #[]) w' ∧ MapIs ek ev ok w' b (delM m x) ∧ Keep [b] w w' ∧ w'.heap.size = w.heap.size := by
 have hnd := h.nodup
 obtain ⟨es,clock,hb,hs,hm,ho⟩ := h
 obtain ⟨lx,hlx⟩ := K.reads x hx
 rcases find_law K hs hm ho hx w with ⟨h1,h2,h3⟩ | ⟨j,u,e,h1,h2,h3,h4,h5,h6⟩
 ·refine ⟨ChangeMaps.setBlock w b (.map es clock), ?_,⟨_,_,heap_setBlock_same hb _,hs,by rw [delM_none h2]; exact hm,by rw [delM_none h2]; exact ho⟩,Keep.setBlock _,by simp [ChangeMaps.setBlock]⟩
  simp [Builtin.delete_,run_underlying ht,MapKept.run_getObj_map hb,K.keyed.check w _ hlx,h1,MapKept.run_setObj_map _ hb,Result.andThen,ChangeMaps.setBlock]
 ·have hjl : j < es.size := by have := (List.getElem?_eq_some_iff.1 h3).1; simpa using this
  have hsub : (es.eraseIdxIfInBounds j).toList = es.toList.eraseIdx j := by
   unfold Array.eraseIdxIfInBounds
   rw [dif_pos hjl]
   simp
  have hd := eraseIdx_eq_filter hnd h6
  refine ⟨ChangeMaps.setBlock w b (.map (es.eraseIdxIfInBounds j) clock), ?_,⟨_,_,heap_setBlock_same hb _,stamped_erase hs j, ?_, ?_⟩,Keep.setBlock _,by simp [ChangeMaps.setBlock]⟩
  ·simp [Builtin.delete_,run_underlying ht,MapKept.run_getObj_map hb,K.keyed.check w _ hlx,h1,MapKept.run_setObj_map _ hb,Result.andThen,ChangeMaps.setBlock]
  ·rw [hsub,hd,map_eraseIdx,hm,map_eraseIdx]
  ·intro p hp
   rw [hd] at hp
   exact ho p (List.mem_of_mem_eraseIdx hp)
theorem IterIs.delete (K : KE P kt ek ok) (ht : P.underlying t = some (.map kt et)) (h : IterIs ek ev ok w r b m left) {x : κ} (hx : ok x) (hout : ∀ p ∈ left,p.1 ≠ x) (ty : TypeId) :
  ∃ w',(Builtin.delete_ #[t,kt] ty #[.map (some b),ek x]).run P w = .ok (.tuple #[]) w' ∧ IterIs ek ev ok w' r b (delM m x) left ∧ Keep [b] w w' ∧ w'.heap.size = w.heap.size := by
 have hne := h.ne
 have hlt := h.lt
 have hnd := h.map.nodup
 obtain ⟨es,clock,since,seen,c0,hb,hs,hm,ho,hr,hold,hsc,hsk,hl⟩ := h
 obtain ⟨lx,hlx⟩ := K.reads x hx
 have hr' : ∀ o,(ChangeMaps.setBlock w b o).heap[r]? = some (.mapIter (some b) since seen c0) := fun o => by
  rw [(Keep.setBlock (w := w) (b := b) o).block r hlt (by simpa using hne)]
  exact hr
 rcases find_law K hs hm ho hx w with ⟨h1,h2,h3⟩ | ⟨j,u,e,h1,h2,h3,h4,h5,h6⟩
 ·refine ⟨ChangeMaps.setBlock w b (.map es clock), ?_,⟨es,clock,since,seen,c0,heap_setBlock_same hb _,hs,by rw [delM_none h2]; exact hm,by rw [delM_none h2]; exact ho,hr' _,hold,hsc,hsk,hl⟩,Keep.setBlock _,by simp [ChangeMaps.setBlock]⟩
  simp [Builtin.delete_,run_underlying ht,MapKept.run_getObj_map hb,K.keyed.check w _ hlx,h1,MapKept.run_setObj_map _ hb,Result.andThen,ChangeMaps.setBlock]
 ·have hjl : j < es.size := by have := (List.getElem?_eq_some_iff.1 h3).1; simpa using this
  have hsub : (es.eraseIdxIfInBounds j).toList = es.toList.eraseIdx j := by
   unfold Array.eraseIdxIfInBounds
   rw [dif_pos hjl]
   simp
  have hd := eraseIdx_eq_filter hnd h6
  have hleft : (leftOf (es.eraseIdxIfInBounds j) seen).toList = (leftOf es seen).toList := by
   simp only [leftOf,Array.toList_filter,hsub]
   have hes : es.toList = es.toList.take j ++ e :: es.toList.drop (j + 1) := by
    have hj' : j < es.toList.length := by simpa using hjl
    have : es.toList[j] = e := by
     have := List.getElem?_eq_getElem hj'
     rw [h3] at this
     exact (Option.some.inj this).symm
    conv => lhs; rw [← List.take_append_drop j es.toList,List.drop_eq_getElem_cons hj',this]
   have hseen : (!seen.contains e.born) = false := by
    cases hc : seen.contains e.born
    ·exfalso
     have hin : kv e ∈ left.map (fun p => (ek p.1,ev p.2)) := by
      rw [← hl]
      refine List.mem_map.2 ⟨e, ?_,rfl⟩
      simp only [leftOf,Array.toList_filter,List.mem_filter]
      exact ⟨List.mem_of_getElem? h3,by simp only [hc]; rfl⟩
     obtain ⟨p,hp,hpe⟩ := List.mem_map.1 hin
     simp only [kv,Prod.mk.injEq] at hpe
     exact hout p hp (K.inj _ _ (hpe.1.trans h4))
    ·rfl
   rw [List.eraseIdx_eq_take_drop_succ]
   conv => rhs; rw [hes]
   rw [List.filter_append,List.filter_append,List.filter_cons_of_neg (by simp only [hseen]; simp)]
  refine ⟨ChangeMaps.setBlock w b (.map (es.eraseIdxIfInBounds j) clock), ?_,⟨_,clock,since,seen,c0,heap_setBlock_same hb _,stamped_erase hs j, ?_, ?_,hr' _, ?_,hsc,hsk,by rw [hleft]; exact hl⟩,Keep.setBlock _,by simp [ChangeMaps.setBlock]⟩
  ·simp [Builtin.delete_,run_underlying ht,MapKept.run_getObj_map hb,K.keyed.check w _ hlx,h1,MapKept.run_setObj_map _ hb,Result.andThen,ChangeMaps.setBlock]
  ·rw [hsub,hd,map_eraseIdx,hm,map_eraseIdx]
  ·intro p hp
   rw [hd] at hp
   exact ho p (List.mem_of_mem_eraseIdx hp)
  ·intro y hy
   rw [hsub] at hy
   exact hold y (List.mem_of_mem_eraseIdx hy)
end
end Go.Proofs.YtmokciekndllpaaGreatDoor
namespace Go.Proofs.YtmokciekndllpaaGreatDoor
open Go Go.RowKit
theorem ret_bool {a b : Bool} (h : a = b) : Ending.returned (.bool a) = .returned (.bool b) := by rw [h]
theorem ret_int {k : IntKind} {a b : Int} (h : a = b) : Ending.returned (.int k a) = .returned (.int k b) := by rw [h]
theorem ext_alloc {a b : World} (o : Obj) (h : Ext a b) : Ext a (b.alloc o) := h.alloc o
theorem ext_drew {a b : World} (h : Ext a b) : Ext a b.drew := h.drew
theorem ext_set {a b : World} (p : Addr) (u : Value) (h : Ext a b) (hp : a.heap.size ≤ p.block) : Ext a (b.setCell p u) := Below.setCell h hp u
attribute [go_sem] ext_alloc ext_drew ext_set Ext.refl
def idB (n : Int) : Bool := decide (0 ≤ n) && decide (n < 1024)
def pairsB (n : Int) : Bool := n == 2 || n == 3 || n == 6 || n == 7
def weighsB (n : Int) : Bool := n == 0 || n == 2 || n == 5 || n == 7
def heavyB (n : Int) : Bool := decide (n < -1048576) || decide (1048576 < n)
theorem id_any (n : Int) (w : World) : Calls Tryz.prog 128 #[.int .i64 n] w fun e w' => e = .returned (.bool (idB n)) ∧ w' = w := by
 go_enter Tryz.func128,Tryz.ntmps128
 go_wp2
 all_goals (go_ret; exact ⟨ret_bool (by unfold idB; simp [*]; try omega),rfl⟩)
theorem pairs_any (n : Int) (w : World) : Calls Tryz.prog 129 #[.int .i64 n] w fun e w' => e = .returned (.bool (pairsB n)) ∧ w' = w := by
 go_enter Tryz.func129,Tryz.ntmps129
 go_wp2
 all_goals (go_ret; exact ⟨ret_bool (by unfold pairsB; simp [*]),rfl⟩)
theorem weighs_any (n : Int) (w : World) : Calls Tryz.prog 130 #[.int .i64 n] w fun e w' => e = .returned (.bool (weighsB n)) ∧ w' = w := by
 go_enter Tryz.func130,Tryz.ntmps130
 go_wp2
 all_goals (go_ret; exact ⟨ret_bool (by unfold weighsB; simp [*]),rfl⟩)
theorem heavy_any (n : Int) (w : World) : Calls Tryz.prog 131 #[.int .i64 n] w fun e w' => e = .returned (.bool (heavyB n)) ∧ w' = w := by
 go_enter Tryz.func131,Tryz.ntmps131
 go_wp2
 all_goals (go_ret; exact ⟨ret_bool (by unfold heavyB; simp [*]; try omega),rfl⟩)
theorem between_any (a b : Int) (w : World) :
  Calls Tryz.prog 125 #[.int .i64 a, .int .i64 b] w fun e w' => e = .returned (.agg #[.int .i64 (min a b), .int .i64 (max a b)]) ∧ Ext w w' := by
 go_enter Tryz.func125,Tryz.ntmps125
 go_wp2
 ·have e1 : min a b = b := by omega
  have e2 : max a b = a := by omega
  rw [e1,e2]
  exact bodyPost_ret (by simp [results,Tryz.results125,go_sem]) rfl ⟨rfl,(Ext.refl w).alloc _⟩
 ·have e1 : min a b = a := by omega
  have e2 : max a b = b := by omega
  rw [e1,e2]
  exact bodyPost_ret (by simp [results,Tryz.results125,go_sem]) rfl ⟨rfl,(Ext.refl w).alloc _⟩
 ·have e0 : a = b := by omega
  subst e0
  rw [Int.min_self,Int.max_self]
  exact bodyPost_ret (by simp [results,Tryz.results125,go_sem]) rfl ⟨rfl,(Ext.refl w).alloc _⟩
def EditAt (w : World) (g : Nat) (op u v lab wt : Int) : Prop :=
 (∀ W,Ext w W → W.cell? ⟨g,0,none⟩ = some (.int .i64 op)) ∧ (∀ W,Ext w W → W.cell? ⟨g,1,none⟩ = some (.int .i64 u)) ∧ (∀ W,Ext w W → W.cell? ⟨g,2,none⟩ = some (.int .i64 v)) ∧
 (∀ W,Ext w W → W.cell? ⟨g,3,none⟩ = some (.int .u8 lab)) ∧ (∀ W,Ext w W → W.cell? ⟨g,4,none⟩ = some (.int .i64 wt))
theorem EditAt.ext {w w' : World} {g : Nat} {op u v lab wt : Int} (h : EditAt w g op u v lab wt) (hx : Ext w w') : EditAt w' g op u v lab wt :=
 ⟨fun W k => h.1 W (hx.trans k),fun W k => h.2.1 W (hx.trans k),fun W k => h.2.2.1 W (hx.trans k),fun W k => h.2.2.2.1 W (hx.trans k),fun W k => h.2.2.2.2 W (hx.trans k)⟩
def w1B (op : Int) : Bool := decide (op < 0) || decide (8 ≤ op)
def w2B (op u v wt : Int) : Bool := !idB u || pairsB op && !idB v || weighsB op && heavyB wt
def w3B (op u v : Int) : Bool := pairsB op && u == v
def w4B (op : Int) (iu : Bool) : Bool := op == 0 && iu
def w5B (op : Int) (iu iv : Bool) : Bool := op != 0 && !pairsB op && !iu || op == 2 && !(iu && iv)
def w6B (op : Int) (ie : Bool) : Bool := pairsB op && op != 2 && !ie
def w7B (op : Int) (ie : Bool) : Bool := op == 2 && ie
def w8B (op : Int) (ne : Nat) : Bool := op == 2 && decide (1024 ≤ ne)
section
variable (op u v lab wt : Int) (g : Nat) (w : World) (he : EditAt w g op u v lab wt)
include he
theorem wrong1_any : Calls Tryz.prog 126 #[.pointer (some ⟨g,0,none⟩)] w fun e w' => e = .returned (.bool (w1B op)) ∧ w' = w := by
 obtain ⟨c0,c1,c2,c3,c4⟩ := he
 go_enter Tryz.func126,Tryz.ntmps126
 go_wp2
 all_goals (go_ret; exact ⟨ret_bool (by unfold w1B; simp [*]; try omega),rfl⟩)
theorem wrong2_any  : Calls Tryz.prog 127 #[.pointer (some ⟨g,0,none⟩)] w fun e w' => e = .returned (.bool (w2B op u v wt)) ∧ w' = w := by
 obtain ⟨c0,c1,c2,c3,c4⟩ := he
 go_enter Tryz.func127,Tryz.ntmps127
 go_wp2_with (first | (go_at_call 128; refine (id_any _ _).mono ?_; rintro e w' ⟨rfl,rfl⟩) | (go_at_call 129; refine (pairs_any _ _).mono ?_; rintro e w' ⟨rfl,rfl⟩) | (go_at_call 130; refine (weighs_any _ _).mono ?_; rintro e w' ⟨rfl,rfl⟩) | (go_at_call 131; refine (heavy_any _ _).mono ?_; rintro e w' ⟨rfl,rfl⟩))
 all_goals (go_ret; exact ⟨ret_bool (by unfold w2B; simp_all),rfl⟩)
theorem wrong3_any  : Calls Tryz.prog 132 #[.pointer (some ⟨g,0,none⟩)] w fun e w' => e = .returned (.bool (w3B op u v)) ∧ w' = w := by
 obtain ⟨c0,c1,c2,c3,c4⟩ := he
 go_enter Tryz.func132,Tryz.ntmps132
 go_wp2_with ((go_at_call 129; refine (pairs_any _ _).mono ?_; rintro e w' ⟨rfl,rfl⟩))
 all_goals (go_ret; exact ⟨ret_bool (by unfold w3B; simp_all),rfl⟩)
theorem wrong4_any (gu : Nat) (iu : Bool) (hu : ∀ W,Ext w W → W.cell? ⟨gu,0,none⟩ = some (.bool iu)) : Calls Tryz.prog 133 #[.pointer (some ⟨g,0,none⟩), .pointer (some ⟨gu,0,none⟩)] w fun e w' => e = .returned (.bool (w4B op iu)) ∧ w' = w := by
 obtain ⟨c0,c1,c2,c3,c4⟩ := he
 go_enter Tryz.func133,Tryz.ntmps133
 go_wp2_with (fail)
 all_goals (go_ret; exact ⟨ret_bool (by unfold w4B; simp_all),rfl⟩)
theorem wrong5_any (gu : Nat) (iu : Bool) (hu : ∀ W,Ext w W → W.cell? ⟨gu,0,none⟩ = some (.bool iu)) (gv : Nat) (iv : Bool) (hv : ∀ W,Ext w W → W.cell? ⟨gv,0,none⟩ = some (.bool iv)) : Calls Tryz.prog 134 #[.pointer (some ⟨g,0,none⟩), .pointer (some ⟨gu,0,none⟩), .pointer (some ⟨gv,0,none⟩)] w fun e w' => e = .returned (.bool (w5B op iu iv)) ∧ w' = w := by
 obtain ⟨c0,c1,c2,c3,c4⟩ := he
 go_enter Tryz.func134,Tryz.ntmps134
 go_wp2_with ((go_at_call 129; refine (pairs_any _ _).mono ?_; rintro e w' ⟨rfl,rfl⟩))
 all_goals (go_ret; exact ⟨ret_bool (by unfold w5B; simp_all),rfl⟩)
theorem wrong6_any (ge : Nat) (ie : Bool) (hie : ∀ W,Ext w W → W.cell? ⟨ge,0,none⟩ = some (.bool ie)) : Calls Tryz.prog 135 #[.pointer (some ⟨g,0,none⟩), .pointer (some ⟨ge,0,none⟩)] w fun e w' => e = .returned (.bool (w6B op ie)) ∧ w' = w := by
 obtain ⟨c0,c1,c2,c3,c4⟩ := he
 go_enter Tryz.func135,Tryz.ntmps135
 go_wp2_with ((go_at_call 129; refine (pairs_any _ _).mono ?_; rintro e w' ⟨rfl,rfl⟩))
 all_goals (go_ret; exact ⟨ret_bool (by unfold w6B; simp_all),rfl⟩)
theorem wrong7_any (ge : Nat) (ie : Bool) (hie : ∀ W,Ext w W → W.cell? ⟨ge,0,none⟩ = some (.bool ie)) : Calls Tryz.prog 136 #[.pointer (some ⟨g,0,none⟩), .pointer (some ⟨ge,0,none⟩)] w fun e w' => e = .returned (.bool (w7B op ie)) ∧ w' = w := by
 obtain ⟨c0,c1,c2,c3,c4⟩ := he
 go_enter Tryz.func136,Tryz.ntmps136
 go_wp2_with (fail)
 all_goals (go_ret; exact ⟨ret_bool (by unfold w7B; simp_all),rfl⟩)
theorem wrong8_any (gg bg be ne : Nat) (hg : ∀ W,Ext w W → W.cell? ⟨gg,0,none⟩ = some (.pointer (some ⟨bg,0,none⟩))) (hm : ∀ W,Ext w W → W.cell? ⟨bg,1,none⟩ = some (.map (some be))) (hn : ∀ ty,(Builtin.len_ #[155] ty #[.map (some be)]).run Tryz.prog w = .ok (.int .i64 ne) w) : Calls Tryz.prog 137 #[.pointer (some ⟨g,0,none⟩), .pointer (some ⟨gg,0,none⟩)] w fun e w' => e = .returned (.bool (w8B op ne)) ∧ w' = w := by
 obtain ⟨c0,c1,c2,c3,c4⟩ := he
 go_enter Tryz.func137,Tryz.ntmps137
 go_wp2_with (fail)
 all_goals (go_ret; exact ⟨ret_bool (by unfold w8B; simp_all; try omega),rfl⟩)
end
end Go.Proofs.YtmokciekndllpaaGreatDoor
