/- Parts of a proof, laid together. Each part says its own conditions. -/
import Derived.Test.YtbpeemhfjgcnaaaGreatC17
import Derived.Test.YtbpeemhfjgcnaaaGreatC3
namespace Go.Proofs.YtbpeemhfjgcnaaaGreat
open Go Go.RowKit Go.Shelf
def tIn (T : List Nat) (B : Nat) (T' : List Nat) : Prop := ∀ x ∈ T',x ∈ T ∨ B ≤ x
theorem tIn.refl (T : List Nat) (B : Nat) : tIn T B T := fun _ h => .inl h
theorem tIn.trans {T T' T'' : List Nat} {B C : Nat} (h : tIn T B T') (k : tIn T' C T'') (hBC : B ≤ C) : tIn T B T'' := fun x hx => by
 rcases k x hx with h1 | h1
 ·exact h x h1
 ·exact .inr (by omega)
theorem least_ex {p : Nat → Prop} (h : ∃ n,p n) : ∃ n,p n ∧ ∀ m,p m → n ≤ m := by
 obtain ⟨n,hn⟩ := h
 induction n using Nat.strongRecOn with
 | _ n ih =>
  by_cases hl : ∃ m,m < n ∧ p m
  ·obtain ⟨m,hm,hp⟩ := hl
   exact ih m hm hp
  ·exact ⟨n,hn,fun m hm => Nat.le_of_not_lt fun h => hl ⟨m,h,hm⟩⟩
open Classical in
noncomputable def ixM (I : Nat → Act → World → Prop) (a : Act) (w : World) : Nat := if h : ∃ n,I n a w then Classical.choose (least_ex h) else 0
theorem ixM_le {I : Nat → Act → World → Prop} {a : Act} {w : World} {n : Nat} (h : I n a w) : ixM I a w ≤ n ∧ I (ixM I a w) a w := by
 have he : ∃ n,I n a w := ⟨n,h⟩
 unfold ixM
 rw [dif_pos he]
 have := Classical.choose_spec (least_ex he)
 exact ⟨this.2 n h,this.1⟩
theorem wp_loop_ix {P : Program} {c : Code} {Q : Exit → Act → World → Prop} {a : Act} {w : World} (I : Nat → Act → World → Prop) (n : Nat) (h0 : I n a w)
  (round : ∀ n a w,I n a w → c.wp P (Exit.then (fun a' w' => ∃ m,I m a' w' ∧ m < n) Q) a w) : (Code.loop c).wp P Q a w := by
 refine wp_loop (fun a w => ∃ n,I n a w) (ixM I) ⟨n,h0⟩ ?_
 rintro a w ⟨n,hn⟩
 refine wp_mono (round _ a w (ixM_le hn).2) ?_
 intro e a' w' hq
 cases e with
 | normal => obtain ⟨m,hI,hm⟩ := hq; exact ⟨⟨m,hI⟩,Nat.lt_of_le_of_lt (ixM_le hI).1 hm⟩
 | exit _ => exact hq
 | goto _ => exact hq
 | ret => exact hq
 | panic _ => exact hq
 | outgrown => exact hq
section
variable {P : Program} {α : Type}
end
section
variable {P : Program} {ops : Array Oper} {R : World → World → Prop} {C : World → Prop} {safe : Nat → Bool} {Q : Act → World → Prop}
theorem wpQL_mono {K K' : Act → Prop} (h : ∀ a,K a → K' a) : ∀ (l : List Nat) (a : Act),wpQL P ops R C K l a → wpQL P ops R C K' l a
 | [],a,hk => h a hk
 | i :: r,a,hk => fun o ho => by
  have := hk o ho
  split at this
  ·rename_i hw
   rw [if_pos hw]
   obtain ⟨v,h1,h2⟩ := this
   exact ⟨v,h1,wpQL_mono h r _ h2⟩
  ·rename_i hw
   rw [if_neg hw]
   exact wpQL_mono h r _ this
theorem wpX_qlx {anc : Nat → List Nat} (ha : ancOk ops anc) (hsz : ∀ j,ops.size ≤ j → safe j = true) (hs : Region.noSelect ops = true) (hR : ∀ w,R w w) (hRt : ∀ a b c,R a b → R b c → R a c) (hCR : ∀ w w',C w → R w w' → C w') (n : Nat) :
  ∀ (l : List Nat) (listed : Array Bool) (a : Act) (w : World),Closed ops listed → qlLook ops safe anc l listed = true → C w →
   wpQL P ops R C (fun a' => ∀ w',R w w' → wpX P ops R C safe Q n (qlListed ops l listed) a' w') l a → wpX P ops R C safe Q (n + l.length) listed a w
 | [],listed,a,w,_,_,hC,h => h w (hR w)
 | k :: ks,listed,a,w,hcl,hl,hC,h => by
  simp only [qlLook,Bool.and_eq_true] at hl
  obtain ⟨⟨⟨hr,hf⟩,hsf⟩,hl'⟩ := hl
  have hr' : k ∈ Region.ready .any ops listed := by simpa using hr
  obtain ⟨_,o,ho,_⟩ := mem_ready.1 hr'
  obtain ⟨v,hy,hK⟩ := yields_of_wpQL ho h
  have hsafe : ∀ j,safe j = true ∨ k ∈ anc j := fun j => by
   rcases Nat.lt_or_ge j ops.size with hj | hj
   ·have := List.all_eq_true.1 hsf j (List.mem_range.2 hj)
    simpa using this
   ·exact .inl (hsz j hj)
  rw [List.length_cons, ← Nat.add_assoc]
  exact X_first ha hR hRt hCR ho (Region.noSelect_spec hs) hsafe (n + ks.length) listed a w hcl (Region.free_spec ho hf) hr' hC hy
   (fun w' hw' => wpX_qlx ha hsz hs hR hRt hCR n ks _ _ w' (hcl.set hr') hl' (hCR _ _ hC hw') (wpQL_mono (fun a' hk w'' hw'' => hk w'' (hRt _ _ _ hw' hw'')) ks _ hK))
theorem Blk.cellsK {W : World} {S : List Nat} {b : Nat} {t : TypeId} {cs : Array Value} (h : Blk W b t cs) (hn : b ∉ S) (i : Nat) {v : Value} (hv : cs[i]? = some v) : ∀ W',Keep S W W' → W'.cell? ⟨b,i,none⟩ = some v := fun _ hk => ((h.keep hk hn).cell i).trans hv
end
end Go.Proofs.YtbpeemhfjgcnaaaGreat
