/- Parts of a proof, laid together. Each part says its own conditions. -/
import Derived.Test.YtbpeemhfjgcnaaaGreatC24
import Derived.Test.YtbpeemhfjgcnaaaGreatC17
import Derived.LaidMore
import Derived.Stop.Joined
import Derived.MakeChecks
import Derived.WalkKit
import Derived.ProofKit
import Derived.WideShapes
import Derived.OpenShut
namespace Go.Proofs.YtbpeemhfjgcnaaaGreat
open Go Go.RowKit Go.ChangeShapes Go.WideShapes Go.Deep
section
variable {H : Type} {enc : TypeId × Value → H} {w : World} {base : Nat} {spare : Nat → Bool} {held : Bool} {fuel : Nat} {x : DataW H × List MemPlace} {a : Option Addr} {len cap : Nat}
theorem open_ints (h : DataW.trod enc Tryz.prog w base spare held fuel 31 [.slice a len cap] = some x) : ∃ L : List Int,L.length = len ∧ SlAt encI 1 w a L ∧ (∀ d ∈ L,i64ok d) ∧ len ≤ 9223372036854775807 ∧ len ≤ cap := by
 rcases open_slice Tryz.underlying31 h with h0 | ⟨a',len',cap',m,n,D,Pl,hcs,hb,hl,hm,hmm,hx,hi⟩
 ·have h0 := h0.1
  simp at h0
  obtain ⟨rfl,rfl,rfl⟩ := h0
  exact ⟨[],rfl,SlAt.nil,by simp,by omega,by omega⟩
 ·simp at hcs
  obtain ⟨rfl,rfl,rfl⟩ := hcs
  obtain ⟨L,h1,h2,h3⟩ := slAt_of (α := Int) (enc := encI) (k := 1) (w := w) (a := a') (len := len) (p := i64ok) (fun x => ⟨_,rfl⟩) (fun i hil => by
   have hle : len ≤ m := by rw [hmm]; split <;> omega
   obtain ⟨cs',hc,ht'⟩ := hi i (by omega)
   obtain ⟨k,e,_,wk⟩ := DataW.trod_int Tryz.underlying3 ht'
   subst e
   obtain ⟨_,hcl,hat⟩ := World.cells?_some hc
   have hk : Tryz.prog.cellsOf 3 = 1 := by kernel_rfl
   refine ⟨k,fun j u hu => ?_,i64_of_wf wk⟩
   match j,hu with
   | 0,hu =>
    simp [encI] at hu
    subst hu
    have h0 := hat 0 (by rw [hk]; omega)
    rw [hk] at h0
    rw [Go.Deep.add_add] at h0
    simpa using h0)
  exact ⟨L,h1,h2,h3,by have := hm; unfold maxLen at this; omega,hl⟩
end
end Go.Proofs.YtbpeemhfjgcnaaaGreat
