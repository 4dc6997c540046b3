/-
  No cell of these rows narrows 'for every input' (looked for: loops, veiled, ifaces, maps, wideKeys, modest, calm, conditions, laid).
  DERIVED. THE GIVEN ROWS OF THIS SEAT. 8 by the template 'for every input the law returns true; each argument reads behind the call as it read before'; 0 by the template 'total and deterministic' (their statements: YtbpeemhfjgcnaaaGreatTotals.lean).
  GIVEN WITH THE SEED: the statements are not yours to turn. If you find one false, say at which input.
  Laid BY PROGRAM, IN A SANDBOX (cutbox-rows.mjs): the forced cells as the released guide's own fill.sh prints them over the translation 6884aef6bc6155c6… (all of the seat's roots in one cut). By AI agents, Wed Nov 11 2026. No macro, syntax, notation, axiom, sorry.
-/
import Derived.Test.YtbpeemhfjgcnaaaGreatChecked
import GoSem.Claim
import GoSem.ClaimJoined
import GoSem.ClaimMapViews
import Derived.JoinedTies
import Derived.KernelRfl
namespace Go.Proofs.YtbpeemhfjgcnaaaGreat
/- THE CELL 'sum', in the pinned program and in every row, IS THE sha256 OF THE DUMP (.gsa) THAT YtbpeemhfjgcnaaaGreatProg.lean LOADS. Nothing in Lean hashes anything: it is a label: what it is worth is what the hold of that sum in a sandbox is worth. -/
noncomputable def Tryz.pinned : Pinned := { name := "ytbpeemhfjgcnaaagreat", sum := "6884aef6bc6155c6cc66567ca8b8540e2225c52eb2d766140373c9e8999bede4", checked := Tryz.checked }
namespace Rows
def none {H : Type} : Left H := { results := [], args := [] }

/-- 'palmettelaw08.IsomorphismCanonicalForm': WHATEVER THE INPUT: true; the input reads as it did. -/
def isomorphismCanonicalFormSpec : ChangeSpec := { name := "isomorphismCanonicalForm", fn := fun _ => fun
  | [d] => { results := [.lit (.bool true)], args := [d] }
  | _ => none }
def isomorphismCanonicalFormRow : OpenClaim := { program := "ytbpeemhfjgcnaaagreat", sum := "6884aef6bc6155c6cc66567ca8b8540e2225c52eb2d766140373c9e8999bede4", func := "palmette/palmettelaw08.IsomorphismCanonicalForm", spec := "isomorphismCanonicalForm", unfollowed := true, recurses := true, plainKeys := false, apart := false }
def IsomorphismCanonicalFormSaid : Prop := isomorphismCanonicalFormRow.holds Tryz.pinned (OpenSpec.ofChange isomorphismCanonicalFormSpec)

/-- ITS FALSE NEIGHBOUR: 'it returns false'. Refute it at one input. -/
def isomorphismCanonicalFormWrong : ChangeSpec := { name := "isomorphismCanonicalForm", fn := fun _ => fun
  | [d] => { results := [.lit (.bool false)], args := [d] }
  | _ => none }
def IsomorphismCanonicalFormWrongFalsely : Prop := isomorphismCanonicalFormRow.holds Tryz.pinned (OpenSpec.ofChange isomorphismCanonicalFormWrong)

/-- 'palmettelaw08.IsomorphismGroup': WHATEVER THE INPUT: true; the input reads as it did. -/
def isomorphismGroupSpec : ChangeSpec := { name := "isomorphismGroup", fn := fun _ => fun
  | [d1, d2, d3] => { results := [.lit (.bool true)], args := [d1, d2, d3] }
  | _ => none }
def isomorphismGroupRow : OpenClaim := { program := "ytbpeemhfjgcnaaagreat", sum := "6884aef6bc6155c6cc66567ca8b8540e2225c52eb2d766140373c9e8999bede4", func := "palmette/palmettelaw08.IsomorphismGroup", spec := "isomorphismGroup", unfollowed := true, recurses := true, plainKeys := false, apart := false }
def IsomorphismGroupSaid : Prop := isomorphismGroupRow.holds Tryz.pinned (OpenSpec.ofChange isomorphismGroupSpec)

/-- ITS FALSE NEIGHBOUR: 'it returns false'. Refute it at one input. -/
def isomorphismGroupWrong : ChangeSpec := { name := "isomorphismGroup", fn := fun _ => fun
  | [d1, d2, d3] => { results := [.lit (.bool false)], args := [d1, d2, d3] }
  | _ => none }
def IsomorphismGroupWrongFalsely : Prop := isomorphismGroupRow.holds Tryz.pinned (OpenSpec.ofChange isomorphismGroupWrong)

/-- 'palmettelaw08.IsomorphismRelabel': WHATEVER THE INPUT: true; the input reads as it did. -/
def isomorphismRelabelSpec : ChangeSpec := { name := "isomorphismRelabel", fn := fun _ => fun
  | [d1, d2, d3] => { results := [.lit (.bool true)], args := [d1, d2, d3] }
  | _ => none }
def isomorphismRelabelRow : OpenClaim := { program := "ytbpeemhfjgcnaaagreat", sum := "6884aef6bc6155c6cc66567ca8b8540e2225c52eb2d766140373c9e8999bede4", func := "palmette/palmettelaw08.IsomorphismRelabel", spec := "isomorphismRelabel", unfollowed := true, recurses := true, plainKeys := false, apart := false }
def IsomorphismRelabelSaid : Prop := isomorphismRelabelRow.holds Tryz.pinned (OpenSpec.ofChange isomorphismRelabelSpec)

/-- ITS FALSE NEIGHBOUR: 'it returns false'. Refute it at one input. -/
def isomorphismRelabelWrong : ChangeSpec := { name := "isomorphismRelabel", fn := fun _ => fun
  | [d1, d2, d3] => { results := [.lit (.bool false)], args := [d1, d2, d3] }
  | _ => none }
def IsomorphismRelabelWrongFalsely : Prop := isomorphismRelabelRow.holds Tryz.pinned (OpenSpec.ofChange isomorphismRelabelWrong)

/-- 'palmettelaw08.IsomorphismInvariant': WHATEVER THE INPUT: true; the input reads as it did. -/
def isomorphismInvariantSpec : ChangeSpec := { name := "isomorphismInvariant", fn := fun _ => fun
  | [d1, d2] => { results := [.lit (.bool true)], args := [d1, d2] }
  | _ => none }
def isomorphismInvariantRow : OpenClaim := { program := "ytbpeemhfjgcnaaagreat", sum := "6884aef6bc6155c6cc66567ca8b8540e2225c52eb2d766140373c9e8999bede4", func := "palmette/palmettelaw08.IsomorphismInvariant", spec := "isomorphismInvariant", unfollowed := true, recurses := true, plainKeys := false, apart := false }
def IsomorphismInvariantSaid : Prop := isomorphismInvariantRow.holds Tryz.pinned (OpenSpec.ofChange isomorphismInvariantSpec)

/-- ITS FALSE NEIGHBOUR: 'it returns false'. Refute it at one input. -/
def isomorphismInvariantWrong : ChangeSpec := { name := "isomorphismInvariant", fn := fun _ => fun
  | [d1, d2] => { results := [.lit (.bool false)], args := [d1, d2] }
  | _ => none }
def IsomorphismInvariantWrongFalsely : Prop := isomorphismInvariantRow.holds Tryz.pinned (OpenSpec.ofChange isomorphismInvariantWrong)

/-- 'palmettelaw08.IsomorphismPerturbed': WHATEVER THE INPUT: true; the input reads as it did. -/
def isomorphismPerturbedSpec : ChangeSpec := { name := "isomorphismPerturbed", fn := fun _ => fun
  | [d1, d2] => { results := [.lit (.bool true)], args := [d1, d2] }
  | _ => none }
def isomorphismPerturbedRow : OpenClaim := { program := "ytbpeemhfjgcnaaagreat", sum := "6884aef6bc6155c6cc66567ca8b8540e2225c52eb2d766140373c9e8999bede4", func := "palmette/palmettelaw08.IsomorphismPerturbed", spec := "isomorphismPerturbed", unfollowed := true, recurses := true, plainKeys := false, apart := false }
def IsomorphismPerturbedSaid : Prop := isomorphismPerturbedRow.holds Tryz.pinned (OpenSpec.ofChange isomorphismPerturbedSpec)

/-- ITS FALSE NEIGHBOUR: 'it returns false'. Refute it at one input. -/
def isomorphismPerturbedWrong : ChangeSpec := { name := "isomorphismPerturbed", fn := fun _ => fun
  | [d1, d2] => { results := [.lit (.bool false)], args := [d1, d2] }
  | _ => none }
def IsomorphismPerturbedWrongFalsely : Prop := isomorphismPerturbedRow.holds Tryz.pinned (OpenSpec.ofChange isomorphismPerturbedWrong)

/-- 'palmettelaw08.IsomorphismMapping': WHATEVER THE INPUT: true; the input reads as it did. -/
def isomorphismMappingSpec : ChangeSpec := { name := "isomorphismMapping", fn := fun _ => fun
  | [d1, d2, d3] => { results := [.lit (.bool true)], args := [d1, d2, d3] }
  | _ => none }
def isomorphismMappingRow : OpenClaim := { program := "ytbpeemhfjgcnaaagreat", sum := "6884aef6bc6155c6cc66567ca8b8540e2225c52eb2d766140373c9e8999bede4", func := "palmette/palmettelaw08.IsomorphismMapping", spec := "isomorphismMapping", unfollowed := true, recurses := true, plainKeys := false, apart := false }
def IsomorphismMappingSaid : Prop := isomorphismMappingRow.holds Tryz.pinned (OpenSpec.ofChange isomorphismMappingSpec)

/-- ITS FALSE NEIGHBOUR: 'it returns false'. Refute it at one input. -/
def isomorphismMappingWrong : ChangeSpec := { name := "isomorphismMapping", fn := fun _ => fun
  | [d1, d2, d3] => { results := [.lit (.bool false)], args := [d1, d2, d3] }
  | _ => none }
def IsomorphismMappingWrongFalsely : Prop := isomorphismMappingRow.holds Tryz.pinned (OpenSpec.ofChange isomorphismMappingWrong)

/-- 'palmettelaw08.IsomorphismAutomorphisms': WHATEVER THE INPUT: true; the input reads as it did. -/
def isomorphismAutomorphismsSpec : ChangeSpec := { name := "isomorphismAutomorphisms", fn := fun _ => fun
  | [d] => { results := [.lit (.bool true)], args := [d] }
  | _ => none }
def isomorphismAutomorphismsRow : OpenClaim := { program := "ytbpeemhfjgcnaaagreat", sum := "6884aef6bc6155c6cc66567ca8b8540e2225c52eb2d766140373c9e8999bede4", func := "palmette/palmettelaw08.IsomorphismAutomorphisms", spec := "isomorphismAutomorphisms", unfollowed := true, recurses := true, plainKeys := false, apart := false }
def IsomorphismAutomorphismsSaid : Prop := isomorphismAutomorphismsRow.holds Tryz.pinned (OpenSpec.ofChange isomorphismAutomorphismsSpec)

/-- ITS FALSE NEIGHBOUR: 'it returns false'. Refute it at one input. -/
def isomorphismAutomorphismsWrong : ChangeSpec := { name := "isomorphismAutomorphisms", fn := fun _ => fun
  | [d] => { results := [.lit (.bool false)], args := [d] }
  | _ => none }
def IsomorphismAutomorphismsWrongFalsely : Prop := isomorphismAutomorphismsRow.holds Tryz.pinned (OpenSpec.ofChange isomorphismAutomorphismsWrong)

/-- 'palmettelaw08.IsomorphismErrors': WHATEVER THE INPUT: true; the input reads as it did. -/
def isomorphismErrorsSpec : ChangeSpec := { name := "isomorphismErrors", fn := fun _ => fun
  | [d1, d2] => { results := [.lit (.bool true)], args := [d1, d2] }
  | _ => none }
def isomorphismErrorsRow : OpenClaim := { program := "ytbpeemhfjgcnaaagreat", sum := "6884aef6bc6155c6cc66567ca8b8540e2225c52eb2d766140373c9e8999bede4", func := "palmette/palmettelaw08.IsomorphismErrors", spec := "isomorphismErrors", unfollowed := true, recurses := true, plainKeys := false, apart := false }
def IsomorphismErrorsSaid : Prop := isomorphismErrorsRow.holds Tryz.pinned (OpenSpec.ofChange isomorphismErrorsSpec)

/-- ITS FALSE NEIGHBOUR: 'it returns false'. Refute it at one input. -/
def isomorphismErrorsWrong : ChangeSpec := { name := "isomorphismErrors", fn := fun _ => fun
  | [d1, d2] => { results := [.lit (.bool false)], args := [d1, d2] }
  | _ => none }
def IsomorphismErrorsWrongFalsely : Prop := isomorphismErrorsRow.holds Tryz.pinned (OpenSpec.ofChange isomorphismErrorsWrong)

/- THE SECOND FORM. 'bulk': how many values and letters a reading holds, each counted each time it is reached (what is shared counts as often as it is met; a slice's spare places count too). A statement '..UptoSaid' is the law's where the arguments, and the package variables that the reading takes, are together of bulk at most 1048576: NARROWER than '..Said'. Prove '..Said' where nothing that the law and all that it calls make is longer than what came in: it says more and counts as full. Else prove '..UptoSaid'. A law counts once. -/
mutual
def uptoBulk {H : Type} : DataW H → Nat
  | .lit (.string bytes) => bytes.length + 1
  | .lit _ => 1
  | .nil => 1
  | .ptr d => uptoBulk d + 1
  | .slice elems spare => uptoBulkAll elems + uptoBulkAll spare + 1
  | .agg parts => uptoBulkAll parts + 1
  | .iface _ d => uptoBulk d + 1
  | .map entries => uptoBulkEntries entries + 1
  | .held _ => 1
def uptoBulkAll {H : Type} : List (DataW H) → Nat
  | [] => 0
  | d :: r => uptoBulk d + uptoBulkAll r
def uptoBulkEntries {H : Type} : List (Lit × DataW H) → Nat
  | [] => 0
  | x :: r => uptoBulkEntry x + uptoBulkEntries r
def uptoBulkEntry {H : Type} : Lit × DataW H → Nat
  | (.string bytes, d) => bytes.length + uptoBulk d + 1
  | (_, d) => uptoBulk d + 1
 end
def uptoSmall : (H : Type) → List (DataW H) → Bool := fun _ ds => decide (uptoBulkAll ds ≤ 1048576)
def OpenSpec.upto (s : _root_.Go.ChangeSpec) : _root_.Go.OpenSpec := { _root_.Go.OpenSpec.ofChange s with cond := some uptoSmall }

/-- 'palmettelaw08.IsomorphismCanonicalForm', WHERE WHAT IT READS IS OF BULK AT MOST 1048576: true; the input reads as it did. -/
def isomorphismCanonicalFormUptoRow : OpenClaim := { program := "ytbpeemhfjgcnaaagreat", sum := "6884aef6bc6155c6cc66567ca8b8540e2225c52eb2d766140373c9e8999bede4", func := "palmette/palmettelaw08.IsomorphismCanonicalForm", spec := "isomorphismCanonicalForm", unfollowed := true, recurses := true, plainKeys := false, apart := false, narrowed := true }
def IsomorphismCanonicalFormUptoSaid : Prop := isomorphismCanonicalFormUptoRow.holds Tryz.pinned (OpenSpec.upto isomorphismCanonicalFormSpec)

/-- 'palmettelaw08.IsomorphismGroup', WHERE WHAT IT READS IS OF BULK AT MOST 1048576: true; the input reads as it did. -/
def isomorphismGroupUptoRow : OpenClaim := { program := "ytbpeemhfjgcnaaagreat", sum := "6884aef6bc6155c6cc66567ca8b8540e2225c52eb2d766140373c9e8999bede4", func := "palmette/palmettelaw08.IsomorphismGroup", spec := "isomorphismGroup", unfollowed := true, recurses := true, plainKeys := false, apart := false, narrowed := true }
def IsomorphismGroupUptoSaid : Prop := isomorphismGroupUptoRow.holds Tryz.pinned (OpenSpec.upto isomorphismGroupSpec)

/-- 'palmettelaw08.IsomorphismRelabel', WHERE WHAT IT READS IS OF BULK AT MOST 1048576: true; the input reads as it did. -/
def isomorphismRelabelUptoRow : OpenClaim := { program := "ytbpeemhfjgcnaaagreat", sum := "6884aef6bc6155c6cc66567ca8b8540e2225c52eb2d766140373c9e8999bede4", func := "palmette/palmettelaw08.IsomorphismRelabel", spec := "isomorphismRelabel", unfollowed := true, recurses := true, plainKeys := false, apart := false, narrowed := true }
def IsomorphismRelabelUptoSaid : Prop := isomorphismRelabelUptoRow.holds Tryz.pinned (OpenSpec.upto isomorphismRelabelSpec)

/-- 'palmettelaw08.IsomorphismInvariant', WHERE WHAT IT READS IS OF BULK AT MOST 1048576: true; the input reads as it did. -/
def isomorphismInvariantUptoRow : OpenClaim := { program := "ytbpeemhfjgcnaaagreat", sum := "6884aef6bc6155c6cc66567ca8b8540e2225c52eb2d766140373c9e8999bede4", func := "palmette/palmettelaw08.IsomorphismInvariant", spec := "isomorphismInvariant", unfollowed := true, recurses := true, plainKeys := false, apart := false, narrowed := true }
def IsomorphismInvariantUptoSaid : Prop := isomorphismInvariantUptoRow.holds Tryz.pinned (OpenSpec.upto isomorphismInvariantSpec)

/-- 'palmettelaw08.IsomorphismPerturbed', WHERE WHAT IT READS IS OF BULK AT MOST 1048576: true; the input reads as it did. -/
def isomorphismPerturbedUptoRow : OpenClaim := { program := "ytbpeemhfjgcnaaagreat", sum := "6884aef6bc6155c6cc66567ca8b8540e2225c52eb2d766140373c9e8999bede4", func := "palmette/palmettelaw08.IsomorphismPerturbed", spec := "isomorphismPerturbed", unfollowed := true, recurses := true, plainKeys := false, apart := false, narrowed := true }
def IsomorphismPerturbedUptoSaid : Prop := isomorphismPerturbedUptoRow.holds Tryz.pinned (OpenSpec.upto isomorphismPerturbedSpec)

/-- 'palmettelaw08.IsomorphismMapping', WHERE WHAT IT READS IS OF BULK AT MOST 1048576: true; the input reads as it did. -/
def isomorphismMappingUptoRow : OpenClaim := { program := "ytbpeemhfjgcnaaagreat", sum := "6884aef6bc6155c6cc66567ca8b8540e2225c52eb2d766140373c9e8999bede4", func := "palmette/palmettelaw08.IsomorphismMapping", spec := "isomorphismMapping", unfollowed := true, recurses := true, plainKeys := false, apart := false, narrowed := true }
def IsomorphismMappingUptoSaid : Prop := isomorphismMappingUptoRow.holds Tryz.pinned (OpenSpec.upto isomorphismMappingSpec)

/-- 'palmettelaw08.IsomorphismAutomorphisms', WHERE WHAT IT READS IS OF BULK AT MOST 1048576: true; the input reads as it did. -/
def isomorphismAutomorphismsUptoRow : OpenClaim := { program := "ytbpeemhfjgcnaaagreat", sum := "6884aef6bc6155c6cc66567ca8b8540e2225c52eb2d766140373c9e8999bede4", func := "palmette/palmettelaw08.IsomorphismAutomorphisms", spec := "isomorphismAutomorphisms", unfollowed := true, recurses := true, plainKeys := false, apart := false, narrowed := true }
def IsomorphismAutomorphismsUptoSaid : Prop := isomorphismAutomorphismsUptoRow.holds Tryz.pinned (OpenSpec.upto isomorphismAutomorphismsSpec)

/-- 'palmettelaw08.IsomorphismErrors', WHERE WHAT IT READS IS OF BULK AT MOST 1048576: true; the input reads as it did. -/
def isomorphismErrorsUptoRow : OpenClaim := { program := "ytbpeemhfjgcnaaagreat", sum := "6884aef6bc6155c6cc66567ca8b8540e2225c52eb2d766140373c9e8999bede4", func := "palmette/palmettelaw08.IsomorphismErrors", spec := "isomorphismErrors", unfollowed := true, recurses := true, plainKeys := false, apart := false, narrowed := true }
def IsomorphismErrorsUptoSaid : Prop := isomorphismErrorsUptoRow.holds Tryz.pinned (OpenSpec.upto isomorphismErrorsSpec)

end Rows
end Go.Proofs.YtbpeemhfjgcnaaaGreat
