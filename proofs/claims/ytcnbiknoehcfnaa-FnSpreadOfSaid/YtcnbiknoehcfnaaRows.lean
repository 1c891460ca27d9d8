/-
  No cell of these rows narrows 'for every input' (looked for: loops, veiled, ifaces, maps, wideKeys, modest, calm, conditions, laid).
  DERIVED. THE GIVEN ROWS OF THIS SEAT. 12 by the template 'for every input the law returns true; each argument reads behind the call as it read before'; 0 by the template 'total and deterministic' (their statements: YtcnbiknoehcfnaaTotals.lean).
  GIVEN WITH THE SEED: the statements are not yours to turn. If you find one false, say at which input.
  Laid BY PROGRAM, IN A SANDBOX (cutbox-rows.mjs): the forced cells as the released guide's own fill.sh prints them over the translation 0b7713873b46529f… (all of the seat's roots in one cut). By AI agents, Wed Nov 11 2026. No macro, syntax, notation, axiom, sorry.
-/
import Derived.Test.YtcnbiknoehcfnaaChecked
import GoSem.Claim
import GoSem.ClaimJoined
import GoSem.ClaimMapViews
import Derived.JoinedTies
import Derived.KernelRfl
namespace Go.Proofs.Ytcnbiknoehcfnaa
/- THE CELL 'sum', in the pinned program and in every row, IS THE sha256 OF THE DUMP (.gsa) THAT YtcnbiknoehcfnaaProg.lean LOADS. Nothing in Lean hashes anything: it is a label: what it is worth is what the hold of that sum in a sandbox is worth. -/
noncomputable def Try.pinned : Pinned := { name := "ytcnbiknoehcfnaa", sum := "0b7713873b46529f34c3f5bd6472587b112b667a359374918617060fefc88528", checked := Try.checked }
namespace Rows
def none {H : Type} : Left H := { results := [], args := [] }

/-- 'laws.FnExactPlusOf': WHATEVER THE INPUT: true; the input reads as it did. -/
def fnExactPlusOfSpec : ChangeSpec := { name := "fnExactPlusOf", fn := fun _ => fun
  | [d1, d2] => { results := [.lit (.bool true)], args := [d1, d2] }
  | _ => none }
def fnExactPlusOfRow : OpenClaim := { program := "ytcnbiknoehcfnaa", sum := "0b7713873b46529f34c3f5bd6472587b112b667a359374918617060fefc88528", func := "loop.example/divisorrows/laws.FnExactPlusOf", spec := "fnExactPlusOf", unfollowed := true, recurses := true, apart := false }
def FnExactPlusOfSaid : Prop := fnExactPlusOfRow.holds Try.pinned (OpenSpec.ofChange fnExactPlusOfSpec)

/-- ITS FALSE NEIGHBOUR: 'it returns false'. Refute it at one input. -/
def fnExactPlusOfWrong : ChangeSpec := { name := "fnExactPlusOf", fn := fun _ => fun
  | [d1, d2] => { results := [.lit (.bool false)], args := [d1, d2] }
  | _ => none }
def FnExactPlusOfWrongFalsely : Prop := fnExactPlusOfRow.holds Try.pinned (OpenSpec.ofChange fnExactPlusOfWrong)

/-- 'laws.FnExactPointwiseOf': WHATEVER THE INPUT: true; the input reads as it did. -/
def fnExactPointwiseOfSpec : ChangeSpec := { name := "fnExactPointwiseOf", fn := fun _ => fun
  | [d1, d2] => { results := [.lit (.bool true)], args := [d1, d2] }
  | _ => none }
def fnExactPointwiseOfRow : OpenClaim := { program := "ytcnbiknoehcfnaa", sum := "0b7713873b46529f34c3f5bd6472587b112b667a359374918617060fefc88528", func := "loop.example/divisorrows/laws.FnExactPointwiseOf", spec := "fnExactPointwiseOf", unfollowed := true, recurses := true, apart := false }
def FnExactPointwiseOfSaid : Prop := fnExactPointwiseOfRow.holds Try.pinned (OpenSpec.ofChange fnExactPointwiseOfSpec)

/-- ITS FALSE NEIGHBOUR: 'it returns false'. Refute it at one input. -/
def fnExactPointwiseOfWrong : ChangeSpec := { name := "fnExactPointwiseOf", fn := fun _ => fun
  | [d1, d2] => { results := [.lit (.bool false)], args := [d1, d2] }
  | _ => none }
def FnExactPointwiseOfWrongFalsely : Prop := fnExactPointwiseOfRow.holds Try.pinned (OpenSpec.ofChange fnExactPointwiseOfWrong)

/-- 'laws.FnExactTimesOf': WHATEVER THE INPUT: true; the input reads as it did. -/
def fnExactTimesOfSpec : ChangeSpec := { name := "fnExactTimesOf", fn := fun _ => fun
  | [d1, d2] => { results := [.lit (.bool true)], args := [d1, d2] }
  | _ => none }
def fnExactTimesOfRow : OpenClaim := { program := "ytcnbiknoehcfnaa", sum := "0b7713873b46529f34c3f5bd6472587b112b667a359374918617060fefc88528", func := "loop.example/divisorrows/laws.FnExactTimesOf", spec := "fnExactTimesOf", unfollowed := true, recurses := true, apart := false }
def FnExactTimesOfSaid : Prop := fnExactTimesOfRow.holds Try.pinned (OpenSpec.ofChange fnExactTimesOfSpec)

/-- ITS FALSE NEIGHBOUR: 'it returns false'. Refute it at one input. -/
def fnExactTimesOfWrong : ChangeSpec := { name := "fnExactTimesOf", fn := fun _ => fun
  | [d1, d2] => { results := [.lit (.bool false)], args := [d1, d2] }
  | _ => none }
def FnExactTimesOfWrongFalsely : Prop := fnExactTimesOfRow.holds Try.pinned (OpenSpec.ofChange fnExactTimesOfWrong)

/-- 'laws.FnExactFullOf': WHATEVER THE INPUT: true; the input reads as it did. -/
def fnExactFullOfSpec : ChangeSpec := { name := "fnExactFullOf", fn := fun _ => fun
  | [d] => { results := [.lit (.bool true)], args := [d] }
  | _ => none }
def fnExactFullOfRow : OpenClaim := { program := "ytcnbiknoehcfnaa", sum := "0b7713873b46529f34c3f5bd6472587b112b667a359374918617060fefc88528", func := "loop.example/divisorrows/laws.FnExactFullOf", spec := "fnExactFullOf", unfollowed := true, recurses := true, apart := false }
def FnExactFullOfSaid : Prop := fnExactFullOfRow.holds Try.pinned (OpenSpec.ofChange fnExactFullOfSpec)

/-- ITS FALSE NEIGHBOUR: 'it returns false'. Refute it at one input. -/
def fnExactFullOfWrong : ChangeSpec := { name := "fnExactFullOf", fn := fun _ => fun
  | [d] => { results := [.lit (.bool false)], args := [d] }
  | _ => none }
def FnExactFullOfWrongFalsely : Prop := fnExactFullOfRow.holds Try.pinned (OpenSpec.ofChange fnExactFullOfWrong)

/-- 'laws.FnExactSpreadOf': WHATEVER THE INPUT: true; the input reads as it did. -/
def fnExactSpreadOfSpec : ChangeSpec := { name := "fnExactSpreadOf", fn := fun _ => fun
  | [d] => { results := [.lit (.bool true)], args := [d] }
  | _ => none }
def fnExactSpreadOfRow : OpenClaim := { program := "ytcnbiknoehcfnaa", sum := "0b7713873b46529f34c3f5bd6472587b112b667a359374918617060fefc88528", func := "loop.example/divisorrows/laws.FnExactSpreadOf", spec := "fnExactSpreadOf", unfollowed := true, recurses := true, apart := false }
def FnExactSpreadOfSaid : Prop := fnExactSpreadOfRow.holds Try.pinned (OpenSpec.ofChange fnExactSpreadOfSpec)

/-- ITS FALSE NEIGHBOUR: 'it returns false'. Refute it at one input. -/
def fnExactSpreadOfWrong : ChangeSpec := { name := "fnExactSpreadOf", fn := fun _ => fun
  | [d] => { results := [.lit (.bool false)], args := [d] }
  | _ => none }
def FnExactSpreadOfWrongFalsely : Prop := fnExactSpreadOfRow.holds Try.pinned (OpenSpec.ofChange fnExactSpreadOfWrong)

/-- 'laws.FnExactOverMultiples': WHATEVER THE INPUT: true; the input reads as it did. -/
def fnExactOverMultiplesSpec : ChangeSpec := { name := "fnExactOverMultiples", fn := fun _ => fun
  | [d] => { results := [.lit (.bool true)], args := [d] }
  | _ => none }
def fnExactOverMultiplesRow : OpenClaim := { program := "ytcnbiknoehcfnaa", sum := "0b7713873b46529f34c3f5bd6472587b112b667a359374918617060fefc88528", func := "loop.example/divisorrows/laws.FnExactOverMultiples", spec := "fnExactOverMultiples", unfollowed := true, recurses := true, apart := false }
def FnExactOverMultiplesSaid : Prop := fnExactOverMultiplesRow.holds Try.pinned (OpenSpec.ofChange fnExactOverMultiplesSpec)

/-- ITS FALSE NEIGHBOUR: 'it returns false'. Refute it at one input. -/
def fnExactOverMultiplesWrong : ChangeSpec := { name := "fnExactOverMultiples", fn := fun _ => fun
  | [d] => { results := [.lit (.bool false)], args := [d] }
  | _ => none }
def FnExactOverMultiplesWrongFalsely : Prop := fnExactOverMultiplesRow.holds Try.pinned (OpenSpec.ofChange fnExactOverMultiplesWrong)

/-- 'laws.FnExactRoundedSums': WHATEVER THE INPUT: true; the input reads as it did. -/
def fnExactRoundedSumsSpec : ChangeSpec := { name := "fnExactRoundedSums", fn := fun _ => fun
  | [d] => { results := [.lit (.bool true)], args := [d] }
  | _ => none }
def fnExactRoundedSumsRow : OpenClaim := { program := "ytcnbiknoehcfnaa", sum := "0b7713873b46529f34c3f5bd6472587b112b667a359374918617060fefc88528", func := "loop.example/divisorrows/laws.FnExactRoundedSums", spec := "fnExactRoundedSums", unfollowed := true, recurses := true, apart := false }
def FnExactRoundedSumsSaid : Prop := fnExactRoundedSumsRow.holds Try.pinned (OpenSpec.ofChange fnExactRoundedSumsSpec)

/-- ITS FALSE NEIGHBOUR: 'it returns false'. Refute it at one input. -/
def fnExactRoundedSumsWrong : ChangeSpec := { name := "fnExactRoundedSums", fn := fun _ => fun
  | [d] => { results := [.lit (.bool false)], args := [d] }
  | _ => none }
def FnExactRoundedSumsWrongFalsely : Prop := fnExactRoundedSumsRow.holds Try.pinned (OpenSpec.ofChange fnExactRoundedSumsWrong)

/-- 'laws.FnSpreadOf': WHATEVER THE INPUT: true; the input reads as it did. -/
def fnSpreadOfSpec : ChangeSpec := { name := "fnSpreadOf", fn := fun _ => fun
  | [d] => { results := [.lit (.bool true)], args := [d] }
  | _ => none }
def fnSpreadOfRow : OpenClaim := { program := "ytcnbiknoehcfnaa", sum := "0b7713873b46529f34c3f5bd6472587b112b667a359374918617060fefc88528", func := "loop.example/divisorrows/laws.FnSpreadOf", spec := "fnSpreadOf", unfollowed := true, recurses := true, apart := false }
def FnSpreadOfSaid : Prop := fnSpreadOfRow.holds Try.pinned (OpenSpec.ofChange fnSpreadOfSpec)

/-- ITS FALSE NEIGHBOUR: 'it returns false'. Refute it at one input. -/
def fnSpreadOfWrong : ChangeSpec := { name := "fnSpreadOf", fn := fun _ => fun
  | [d] => { results := [.lit (.bool false)], args := [d] }
  | _ => none }
def FnSpreadOfWrongFalsely : Prop := fnSpreadOfRow.holds Try.pinned (OpenSpec.ofChange fnSpreadOfWrong)

/-- 'laws.FnExactNamedRow': WHATEVER THE INPUT: true; the input reads as it did. -/
def fnExactNamedRowSpec : ChangeSpec := { name := "fnExactNamedRow", fn := fun _ => fun
  | [d] => { results := [.lit (.bool true)], args := [d] }
  | _ => none }
def fnExactNamedRowRow : OpenClaim := { program := "ytcnbiknoehcfnaa", sum := "0b7713873b46529f34c3f5bd6472587b112b667a359374918617060fefc88528", func := "loop.example/divisorrows/laws.FnExactNamedRow", spec := "fnExactNamedRow", unfollowed := true, recurses := true, apart := false }
def FnExactNamedRowSaid : Prop := fnExactNamedRowRow.holds Try.pinned (OpenSpec.ofChange fnExactNamedRowSpec)

/-- ITS FALSE NEIGHBOUR: 'it returns false'. Refute it at one input. -/
def fnExactNamedRowWrong : ChangeSpec := { name := "fnExactNamedRow", fn := fun _ => fun
  | [d] => { results := [.lit (.bool false)], args := [d] }
  | _ => none }
def FnExactNamedRowWrongFalsely : Prop := fnExactNamedRowRow.holds Try.pinned (OpenSpec.ofChange fnExactNamedRowWrong)

/-- 'laws.FnPlusOf': WHATEVER THE INPUT: true; the input reads as it did. -/
def fnPlusOfSpec : ChangeSpec := { name := "fnPlusOf", fn := fun _ => fun
  | [d] => { results := [.lit (.bool true)], args := [d] }
  | _ => none }
def fnPlusOfRow : OpenClaim := { program := "ytcnbiknoehcfnaa", sum := "0b7713873b46529f34c3f5bd6472587b112b667a359374918617060fefc88528", func := "loop.example/divisorrows/laws.FnPlusOf", spec := "fnPlusOf", unfollowed := true, recurses := true, apart := false }
def FnPlusOfSaid : Prop := fnPlusOfRow.holds Try.pinned (OpenSpec.ofChange fnPlusOfSpec)

/-- ITS FALSE NEIGHBOUR: 'it returns false'. Refute it at one input. -/
def fnPlusOfWrong : ChangeSpec := { name := "fnPlusOf", fn := fun _ => fun
  | [d] => { results := [.lit (.bool false)], args := [d] }
  | _ => none }
def FnPlusOfWrongFalsely : Prop := fnPlusOfRow.holds Try.pinned (OpenSpec.ofChange fnPlusOfWrong)

/-- 'laws.FnNamedRow': WHATEVER THE INPUT: true; the input reads as it did. -/
def fnNamedRowSpec : ChangeSpec := { name := "fnNamedRow", fn := fun _ => fun
  | [d] => { results := [.lit (.bool true)], args := [d] }
  | _ => none }
def fnNamedRowRow : OpenClaim := { program := "ytcnbiknoehcfnaa", sum := "0b7713873b46529f34c3f5bd6472587b112b667a359374918617060fefc88528", func := "loop.example/divisorrows/laws.FnNamedRow", spec := "fnNamedRow", unfollowed := true, recurses := true, apart := false }
def FnNamedRowSaid : Prop := fnNamedRowRow.holds Try.pinned (OpenSpec.ofChange fnNamedRowSpec)

/-- ITS FALSE NEIGHBOUR: 'it returns false'. Refute it at one input. -/
def fnNamedRowWrong : ChangeSpec := { name := "fnNamedRow", fn := fun _ => fun
  | [d] => { results := [.lit (.bool false)], args := [d] }
  | _ => none }
def FnNamedRowWrongFalsely : Prop := fnNamedRowRow.holds Try.pinned (OpenSpec.ofChange fnNamedRowWrong)

/-- 'laws.FnFullOf': WHATEVER THE INPUT: true; the input reads as it did. -/
def fnFullOfSpec : ChangeSpec := { name := "fnFullOf", fn := fun _ => fun
  | [d] => { results := [.lit (.bool true)], args := [d] }
  | _ => none }
def fnFullOfRow : OpenClaim := { program := "ytcnbiknoehcfnaa", sum := "0b7713873b46529f34c3f5bd6472587b112b667a359374918617060fefc88528", func := "loop.example/divisorrows/laws.FnFullOf", spec := "fnFullOf", unfollowed := true, recurses := true, apart := false }
def FnFullOfSaid : Prop := fnFullOfRow.holds Try.pinned (OpenSpec.ofChange fnFullOfSpec)

/-- ITS FALSE NEIGHBOUR: 'it returns false'. Refute it at one input. -/
def fnFullOfWrong : ChangeSpec := { name := "fnFullOf", fn := fun _ => fun
  | [d] => { results := [.lit (.bool false)], args := [d] }
  | _ => none }
def FnFullOfWrongFalsely : Prop := fnFullOfRow.holds Try.pinned (OpenSpec.ofChange fnFullOfWrong)

/- THE SECOND FORM. 'bulk': how many values and letters a reading holds, each counted each time it is reached (what is shared counts as often as it is met; a slice's spare places count too). A statement '..UptoSaid' is the law's where the arguments, and the package variables that the reading takes, are together of bulk at most 1048576: NARROWER than '..Said'. Prove '..Said' where nothing that the law and all that it calls make is longer than what came in: it says more and counts as full. Else prove '..UptoSaid'. A law counts once. -/
mutual
def uptoBulk {H : Type} : DataW H → Nat
  | .lit (.string bytes) => bytes.length + 1
  | .lit _ => 1
  | .nil => 1
  | .ptr d => uptoBulk d + 1
  | .slice elems spare => uptoBulkAll elems + uptoBulkAll spare + 1
  | .agg parts => uptoBulkAll parts + 1
  | .iface _ d => uptoBulk d + 1
  | .map entries => uptoBulkEntries entries + 1
  | .held _ => 1
def uptoBulkAll {H : Type} : List (DataW H) → Nat
  | [] => 0
  | d :: r => uptoBulk d + uptoBulkAll r
def uptoBulkEntries {H : Type} : List (Lit × DataW H) → Nat
  | [] => 0
  | x :: r => uptoBulkEntry x + uptoBulkEntries r
def uptoBulkEntry {H : Type} : Lit × DataW H → Nat
  | (.string bytes, d) => bytes.length + uptoBulk d + 1
  | (_, d) => uptoBulk d + 1
 end
def uptoSmall : (H : Type) → List (DataW H) → Bool := fun _ ds => decide (uptoBulkAll ds ≤ 1048576)
def OpenSpec.upto (s : _root_.Go.ChangeSpec) : _root_.Go.OpenSpec := { _root_.Go.OpenSpec.ofChange s with cond := some uptoSmall }

/-- 'laws.FnExactPlusOf', WHERE WHAT IT READS IS OF BULK AT MOST 1048576: true; the input reads as it did. -/
def fnExactPlusOfUptoRow : OpenClaim := { program := "ytcnbiknoehcfnaa", sum := "0b7713873b46529f34c3f5bd6472587b112b667a359374918617060fefc88528", func := "loop.example/divisorrows/laws.FnExactPlusOf", spec := "fnExactPlusOf", unfollowed := true, recurses := true, apart := false, narrowed := true }
def FnExactPlusOfUptoSaid : Prop := fnExactPlusOfUptoRow.holds Try.pinned (OpenSpec.upto fnExactPlusOfSpec)

/-- 'laws.FnExactPointwiseOf', WHERE WHAT IT READS IS OF BULK AT MOST 1048576: true; the input reads as it did. -/
def fnExactPointwiseOfUptoRow : OpenClaim := { program := "ytcnbiknoehcfnaa", sum := "0b7713873b46529f34c3f5bd6472587b112b667a359374918617060fefc88528", func := "loop.example/divisorrows/laws.FnExactPointwiseOf", spec := "fnExactPointwiseOf", unfollowed := true, recurses := true, apart := false, narrowed := true }
def FnExactPointwiseOfUptoSaid : Prop := fnExactPointwiseOfUptoRow.holds Try.pinned (OpenSpec.upto fnExactPointwiseOfSpec)

/-- 'laws.FnExactTimesOf', WHERE WHAT IT READS IS OF BULK AT MOST 1048576: true; the input reads as it did. -/
def fnExactTimesOfUptoRow : OpenClaim := { program := "ytcnbiknoehcfnaa", sum := "0b7713873b46529f34c3f5bd6472587b112b667a359374918617060fefc88528", func := "loop.example/divisorrows/laws.FnExactTimesOf", spec := "fnExactTimesOf", unfollowed := true, recurses := true, apart := false, narrowed := true }
def FnExactTimesOfUptoSaid : Prop := fnExactTimesOfUptoRow.holds Try.pinned (OpenSpec.upto fnExactTimesOfSpec)

/-- 'laws.FnExactFullOf', WHERE WHAT IT READS IS OF BULK AT MOST 1048576: true; the input reads as it did. -/
def fnExactFullOfUptoRow : OpenClaim := { program := "ytcnbiknoehcfnaa", sum := "0b7713873b46529f34c3f5bd6472587b112b667a359374918617060fefc88528", func := "loop.example/divisorrows/laws.FnExactFullOf", spec := "fnExactFullOf", unfollowed := true, recurses := true, apart := false, narrowed := true }
def FnExactFullOfUptoSaid : Prop := fnExactFullOfUptoRow.holds Try.pinned (OpenSpec.upto fnExactFullOfSpec)

/-- 'laws.FnExactSpreadOf', WHERE WHAT IT READS IS OF BULK AT MOST 1048576: true; the input reads as it did. -/
def fnExactSpreadOfUptoRow : OpenClaim := { program := "ytcnbiknoehcfnaa", sum := "0b7713873b46529f34c3f5bd6472587b112b667a359374918617060fefc88528", func := "loop.example/divisorrows/laws.FnExactSpreadOf", spec := "fnExactSpreadOf", unfollowed := true, recurses := true, apart := false, narrowed := true }
def FnExactSpreadOfUptoSaid : Prop := fnExactSpreadOfUptoRow.holds Try.pinned (OpenSpec.upto fnExactSpreadOfSpec)

/-- 'laws.FnExactOverMultiples', WHERE WHAT IT READS IS OF BULK AT MOST 1048576: true; the input reads as it did. -/
def fnExactOverMultiplesUptoRow : OpenClaim := { program := "ytcnbiknoehcfnaa", sum := "0b7713873b46529f34c3f5bd6472587b112b667a359374918617060fefc88528", func := "loop.example/divisorrows/laws.FnExactOverMultiples", spec := "fnExactOverMultiples", unfollowed := true, recurses := true, apart := false, narrowed := true }
def FnExactOverMultiplesUptoSaid : Prop := fnExactOverMultiplesUptoRow.holds Try.pinned (OpenSpec.upto fnExactOverMultiplesSpec)

/-- 'laws.FnExactRoundedSums', WHERE WHAT IT READS IS OF BULK AT MOST 1048576: true; the input reads as it did. -/
def fnExactRoundedSumsUptoRow : OpenClaim := { program := "ytcnbiknoehcfnaa", sum := "0b7713873b46529f34c3f5bd6472587b112b667a359374918617060fefc88528", func := "loop.example/divisorrows/laws.FnExactRoundedSums", spec := "fnExactRoundedSums", unfollowed := true, recurses := true, apart := false, narrowed := true }
def FnExactRoundedSumsUptoSaid : Prop := fnExactRoundedSumsUptoRow.holds Try.pinned (OpenSpec.upto fnExactRoundedSumsSpec)

/-- 'laws.FnSpreadOf', WHERE WHAT IT READS IS OF BULK AT MOST 1048576: true; the input reads as it did. -/
def fnSpreadOfUptoRow : OpenClaim := { program := "ytcnbiknoehcfnaa", sum := "0b7713873b46529f34c3f5bd6472587b112b667a359374918617060fefc88528", func := "loop.example/divisorrows/laws.FnSpreadOf", spec := "fnSpreadOf", unfollowed := true, recurses := true, apart := false, narrowed := true }
def FnSpreadOfUptoSaid : Prop := fnSpreadOfUptoRow.holds Try.pinned (OpenSpec.upto fnSpreadOfSpec)

/-- 'laws.FnExactNamedRow', WHERE WHAT IT READS IS OF BULK AT MOST 1048576: true; the input reads as it did. -/
def fnExactNamedRowUptoRow : OpenClaim := { program := "ytcnbiknoehcfnaa", sum := "0b7713873b46529f34c3f5bd6472587b112b667a359374918617060fefc88528", func := "loop.example/divisorrows/laws.FnExactNamedRow", spec := "fnExactNamedRow", unfollowed := true, recurses := true, apart := false, narrowed := true }
def FnExactNamedRowUptoSaid : Prop := fnExactNamedRowUptoRow.holds Try.pinned (OpenSpec.upto fnExactNamedRowSpec)

/-- 'laws.FnPlusOf', WHERE WHAT IT READS IS OF BULK AT MOST 1048576: true; the input reads as it did. -/
def fnPlusOfUptoRow : OpenClaim := { program := "ytcnbiknoehcfnaa", sum := "0b7713873b46529f34c3f5bd6472587b112b667a359374918617060fefc88528", func := "loop.example/divisorrows/laws.FnPlusOf", spec := "fnPlusOf", unfollowed := true, recurses := true, apart := false, narrowed := true }
def FnPlusOfUptoSaid : Prop := fnPlusOfUptoRow.holds Try.pinned (OpenSpec.upto fnPlusOfSpec)

/-- 'laws.FnNamedRow', WHERE WHAT IT READS IS OF BULK AT MOST 1048576: true; the input reads as it did. -/
def fnNamedRowUptoRow : OpenClaim := { program := "ytcnbiknoehcfnaa", sum := "0b7713873b46529f34c3f5bd6472587b112b667a359374918617060fefc88528", func := "loop.example/divisorrows/laws.FnNamedRow", spec := "fnNamedRow", unfollowed := true, recurses := true, apart := false, narrowed := true }
def FnNamedRowUptoSaid : Prop := fnNamedRowUptoRow.holds Try.pinned (OpenSpec.upto fnNamedRowSpec)

/-- 'laws.FnFullOf', WHERE WHAT IT READS IS OF BULK AT MOST 1048576: true; the input reads as it did. -/
def fnFullOfUptoRow : OpenClaim := { program := "ytcnbiknoehcfnaa", sum := "0b7713873b46529f34c3f5bd6472587b112b667a359374918617060fefc88528", func := "loop.example/divisorrows/laws.FnFullOf", spec := "fnFullOf", unfollowed := true, recurses := true, apart := false, narrowed := true }
def FnFullOfUptoSaid : Prop := fnFullOfUptoRow.holds Try.pinned (OpenSpec.upto fnFullOfSpec)

end Rows
end Go.Proofs.Ytcnbiknoehcfnaa
