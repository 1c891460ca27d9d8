/-
  No cell of these rows narrows 'for every input' (looked for: loops, veiled, ifaces, maps, wideKeys, modest, calm, conditions, laid).
  DERIVED. THE GIVEN ROWS OF THIS SEAT. 8 by the template 'for every input the law returns true; each argument reads behind the call as it read before'; 0 by the template 'total and deterministic' (their statements: YteeejjfoghmnpaaTotals.lean).
  GIVEN WITH THE SEED: the statements are not yours to turn. If you find one false, say at which input.
  Laid BY PROGRAM, IN A SANDBOX (cutbox-rows.mjs): the forced cells as the released guide's own fill.sh prints them over the translation ee2c97962194438a… (all of the seat's roots in one cut). By AI agents, Wed Nov 11 2026. No macro, syntax, notation, axiom, sorry.
-/
import Derived.Test.YteeejjfoghmnpaaChecked
import GoSem.Claim
import GoSem.ClaimJoined
import GoSem.ClaimMapViews
import Derived.JoinedTies
import Derived.KernelRfl
namespace Go.Proofs.Yteeejjfoghmnpaa
/- THE CELL 'sum', in the pinned program and in every row, IS THE sha256 OF THE DUMP (.gsa) THAT YteeejjfoghmnpaaProg.lean LOADS. Nothing in Lean hashes anything: it is a label: what it is worth is what the hold of that sum in a sandbox is worth. -/
noncomputable def Try.pinned : Pinned := { name := "yteeejjfoghmnpaa", sum := "ee2c97962194438a37734c46f76479cc5e729ba4c454b35255f0d48c10018d9d", checked := Try.checked }
namespace Rows
def none {H : Type} : Left H := { results := [], args := [] }

/-- 'laws.FnExactDivisorsOf': WHATEVER THE INPUT: true; the input reads as it did. -/
def fnExactDivisorsOfSpec : ChangeSpec := { name := "fnExactDivisorsOf", fn := fun _ => fun
  | [d] => { results := [.lit (.bool true)], args := [d] }
  | _ => none }
def fnExactDivisorsOfRow : OpenClaim := { program := "yteeejjfoghmnpaa", sum := "ee2c97962194438a37734c46f76479cc5e729ba4c454b35255f0d48c10018d9d", func := "loop.example/divisorrows/laws.FnExactDivisorsOf", spec := "fnExactDivisorsOf", apart := false }
def FnExactDivisorsOfSaid : Prop := fnExactDivisorsOfRow.holds Try.pinned (OpenSpec.ofChange fnExactDivisorsOfSpec)

/-- ITS FALSE NEIGHBOUR: 'it returns false'. Refute it at one input. -/
def fnExactDivisorsOfWrong : ChangeSpec := { name := "fnExactDivisorsOf", fn := fun _ => fun
  | [d] => { results := [.lit (.bool false)], args := [d] }
  | _ => none }
def FnExactDivisorsOfWrongFalsely : Prop := fnExactDivisorsOfRow.holds Try.pinned (OpenSpec.ofChange fnExactDivisorsOfWrong)

/-- 'laws.FnPrimeOk': WHATEVER THE INPUT: true; the input reads as it did. -/
def fnPrimeOkSpec : ChangeSpec := { name := "fnPrimeOk", fn := fun _ => fun
  | [d] => { results := [.lit (.bool true)], args := [d] }
  | _ => none }
def fnPrimeOkRow : OpenClaim := { program := "yteeejjfoghmnpaa", sum := "ee2c97962194438a37734c46f76479cc5e729ba4c454b35255f0d48c10018d9d", func := "loop.example/divisorrows/laws.FnPrimeOk", spec := "fnPrimeOk", apart := false }
def FnPrimeOkSaid : Prop := fnPrimeOkRow.holds Try.pinned (OpenSpec.ofChange fnPrimeOkSpec)

/-- ITS FALSE NEIGHBOUR: 'it returns false'. Refute it at one input. -/
def fnPrimeOkWrong : ChangeSpec := { name := "fnPrimeOk", fn := fun _ => fun
  | [d] => { results := [.lit (.bool false)], args := [d] }
  | _ => none }
def FnPrimeOkWrongFalsely : Prop := fnPrimeOkRow.holds Try.pinned (OpenSpec.ofChange fnPrimeOkWrong)

/-- 'laws.FnExactFullyOk': WHATEVER THE INPUT: true; the input reads as it did. -/
def fnExactFullyOkSpec : ChangeSpec := { name := "fnExactFullyOk", fn := fun _ => fun
  | [d] => { results := [.lit (.bool true)], args := [d] }
  | _ => none }
def fnExactFullyOkRow : OpenClaim := { program := "yteeejjfoghmnpaa", sum := "ee2c97962194438a37734c46f76479cc5e729ba4c454b35255f0d48c10018d9d", func := "loop.example/divisorrows/laws.FnExactFullyOk", spec := "fnExactFullyOk", apart := false }
def FnExactFullyOkSaid : Prop := fnExactFullyOkRow.holds Try.pinned (OpenSpec.ofChange fnExactFullyOkSpec)

/-- ITS FALSE NEIGHBOUR: 'it returns false'. Refute it at one input. -/
def fnExactFullyOkWrong : ChangeSpec := { name := "fnExactFullyOk", fn := fun _ => fun
  | [d] => { results := [.lit (.bool false)], args := [d] }
  | _ => none }
def FnExactFullyOkWrongFalsely : Prop := fnExactFullyOkRow.holds Try.pinned (OpenSpec.ofChange fnExactFullyOkWrong)

/-- 'laws.FnDividesOk': WHATEVER THE INPUT: true; the input reads as it did. -/
def fnDividesOkSpec : ChangeSpec := { name := "fnDividesOk", fn := fun _ => fun
  | [d] => { results := [.lit (.bool true)], args := [d] }
  | _ => none }
def fnDividesOkRow : OpenClaim := { program := "yteeejjfoghmnpaa", sum := "ee2c97962194438a37734c46f76479cc5e729ba4c454b35255f0d48c10018d9d", func := "loop.example/divisorrows/laws.FnDividesOk", spec := "fnDividesOk", apart := false }
def FnDividesOkSaid : Prop := fnDividesOkRow.holds Try.pinned (OpenSpec.ofChange fnDividesOkSpec)

/-- ITS FALSE NEIGHBOUR: 'it returns false'. Refute it at one input. -/
def fnDividesOkWrong : ChangeSpec := { name := "fnDividesOk", fn := fun _ => fun
  | [d] => { results := [.lit (.bool false)], args := [d] }
  | _ => none }
def FnDividesOkWrongFalsely : Prop := fnDividesOkRow.holds Try.pinned (OpenSpec.ofChange fnDividesOkWrong)

/-- 'laws.FnApartOk': WHATEVER THE INPUT: true; the input reads as it did. -/
def fnApartOkSpec : ChangeSpec := { name := "fnApartOk", fn := fun _ => fun
  | [d] => { results := [.lit (.bool true)], args := [d] }
  | _ => none }
def fnApartOkRow : OpenClaim := { program := "yteeejjfoghmnpaa", sum := "ee2c97962194438a37734c46f76479cc5e729ba4c454b35255f0d48c10018d9d", func := "loop.example/divisorrows/laws.FnApartOk", spec := "fnApartOk", apart := false }
def FnApartOkSaid : Prop := fnApartOkRow.holds Try.pinned (OpenSpec.ofChange fnApartOkSpec)

/-- ITS FALSE NEIGHBOUR: 'it returns false'. Refute it at one input. -/
def fnApartOkWrong : ChangeSpec := { name := "fnApartOk", fn := fun _ => fun
  | [d] => { results := [.lit (.bool false)], args := [d] }
  | _ => none }
def FnApartOkWrongFalsely : Prop := fnApartOkRow.holds Try.pinned (OpenSpec.ofChange fnApartOkWrong)

/-- 'laws.FnDivisorsOf': WHATEVER THE INPUT: true; the input reads as it did. -/
def fnDivisorsOfSpec : ChangeSpec := { name := "fnDivisorsOf", fn := fun _ => fun
  | [d] => { results := [.lit (.bool true)], args := [d] }
  | _ => none }
def fnDivisorsOfRow : OpenClaim := { program := "yteeejjfoghmnpaa", sum := "ee2c97962194438a37734c46f76479cc5e729ba4c454b35255f0d48c10018d9d", func := "loop.example/divisorrows/laws.FnDivisorsOf", spec := "fnDivisorsOf", apart := false }
def FnDivisorsOfSaid : Prop := fnDivisorsOfRow.holds Try.pinned (OpenSpec.ofChange fnDivisorsOfSpec)

/-- ITS FALSE NEIGHBOUR: 'it returns false'. Refute it at one input. -/
def fnDivisorsOfWrong : ChangeSpec := { name := "fnDivisorsOf", fn := fun _ => fun
  | [d] => { results := [.lit (.bool false)], args := [d] }
  | _ => none }
def FnDivisorsOfWrongFalsely : Prop := fnDivisorsOfRow.holds Try.pinned (OpenSpec.ofChange fnDivisorsOfWrong)

/-- 'laws.FnExactPrimePowers': WHATEVER THE INPUT: true; the input reads as it did. -/
def fnExactPrimePowersSpec : ChangeSpec := { name := "fnExactPrimePowers", fn := fun _ => fun
  | [d] => { results := [.lit (.bool true)], args := [d] }
  | _ => none }
def fnExactPrimePowersRow : OpenClaim := { program := "yteeejjfoghmnpaa", sum := "ee2c97962194438a37734c46f76479cc5e729ba4c454b35255f0d48c10018d9d", func := "loop.example/divisorrows/laws.FnExactPrimePowers", spec := "fnExactPrimePowers", apart := false }
def FnExactPrimePowersSaid : Prop := fnExactPrimePowersRow.holds Try.pinned (OpenSpec.ofChange fnExactPrimePowersSpec)

/-- ITS FALSE NEIGHBOUR: 'it returns false'. Refute it at one input. -/
def fnExactPrimePowersWrong : ChangeSpec := { name := "fnExactPrimePowers", fn := fun _ => fun
  | [d] => { results := [.lit (.bool false)], args := [d] }
  | _ => none }
def FnExactPrimePowersWrongFalsely : Prop := fnExactPrimePowersRow.holds Try.pinned (OpenSpec.ofChange fnExactPrimePowersWrong)

/-- 'laws.FnExactMultiplicativeOk': WHATEVER THE INPUT: true; the input reads as it did. -/
def fnExactMultiplicativeOkSpec : ChangeSpec := { name := "fnExactMultiplicativeOk", fn := fun _ => fun
  | [d] => { results := [.lit (.bool true)], args := [d] }
  | _ => none }
def fnExactMultiplicativeOkRow : OpenClaim := { program := "yteeejjfoghmnpaa", sum := "ee2c97962194438a37734c46f76479cc5e729ba4c454b35255f0d48c10018d9d", func := "loop.example/divisorrows/laws.FnExactMultiplicativeOk", spec := "fnExactMultiplicativeOk", apart := false }
def FnExactMultiplicativeOkSaid : Prop := fnExactMultiplicativeOkRow.holds Try.pinned (OpenSpec.ofChange fnExactMultiplicativeOkSpec)

/-- ITS FALSE NEIGHBOUR: 'it returns false'. Refute it at one input. -/
def fnExactMultiplicativeOkWrong : ChangeSpec := { name := "fnExactMultiplicativeOk", fn := fun _ => fun
  | [d] => { results := [.lit (.bool false)], args := [d] }
  | _ => none }
def FnExactMultiplicativeOkWrongFalsely : Prop := fnExactMultiplicativeOkRow.holds Try.pinned (OpenSpec.ofChange fnExactMultiplicativeOkWrong)

/- THE SECOND FORM. 'bulk': how many values and letters a reading holds, each counted each time it is reached (what is shared counts as often as it is met; a slice's spare places count too). A statement '..UptoSaid' is the law's where the arguments, and the package variables that the reading takes, are together of bulk at most 1048576: NARROWER than '..Said'. Prove '..Said' where nothing that the law and all that it calls make is longer than what came in: it says more and counts as full. Else prove '..UptoSaid'. A law counts once. -/
mutual
def uptoBulk {H : Type} : DataW H → Nat
  | .lit (.string bytes) => bytes.length + 1
  | .lit _ => 1
  | .nil => 1
  | .ptr d => uptoBulk d + 1
  | .slice elems spare => uptoBulkAll elems + uptoBulkAll spare + 1
  | .agg parts => uptoBulkAll parts + 1
  | .iface _ d => uptoBulk d + 1
  | .map entries => uptoBulkEntries entries + 1
  | .held _ => 1
def uptoBulkAll {H : Type} : List (DataW H) → Nat
  | [] => 0
  | d :: r => uptoBulk d + uptoBulkAll r
def uptoBulkEntries {H : Type} : List (Lit × DataW H) → Nat
  | [] => 0
  | x :: r => uptoBulkEntry x + uptoBulkEntries r
def uptoBulkEntry {H : Type} : Lit × DataW H → Nat
  | (.string bytes, d) => bytes.length + uptoBulk d + 1
  | (_, d) => uptoBulk d + 1
 end
def uptoSmall : (H : Type) → List (DataW H) → Bool := fun _ ds => decide (uptoBulkAll ds ≤ 1048576)
def OpenSpec.upto (s : _root_.Go.ChangeSpec) : _root_.Go.OpenSpec := { _root_.Go.OpenSpec.ofChange s with cond := some uptoSmall }

/-- 'laws.FnExactDivisorsOf', WHERE WHAT IT READS IS OF BULK AT MOST 1048576: true; the input reads as it did. -/
def fnExactDivisorsOfUptoRow : OpenClaim := { program := "yteeejjfoghmnpaa", sum := "ee2c97962194438a37734c46f76479cc5e729ba4c454b35255f0d48c10018d9d", func := "loop.example/divisorrows/laws.FnExactDivisorsOf", spec := "fnExactDivisorsOf", apart := false, narrowed := true }
def FnExactDivisorsOfUptoSaid : Prop := fnExactDivisorsOfUptoRow.holds Try.pinned (OpenSpec.upto fnExactDivisorsOfSpec)

/-- 'laws.FnPrimeOk', WHERE WHAT IT READS IS OF BULK AT MOST 1048576: true; the input reads as it did. -/
def fnPrimeOkUptoRow : OpenClaim := { program := "yteeejjfoghmnpaa", sum := "ee2c97962194438a37734c46f76479cc5e729ba4c454b35255f0d48c10018d9d", func := "loop.example/divisorrows/laws.FnPrimeOk", spec := "fnPrimeOk", apart := false, narrowed := true }
def FnPrimeOkUptoSaid : Prop := fnPrimeOkUptoRow.holds Try.pinned (OpenSpec.upto fnPrimeOkSpec)

/-- 'laws.FnExactFullyOk', WHERE WHAT IT READS IS OF BULK AT MOST 1048576: true; the input reads as it did. -/
def fnExactFullyOkUptoRow : OpenClaim := { program := "yteeejjfoghmnpaa", sum := "ee2c97962194438a37734c46f76479cc5e729ba4c454b35255f0d48c10018d9d", func := "loop.example/divisorrows/laws.FnExactFullyOk", spec := "fnExactFullyOk", apart := false, narrowed := true }
def FnExactFullyOkUptoSaid : Prop := fnExactFullyOkUptoRow.holds Try.pinned (OpenSpec.upto fnExactFullyOkSpec)

/-- 'laws.FnDividesOk', WHERE WHAT IT READS IS OF BULK AT MOST 1048576: true; the input reads as it did. -/
def fnDividesOkUptoRow : OpenClaim := { program := "yteeejjfoghmnpaa", sum := "ee2c97962194438a37734c46f76479cc5e729ba4c454b35255f0d48c10018d9d", func := "loop.example/divisorrows/laws.FnDividesOk", spec := "fnDividesOk", apart := false, narrowed := true }
def FnDividesOkUptoSaid : Prop := fnDividesOkUptoRow.holds Try.pinned (OpenSpec.upto fnDividesOkSpec)

/-- 'laws.FnApartOk', WHERE WHAT IT READS IS OF BULK AT MOST 1048576: true; the input reads as it did. -/
def fnApartOkUptoRow : OpenClaim := { program := "yteeejjfoghmnpaa", sum := "ee2c97962194438a37734c46f76479cc5e729ba4c454b35255f0d48c10018d9d", func := "loop.example/divisorrows/laws.FnApartOk", spec := "fnApartOk", apart := false, narrowed := true }
def FnApartOkUptoSaid : Prop := fnApartOkUptoRow.holds Try.pinned (OpenSpec.upto fnApartOkSpec)

/-- 'laws.FnDivisorsOf', WHERE WHAT IT READS IS OF BULK AT MOST 1048576: true; the input reads as it did. -/
def fnDivisorsOfUptoRow : OpenClaim := { program := "yteeejjfoghmnpaa", sum := "ee2c97962194438a37734c46f76479cc5e729ba4c454b35255f0d48c10018d9d", func := "loop.example/divisorrows/laws.FnDivisorsOf", spec := "fnDivisorsOf", apart := false, narrowed := true }
def FnDivisorsOfUptoSaid : Prop := fnDivisorsOfUptoRow.holds Try.pinned (OpenSpec.upto fnDivisorsOfSpec)

/-- 'laws.FnExactPrimePowers', WHERE WHAT IT READS IS OF BULK AT MOST 1048576: true; the input reads as it did. -/
def fnExactPrimePowersUptoRow : OpenClaim := { program := "yteeejjfoghmnpaa", sum := "ee2c97962194438a37734c46f76479cc5e729ba4c454b35255f0d48c10018d9d", func := "loop.example/divisorrows/laws.FnExactPrimePowers", spec := "fnExactPrimePowers", apart := false, narrowed := true }
def FnExactPrimePowersUptoSaid : Prop := fnExactPrimePowersUptoRow.holds Try.pinned (OpenSpec.upto fnExactPrimePowersSpec)

/-- 'laws.FnExactMultiplicativeOk', WHERE WHAT IT READS IS OF BULK AT MOST 1048576: true; the input reads as it did. -/
def fnExactMultiplicativeOkUptoRow : OpenClaim := { program := "yteeejjfoghmnpaa", sum := "ee2c97962194438a37734c46f76479cc5e729ba4c454b35255f0d48c10018d9d", func := "loop.example/divisorrows/laws.FnExactMultiplicativeOk", spec := "fnExactMultiplicativeOk", apart := false, narrowed := true }
def FnExactMultiplicativeOkUptoSaid : Prop := fnExactMultiplicativeOkUptoRow.holds Try.pinned (OpenSpec.upto fnExactMultiplicativeOkSpec)

end Rows
end Go.Proofs.Yteeejjfoghmnpaa
