/-
  No cell of these rows narrows 'for every input' (looked for: loops, veiled, ifaces, maps, wideKeys, modest, calm, conditions, laid).
  DERIVED. THE GIVEN ROWS OF THIS SEAT. 8 by the template 'for every input the law returns true; each argument reads behind the call as it read before'; 0 by the template 'total and deterministic' (their statements: YtkelbmnbcfjgkaaTotals.lean).
  GIVEN WITH THE SEED: the statements are not yours to turn. If you find one false, say at which input.
  Laid BY PROGRAM, IN A SANDBOX (cutbox-rows.mjs): the forced cells as the released guide's own fill.sh prints them over the translation b0386b15f49e00f5… (all of the seat's roots in one cut). By AI agents, Wed Nov 11 2026. No macro, syntax, notation, axiom, sorry.
-/
import Derived.Test.YtkelbmnbcfjgkaaChecked
import GoSem.Claim
import GoSem.ClaimJoined
import GoSem.ClaimMapViews
import Derived.JoinedTies
import Derived.KernelRfl
namespace Go.Proofs.Ytkelbmnbcfjgkaa
/- THE CELL 'sum', in the pinned program and in every row, IS THE sha256 OF THE DUMP (.gsa) THAT YtkelbmnbcfjgkaaProg.lean LOADS. Nothing in Lean hashes anything: it is a label: what it is worth is what the hold of that sum in a sandbox is worth. -/
noncomputable def Try.pinned : Pinned := { name := "ytkelbmnbcfjgkaa", sum := "b0386b15f49e00f500942f24b99c91c83d5ca55784963544c136d7ac75b09819", checked := Try.checked }
namespace Rows
def none {H : Type} : Left H := { results := [], args := [] }

/-- 'laws.FnExactConstants': WHATEVER THE INPUT: true; the input reads as it did. -/
def fnExactConstantsSpec : ChangeSpec := { name := "fnExactConstants", fn := fun _ => fun
  | [] => { results := [.lit (.bool true)], args := [] }
  | _ => none }
def fnExactConstantsRow : OpenClaim := { program := "ytkelbmnbcfjgkaa", sum := "b0386b15f49e00f500942f24b99c91c83d5ca55784963544c136d7ac75b09819", func := "loop.example/divisorrows/laws.FnExactConstants", spec := "fnExactConstants", apart := false }
def FnExactConstantsSaid : Prop := fnExactConstantsRow.holds Try.pinned (OpenSpec.ofChange fnExactConstantsSpec)

/-- ITS FALSE NEIGHBOUR: 'it returns false'. Refute it at one input. -/
def fnExactConstantsWrong : ChangeSpec := { name := "fnExactConstants", fn := fun _ => fun
  | [] => { results := [.lit (.bool false)], args := [] }
  | _ => none }
def FnExactConstantsWrongFalsely : Prop := fnExactConstantsRow.holds Try.pinned (OpenSpec.ofChange fnExactConstantsWrong)

/-- 'laws.FnExactDividesOk': WHATEVER THE INPUT: true; the input reads as it did. -/
def fnExactDividesOkSpec : ChangeSpec := { name := "fnExactDividesOk", fn := fun _ => fun
  | [d1, d2] => { results := [.lit (.bool true)], args := [d1, d2] }
  | _ => none }
def fnExactDividesOkRow : OpenClaim := { program := "ytkelbmnbcfjgkaa", sum := "b0386b15f49e00f500942f24b99c91c83d5ca55784963544c136d7ac75b09819", func := "loop.example/divisorrows/laws.FnExactDividesOk", spec := "fnExactDividesOk", apart := false }
def FnExactDividesOkSaid : Prop := fnExactDividesOkRow.holds Try.pinned (OpenSpec.ofChange fnExactDividesOkSpec)

/-- ITS FALSE NEIGHBOUR: 'it returns false'. Refute it at one input. -/
def fnExactDividesOkWrong : ChangeSpec := { name := "fnExactDividesOk", fn := fun _ => fun
  | [d1, d2] => { results := [.lit (.bool false)], args := [d1, d2] }
  | _ => none }
def FnExactDividesOkWrongFalsely : Prop := fnExactDividesOkRow.holds Try.pinned (OpenSpec.ofChange fnExactDividesOkWrong)

/-- 'laws.FnExactCommonOf': WHATEVER THE INPUT: true; the input reads as it did. -/
def fnExactCommonOfSpec : ChangeSpec := { name := "fnExactCommonOf", fn := fun _ => fun
  | [d1, d2] => { results := [.lit (.bool true)], args := [d1, d2] }
  | _ => none }
def fnExactCommonOfRow : OpenClaim := { program := "ytkelbmnbcfjgkaa", sum := "b0386b15f49e00f500942f24b99c91c83d5ca55784963544c136d7ac75b09819", func := "loop.example/divisorrows/laws.FnExactCommonOf", spec := "fnExactCommonOf", apart := false }
def FnExactCommonOfSaid : Prop := fnExactCommonOfRow.holds Try.pinned (OpenSpec.ofChange fnExactCommonOfSpec)

/-- ITS FALSE NEIGHBOUR: 'it returns false'. Refute it at one input. -/
def fnExactCommonOfWrong : ChangeSpec := { name := "fnExactCommonOf", fn := fun _ => fun
  | [d1, d2] => { results := [.lit (.bool false)], args := [d1, d2] }
  | _ => none }
def FnExactCommonOfWrongFalsely : Prop := fnExactCommonOfRow.holds Try.pinned (OpenSpec.ofChange fnExactCommonOfWrong)

/-- 'laws.FnExactPrimeOk': WHATEVER THE INPUT: true; the input reads as it did. -/
def fnExactPrimeOkSpec : ChangeSpec := { name := "fnExactPrimeOk", fn := fun _ => fun
  | [d] => { results := [.lit (.bool true)], args := [d] }
  | _ => none }
def fnExactPrimeOkRow : OpenClaim := { program := "ytkelbmnbcfjgkaa", sum := "b0386b15f49e00f500942f24b99c91c83d5ca55784963544c136d7ac75b09819", func := "loop.example/divisorrows/laws.FnExactPrimeOk", spec := "fnExactPrimeOk", apart := false }
def FnExactPrimeOkSaid : Prop := fnExactPrimeOkRow.holds Try.pinned (OpenSpec.ofChange fnExactPrimeOkSpec)

/-- ITS FALSE NEIGHBOUR: 'it returns false'. Refute it at one input. -/
def fnExactPrimeOkWrong : ChangeSpec := { name := "fnExactPrimeOk", fn := fun _ => fun
  | [d] => { results := [.lit (.bool false)], args := [d] }
  | _ => none }
def FnExactPrimeOkWrongFalsely : Prop := fnExactPrimeOkRow.holds Try.pinned (OpenSpec.ofChange fnExactPrimeOkWrong)

/-- 'laws.FnExactApartOk': WHATEVER THE INPUT: true; the input reads as it did. -/
def fnExactApartOkSpec : ChangeSpec := { name := "fnExactApartOk", fn := fun _ => fun
  | [d1, d2] => { results := [.lit (.bool true)], args := [d1, d2] }
  | _ => none }
def fnExactApartOkRow : OpenClaim := { program := "ytkelbmnbcfjgkaa", sum := "b0386b15f49e00f500942f24b99c91c83d5ca55784963544c136d7ac75b09819", func := "loop.example/divisorrows/laws.FnExactApartOk", spec := "fnExactApartOk", apart := false }
def FnExactApartOkSaid : Prop := fnExactApartOkRow.holds Try.pinned (OpenSpec.ofChange fnExactApartOkSpec)

/-- ITS FALSE NEIGHBOUR: 'it returns false'. Refute it at one input. -/
def fnExactApartOkWrong : ChangeSpec := { name := "fnExactApartOk", fn := fun _ => fun
  | [d1, d2] => { results := [.lit (.bool false)], args := [d1, d2] }
  | _ => none }
def FnExactApartOkWrongFalsely : Prop := fnExactApartOkRow.holds Try.pinned (OpenSpec.ofChange fnExactApartOkWrong)

/-- 'laws.FnExactRowOk': WHATEVER THE INPUT: true; the input reads as it did. -/
def fnExactRowOkSpec : ChangeSpec := { name := "fnExactRowOk", fn := fun _ => fun
  | [d] => { results := [.lit (.bool true)], args := [d] }
  | _ => none }
def fnExactRowOkRow : OpenClaim := { program := "ytkelbmnbcfjgkaa", sum := "b0386b15f49e00f500942f24b99c91c83d5ca55784963544c136d7ac75b09819", func := "loop.example/divisorrows/laws.FnExactRowOk", spec := "fnExactRowOk", apart := false }
def FnExactRowOkSaid : Prop := fnExactRowOkRow.holds Try.pinned (OpenSpec.ofChange fnExactRowOkSpec)

/-- ITS FALSE NEIGHBOUR: 'it returns false'. Refute it at one input. -/
def fnExactRowOkWrong : ChangeSpec := { name := "fnExactRowOk", fn := fun _ => fun
  | [d] => { results := [.lit (.bool false)], args := [d] }
  | _ => none }
def FnExactRowOkWrongFalsely : Prop := fnExactRowOkRow.holds Try.pinned (OpenSpec.ofChange fnExactRowOkWrong)

/-- 'laws.FnExactUnitOk': WHATEVER THE INPUT: true; the input reads as it did. -/
def fnExactUnitOkSpec : ChangeSpec := { name := "fnExactUnitOk", fn := fun _ => fun
  | [d] => { results := [.lit (.bool true)], args := [d] }
  | _ => none }
def fnExactUnitOkRow : OpenClaim := { program := "ytkelbmnbcfjgkaa", sum := "b0386b15f49e00f500942f24b99c91c83d5ca55784963544c136d7ac75b09819", func := "loop.example/divisorrows/laws.FnExactUnitOk", spec := "fnExactUnitOk", apart := false }
def FnExactUnitOkSaid : Prop := fnExactUnitOkRow.holds Try.pinned (OpenSpec.ofChange fnExactUnitOkSpec)

/-- ITS FALSE NEIGHBOUR: 'it returns false'. Refute it at one input. -/
def fnExactUnitOkWrong : ChangeSpec := { name := "fnExactUnitOk", fn := fun _ => fun
  | [d] => { results := [.lit (.bool false)], args := [d] }
  | _ => none }
def FnExactUnitOkWrongFalsely : Prop := fnExactUnitOkRow.holds Try.pinned (OpenSpec.ofChange fnExactUnitOkWrong)

/-- 'laws.FnCommonOf': WHATEVER THE INPUT: true; the input reads as it did. -/
def fnCommonOfSpec : ChangeSpec := { name := "fnCommonOf", fn := fun _ => fun
  | [d] => { results := [.lit (.bool true)], args := [d] }
  | _ => none }
def fnCommonOfRow : OpenClaim := { program := "ytkelbmnbcfjgkaa", sum := "b0386b15f49e00f500942f24b99c91c83d5ca55784963544c136d7ac75b09819", func := "loop.example/divisorrows/laws.FnCommonOf", spec := "fnCommonOf", apart := false }
def FnCommonOfSaid : Prop := fnCommonOfRow.holds Try.pinned (OpenSpec.ofChange fnCommonOfSpec)

/-- ITS FALSE NEIGHBOUR: 'it returns false'. Refute it at one input. -/
def fnCommonOfWrong : ChangeSpec := { name := "fnCommonOf", fn := fun _ => fun
  | [d] => { results := [.lit (.bool false)], args := [d] }
  | _ => none }
def FnCommonOfWrongFalsely : Prop := fnCommonOfRow.holds Try.pinned (OpenSpec.ofChange fnCommonOfWrong)

/- THE SECOND FORM. 'bulk': how many values and letters a reading holds, each counted each time it is reached (what is shared counts as often as it is met; a slice's spare places count too). A statement '..UptoSaid' is the law's where the arguments, and the package variables that the reading takes, are together of bulk at most 1048576: NARROWER than '..Said'. Prove '..Said' where nothing that the law and all that it calls make is longer than what came in: it says more and counts as full. Else prove '..UptoSaid'. A law counts once. -/
mutual
def uptoBulk {H : Type} : DataW H → Nat
  | .lit (.string bytes) => bytes.length + 1
  | .lit _ => 1
  | .nil => 1
  | .ptr d => uptoBulk d + 1
  | .slice elems spare => uptoBulkAll elems + uptoBulkAll spare + 1
  | .agg parts => uptoBulkAll parts + 1
  | .iface _ d => uptoBulk d + 1
  | .map entries => uptoBulkEntries entries + 1
  | .held _ => 1
def uptoBulkAll {H : Type} : List (DataW H) → Nat
  | [] => 0
  | d :: r => uptoBulk d + uptoBulkAll r
def uptoBulkEntries {H : Type} : List (Lit × DataW H) → Nat
  | [] => 0
  | x :: r => uptoBulkEntry x + uptoBulkEntries r
def uptoBulkEntry {H : Type} : Lit × DataW H → Nat
  | (.string bytes, d) => bytes.length + uptoBulk d + 1
  | (_, d) => uptoBulk d + 1
 end
def uptoSmall : (H : Type) → List (DataW H) → Bool := fun _ ds => decide (uptoBulkAll ds ≤ 1048576)
def OpenSpec.upto (s : _root_.Go.ChangeSpec) : _root_.Go.OpenSpec := { _root_.Go.OpenSpec.ofChange s with cond := some uptoSmall }

/-- 'laws.FnExactConstants', WHERE WHAT IT READS IS OF BULK AT MOST 1048576: true; the input reads as it did. -/
def fnExactConstantsUptoRow : OpenClaim := { program := "ytkelbmnbcfjgkaa", sum := "b0386b15f49e00f500942f24b99c91c83d5ca55784963544c136d7ac75b09819", func := "loop.example/divisorrows/laws.FnExactConstants", spec := "fnExactConstants", apart := false, narrowed := true }
def FnExactConstantsUptoSaid : Prop := fnExactConstantsUptoRow.holds Try.pinned (OpenSpec.upto fnExactConstantsSpec)

/-- 'laws.FnExactDividesOk', WHERE WHAT IT READS IS OF BULK AT MOST 1048576: true; the input reads as it did. -/
def fnExactDividesOkUptoRow : OpenClaim := { program := "ytkelbmnbcfjgkaa", sum := "b0386b15f49e00f500942f24b99c91c83d5ca55784963544c136d7ac75b09819", func := "loop.example/divisorrows/laws.FnExactDividesOk", spec := "fnExactDividesOk", apart := false, narrowed := true }
def FnExactDividesOkUptoSaid : Prop := fnExactDividesOkUptoRow.holds Try.pinned (OpenSpec.upto fnExactDividesOkSpec)

/-- 'laws.FnExactCommonOf', WHERE WHAT IT READS IS OF BULK AT MOST 1048576: true; the input reads as it did. -/
def fnExactCommonOfUptoRow : OpenClaim := { program := "ytkelbmnbcfjgkaa", sum := "b0386b15f49e00f500942f24b99c91c83d5ca55784963544c136d7ac75b09819", func := "loop.example/divisorrows/laws.FnExactCommonOf", spec := "fnExactCommonOf", apart := false, narrowed := true }
def FnExactCommonOfUptoSaid : Prop := fnExactCommonOfUptoRow.holds Try.pinned (OpenSpec.upto fnExactCommonOfSpec)

/-- 'laws.FnExactPrimeOk', WHERE WHAT IT READS IS OF BULK AT MOST 1048576: true; the input reads as it did. -/
def fnExactPrimeOkUptoRow : OpenClaim := { program := "ytkelbmnbcfjgkaa", sum := "b0386b15f49e00f500942f24b99c91c83d5ca55784963544c136d7ac75b09819", func := "loop.example/divisorrows/laws.FnExactPrimeOk", spec := "fnExactPrimeOk", apart := false, narrowed := true }
def FnExactPrimeOkUptoSaid : Prop := fnExactPrimeOkUptoRow.holds Try.pinned (OpenSpec.upto fnExactPrimeOkSpec)

/-- 'laws.FnExactApartOk', WHERE WHAT IT READS IS OF BULK AT MOST 1048576: true; the input reads as it did. -/
def fnExactApartOkUptoRow : OpenClaim := { program := "ytkelbmnbcfjgkaa", sum := "b0386b15f49e00f500942f24b99c91c83d5ca55784963544c136d7ac75b09819", func := "loop.example/divisorrows/laws.FnExactApartOk", spec := "fnExactApartOk", apart := false, narrowed := true }
def FnExactApartOkUptoSaid : Prop := fnExactApartOkUptoRow.holds Try.pinned (OpenSpec.upto fnExactApartOkSpec)

/-- 'laws.FnExactRowOk', WHERE WHAT IT READS IS OF BULK AT MOST 1048576: true; the input reads as it did. -/
def fnExactRowOkUptoRow : OpenClaim := { program := "ytkelbmnbcfjgkaa", sum := "b0386b15f49e00f500942f24b99c91c83d5ca55784963544c136d7ac75b09819", func := "loop.example/divisorrows/laws.FnExactRowOk", spec := "fnExactRowOk", apart := false, narrowed := true }
def FnExactRowOkUptoSaid : Prop := fnExactRowOkUptoRow.holds Try.pinned (OpenSpec.upto fnExactRowOkSpec)

/-- 'laws.FnExactUnitOk', WHERE WHAT IT READS IS OF BULK AT MOST 1048576: true; the input reads as it did. -/
def fnExactUnitOkUptoRow : OpenClaim := { program := "ytkelbmnbcfjgkaa", sum := "b0386b15f49e00f500942f24b99c91c83d5ca55784963544c136d7ac75b09819", func := "loop.example/divisorrows/laws.FnExactUnitOk", spec := "fnExactUnitOk", apart := false, narrowed := true }
def FnExactUnitOkUptoSaid : Prop := fnExactUnitOkUptoRow.holds Try.pinned (OpenSpec.upto fnExactUnitOkSpec)

/-- 'laws.FnCommonOf', WHERE WHAT IT READS IS OF BULK AT MOST 1048576: true; the input reads as it did. -/
def fnCommonOfUptoRow : OpenClaim := { program := "ytkelbmnbcfjgkaa", sum := "b0386b15f49e00f500942f24b99c91c83d5ca55784963544c136d7ac75b09819", func := "loop.example/divisorrows/laws.FnCommonOf", spec := "fnCommonOf", apart := false, narrowed := true }
def FnCommonOfUptoSaid : Prop := fnCommonOfUptoRow.holds Try.pinned (OpenSpec.upto fnCommonOfSpec)

end Rows
end Go.Proofs.Ytkelbmnbcfjgkaa
