/-
  No cell of these rows narrows 'for every input' (looked for: loops, veiled, ifaces, maps, wideKeys, modest, calm, conditions, laid).
  DERIVED. THE GIVEN ROWS OF THIS SEAT. 11 by the template 'for every input the law returns true; each argument reads behind the call as it read before'; 0 by the template 'total and deterministic' (their statements: YteebmpbhhpmhbaaTotals.lean).
  GIVEN WITH THE SEED: the statements are not yours to turn. If you find one false, say at which input.
  Laid BY PROGRAM, IN A SANDBOX (cutbox-rows.mjs): the forced cells as the released guide's own fill.sh prints them over the translation 388ca00cc9ac1934… (all of the seat's roots in one cut). By AI agents, Wed Nov 11 2026. No macro, syntax, notation, axiom, sorry.
-/
import Derived.Test.YteebmpbhhpmhbaaChecked
import GoSem.Claim
import GoSem.ClaimJoined
import GoSem.ClaimMapViews
import Derived.JoinedTies
import Derived.KernelRfl
namespace Go.Proofs.Yteebmpbhhpmhbaa
/- THE CELL 'sum', in the pinned program and in every row, IS THE sha256 OF THE DUMP (.gsa) THAT YteebmpbhhpmhbaaProg.lean LOADS. Nothing in Lean hashes anything: it is a label: what it is worth is what the hold of that sum in a sandbox is worth. -/
noncomputable def Try.pinned : Pinned := { name := "yteebmpbhhpmhbaa", sum := "388ca00cc9ac1934a29fea8ea2947d519de104850881563a25dd761d5786ff10", checked := Try.checked }
namespace Rows
def none {H : Type} : Left H := { results := [], args := [] }

/-- 'laws.FnDividedOf': WHATEVER THE INPUT: true; the input reads as it did. -/
def fnDividedOfSpec : ChangeSpec := { name := "fnDividedOf", fn := fun _ => fun
  | [d] => { results := [.lit (.bool true)], args := [d] }
  | _ => none }
def fnDividedOfRow : OpenClaim := { program := "yteebmpbhhpmhbaa", sum := "388ca00cc9ac1934a29fea8ea2947d519de104850881563a25dd761d5786ff10", func := "loop.example/divisorrows/laws.FnDividedOf", spec := "fnDividedOf", unfollowed := true, recurses := true, apart := false }
def FnDividedOfSaid : Prop := fnDividedOfRow.holds Try.pinned (OpenSpec.ofChange fnDividedOfSpec)

/-- ITS FALSE NEIGHBOUR: 'it returns false'. Refute it at one input. -/
def fnDividedOfWrong : ChangeSpec := { name := "fnDividedOf", fn := fun _ => fun
  | [d] => { results := [.lit (.bool false)], args := [d] }
  | _ => none }
def FnDividedOfWrongFalsely : Prop := fnDividedOfRow.holds Try.pinned (OpenSpec.ofChange fnDividedOfWrong)

/-- 'laws.FnExactPowerOf': WHATEVER THE INPUT: true; the input reads as it did. -/
def fnExactPowerOfSpec : ChangeSpec := { name := "fnExactPowerOf", fn := fun _ => fun
  | [d1, d2] => { results := [.lit (.bool true)], args := [d1, d2] }
  | _ => none }
def fnExactPowerOfRow : OpenClaim := { program := "yteebmpbhhpmhbaa", sum := "388ca00cc9ac1934a29fea8ea2947d519de104850881563a25dd761d5786ff10", func := "loop.example/divisorrows/laws.FnExactPowerOf", spec := "fnExactPowerOf", unfollowed := true, recurses := true, apart := false }
def FnExactPowerOfSaid : Prop := fnExactPowerOfRow.holds Try.pinned (OpenSpec.ofChange fnExactPowerOfSpec)

/-- ITS FALSE NEIGHBOUR: 'it returns false'. Refute it at one input. -/
def fnExactPowerOfWrong : ChangeSpec := { name := "fnExactPowerOf", fn := fun _ => fun
  | [d1, d2] => { results := [.lit (.bool false)], args := [d1, d2] }
  | _ => none }
def FnExactPowerOfWrongFalsely : Prop := fnExactPowerOfRow.holds Try.pinned (OpenSpec.ofChange fnExactPowerOfWrong)

/-- 'laws.FnUnitOk': WHATEVER THE INPUT: true; the input reads as it did. -/
def fnUnitOkSpec : ChangeSpec := { name := "fnUnitOk", fn := fun _ => fun
  | [d1, d2] => { results := [.lit (.bool true)], args := [d1, d2] }
  | _ => none }
def fnUnitOkRow : OpenClaim := { program := "yteebmpbhhpmhbaa", sum := "388ca00cc9ac1934a29fea8ea2947d519de104850881563a25dd761d5786ff10", func := "loop.example/divisorrows/laws.FnUnitOk", spec := "fnUnitOk", unfollowed := true, recurses := true, apart := false }
def FnUnitOkSaid : Prop := fnUnitOkRow.holds Try.pinned (OpenSpec.ofChange fnUnitOkSpec)

/-- ITS FALSE NEIGHBOUR: 'it returns false'. Refute it at one input. -/
def fnUnitOkWrong : ChangeSpec := { name := "fnUnitOk", fn := fun _ => fun
  | [d1, d2] => { results := [.lit (.bool false)], args := [d1, d2] }
  | _ => none }
def FnUnitOkWrongFalsely : Prop := fnUnitOkRow.holds Try.pinned (OpenSpec.ofChange fnUnitOkWrong)

/-- 'laws.FnExactInverseOf': WHATEVER THE INPUT: true; the input reads as it did. -/
def fnExactInverseOfSpec : ChangeSpec := { name := "fnExactInverseOf", fn := fun _ => fun
  | [d] => { results := [.lit (.bool true)], args := [d] }
  | _ => none }
def fnExactInverseOfRow : OpenClaim := { program := "yteebmpbhhpmhbaa", sum := "388ca00cc9ac1934a29fea8ea2947d519de104850881563a25dd761d5786ff10", func := "loop.example/divisorrows/laws.FnExactInverseOf", spec := "fnExactInverseOf", unfollowed := true, recurses := true, apart := false }
def FnExactInverseOfSaid : Prop := fnExactInverseOfRow.holds Try.pinned (OpenSpec.ofChange fnExactInverseOfSpec)

/-- ITS FALSE NEIGHBOUR: 'it returns false'. Refute it at one input. -/
def fnExactInverseOfWrong : ChangeSpec := { name := "fnExactInverseOf", fn := fun _ => fun
  | [d] => { results := [.lit (.bool false)], args := [d] }
  | _ => none }
def FnExactInverseOfWrongFalsely : Prop := fnExactInverseOfRow.holds Try.pinned (OpenSpec.ofChange fnExactInverseOfWrong)

/-- 'laws.FnPointwiseOf': WHATEVER THE INPUT: true; the input reads as it did. -/
def fnPointwiseOfSpec : ChangeSpec := { name := "fnPointwiseOf", fn := fun _ => fun
  | [d] => { results := [.lit (.bool true)], args := [d] }
  | _ => none }
def fnPointwiseOfRow : OpenClaim := { program := "yteebmpbhhpmhbaa", sum := "388ca00cc9ac1934a29fea8ea2947d519de104850881563a25dd761d5786ff10", func := "loop.example/divisorrows/laws.FnPointwiseOf", spec := "fnPointwiseOf", unfollowed := true, recurses := true, apart := false }
def FnPointwiseOfSaid : Prop := fnPointwiseOfRow.holds Try.pinned (OpenSpec.ofChange fnPointwiseOfSpec)

/-- ITS FALSE NEIGHBOUR: 'it returns false'. Refute it at one input. -/
def fnPointwiseOfWrong : ChangeSpec := { name := "fnPointwiseOf", fn := fun _ => fun
  | [d] => { results := [.lit (.bool false)], args := [d] }
  | _ => none }
def FnPointwiseOfWrongFalsely : Prop := fnPointwiseOfRow.holds Try.pinned (OpenSpec.ofChange fnPointwiseOfWrong)

/-- 'laws.FnTimesOf': WHATEVER THE INPUT: true; the input reads as it did. -/
def fnTimesOfSpec : ChangeSpec := { name := "fnTimesOf", fn := fun _ => fun
  | [d1, d2] => { results := [.lit (.bool true)], args := [d1, d2] }
  | _ => none }
def fnTimesOfRow : OpenClaim := { program := "yteebmpbhhpmhbaa", sum := "388ca00cc9ac1934a29fea8ea2947d519de104850881563a25dd761d5786ff10", func := "loop.example/divisorrows/laws.FnTimesOf", spec := "fnTimesOf", unfollowed := true, recurses := true, apart := false }
def FnTimesOfSaid : Prop := fnTimesOfRow.holds Try.pinned (OpenSpec.ofChange fnTimesOfSpec)

/-- ITS FALSE NEIGHBOUR: 'it returns false'. Refute it at one input. -/
def fnTimesOfWrong : ChangeSpec := { name := "fnTimesOf", fn := fun _ => fun
  | [d1, d2] => { results := [.lit (.bool false)], args := [d1, d2] }
  | _ => none }
def FnTimesOfWrongFalsely : Prop := fnTimesOfRow.holds Try.pinned (OpenSpec.ofChange fnTimesOfWrong)

/-- 'laws.FnPowerOf': WHATEVER THE INPUT: true; the input reads as it did. -/
def fnPowerOfSpec : ChangeSpec := { name := "fnPowerOf", fn := fun _ => fun
  | [d] => { results := [.lit (.bool true)], args := [d] }
  | _ => none }
def fnPowerOfRow : OpenClaim := { program := "yteebmpbhhpmhbaa", sum := "388ca00cc9ac1934a29fea8ea2947d519de104850881563a25dd761d5786ff10", func := "loop.example/divisorrows/laws.FnPowerOf", spec := "fnPowerOf", unfollowed := true, recurses := true, apart := false }
def FnPowerOfSaid : Prop := fnPowerOfRow.holds Try.pinned (OpenSpec.ofChange fnPowerOfSpec)

/-- ITS FALSE NEIGHBOUR: 'it returns false'. Refute it at one input. -/
def fnPowerOfWrong : ChangeSpec := { name := "fnPowerOf", fn := fun _ => fun
  | [d] => { results := [.lit (.bool false)], args := [d] }
  | _ => none }
def FnPowerOfWrongFalsely : Prop := fnPowerOfRow.holds Try.pinned (OpenSpec.ofChange fnPowerOfWrong)

/-- 'laws.FnInverseOf': WHATEVER THE INPUT: true; the input reads as it did. -/
def fnInverseOfSpec : ChangeSpec := { name := "fnInverseOf", fn := fun _ => fun
  | [d] => { results := [.lit (.bool true)], args := [d] }
  | _ => none }
def fnInverseOfRow : OpenClaim := { program := "yteebmpbhhpmhbaa", sum := "388ca00cc9ac1934a29fea8ea2947d519de104850881563a25dd761d5786ff10", func := "loop.example/divisorrows/laws.FnInverseOf", spec := "fnInverseOf", unfollowed := true, recurses := true, apart := false }
def FnInverseOfSaid : Prop := fnInverseOfRow.holds Try.pinned (OpenSpec.ofChange fnInverseOfSpec)

/-- ITS FALSE NEIGHBOUR: 'it returns false'. Refute it at one input. -/
def fnInverseOfWrong : ChangeSpec := { name := "fnInverseOf", fn := fun _ => fun
  | [d] => { results := [.lit (.bool false)], args := [d] }
  | _ => none }
def FnInverseOfWrongFalsely : Prop := fnInverseOfRow.holds Try.pinned (OpenSpec.ofChange fnInverseOfWrong)

/-- 'laws.FnFullyOk': WHATEVER THE INPUT: true; the input reads as it did. -/
def fnFullyOkSpec : ChangeSpec := { name := "fnFullyOk", fn := fun _ => fun
  | [d] => { results := [.lit (.bool true)], args := [d] }
  | _ => none }
def fnFullyOkRow : OpenClaim := { program := "yteebmpbhhpmhbaa", sum := "388ca00cc9ac1934a29fea8ea2947d519de104850881563a25dd761d5786ff10", func := "loop.example/divisorrows/laws.FnFullyOk", spec := "fnFullyOk", unfollowed := true, recurses := true, apart := false }
def FnFullyOkSaid : Prop := fnFullyOkRow.holds Try.pinned (OpenSpec.ofChange fnFullyOkSpec)

/-- ITS FALSE NEIGHBOUR: 'it returns false'. Refute it at one input. -/
def fnFullyOkWrong : ChangeSpec := { name := "fnFullyOk", fn := fun _ => fun
  | [d] => { results := [.lit (.bool false)], args := [d] }
  | _ => none }
def FnFullyOkWrongFalsely : Prop := fnFullyOkRow.holds Try.pinned (OpenSpec.ofChange fnFullyOkWrong)

/-- 'laws.FnAtPowers': WHATEVER THE INPUT: true; the input reads as it did. -/
def fnAtPowersSpec : ChangeSpec := { name := "fnAtPowers", fn := fun _ => fun
  | [d] => { results := [.lit (.bool true)], args := [d] }
  | _ => none }
def fnAtPowersRow : OpenClaim := { program := "yteebmpbhhpmhbaa", sum := "388ca00cc9ac1934a29fea8ea2947d519de104850881563a25dd761d5786ff10", func := "loop.example/divisorrows/laws.FnAtPowers", spec := "fnAtPowers", unfollowed := true, recurses := true, apart := false }
def FnAtPowersSaid : Prop := fnAtPowersRow.holds Try.pinned (OpenSpec.ofChange fnAtPowersSpec)

/-- ITS FALSE NEIGHBOUR: 'it returns false'. Refute it at one input. -/
def fnAtPowersWrong : ChangeSpec := { name := "fnAtPowers", fn := fun _ => fun
  | [d] => { results := [.lit (.bool false)], args := [d] }
  | _ => none }
def FnAtPowersWrongFalsely : Prop := fnAtPowersRow.holds Try.pinned (OpenSpec.ofChange fnAtPowersWrong)

/-- 'laws.FnMultiplicativeOk': WHATEVER THE INPUT: true; the input reads as it did. -/
def fnMultiplicativeOkSpec : ChangeSpec := { name := "fnMultiplicativeOk", fn := fun _ => fun
  | [d1, d2] => { results := [.lit (.bool true)], args := [d1, d2] }
  | _ => none }
def fnMultiplicativeOkRow : OpenClaim := { program := "yteebmpbhhpmhbaa", sum := "388ca00cc9ac1934a29fea8ea2947d519de104850881563a25dd761d5786ff10", func := "loop.example/divisorrows/laws.FnMultiplicativeOk", spec := "fnMultiplicativeOk", unfollowed := true, recurses := true, apart := false }
def FnMultiplicativeOkSaid : Prop := fnMultiplicativeOkRow.holds Try.pinned (OpenSpec.ofChange fnMultiplicativeOkSpec)

/-- ITS FALSE NEIGHBOUR: 'it returns false'. Refute it at one input. -/
def fnMultiplicativeOkWrong : ChangeSpec := { name := "fnMultiplicativeOk", fn := fun _ => fun
  | [d1, d2] => { results := [.lit (.bool false)], args := [d1, d2] }
  | _ => none }
def FnMultiplicativeOkWrongFalsely : Prop := fnMultiplicativeOkRow.holds Try.pinned (OpenSpec.ofChange fnMultiplicativeOkWrong)

/- THE SECOND FORM. 'bulk': how many values and letters a reading holds, each counted each time it is reached (what is shared counts as often as it is met; a slice's spare places count too). A statement '..UptoSaid' is the law's where the arguments, and the package variables that the reading takes, are together of bulk at most 1048576: NARROWER than '..Said'. Prove '..Said' where nothing that the law and all that it calls make is longer than what came in: it says more and counts as full. Else prove '..UptoSaid'. A law counts once. -/
mutual
def uptoBulk {H : Type} : DataW H → Nat
  | .lit (.string bytes) => bytes.length + 1
  | .lit _ => 1
  | .nil => 1
  | .ptr d => uptoBulk d + 1
  | .slice elems spare => uptoBulkAll elems + uptoBulkAll spare + 1
  | .agg parts => uptoBulkAll parts + 1
  | .iface _ d => uptoBulk d + 1
  | .map entries => uptoBulkEntries entries + 1
  | .held _ => 1
def uptoBulkAll {H : Type} : List (DataW H) → Nat
  | [] => 0
  | d :: r => uptoBulk d + uptoBulkAll r
def uptoBulkEntries {H : Type} : List (Lit × DataW H) → Nat
  | [] => 0
  | x :: r => uptoBulkEntry x + uptoBulkEntries r
def uptoBulkEntry {H : Type} : Lit × DataW H → Nat
  | (.string bytes, d) => bytes.length + uptoBulk d + 1
  | (_, d) => uptoBulk d + 1
 end
def uptoSmall : (H : Type) → List (DataW H) → Bool := fun _ ds => decide (uptoBulkAll ds ≤ 1048576)
def OpenSpec.upto (s : _root_.Go.ChangeSpec) : _root_.Go.OpenSpec := { _root_.Go.OpenSpec.ofChange s with cond := some uptoSmall }

/-- 'laws.FnDividedOf', WHERE WHAT IT READS IS OF BULK AT MOST 1048576: true; the input reads as it did. -/
def fnDividedOfUptoRow : OpenClaim := { program := "yteebmpbhhpmhbaa", sum := "388ca00cc9ac1934a29fea8ea2947d519de104850881563a25dd761d5786ff10", func := "loop.example/divisorrows/laws.FnDividedOf", spec := "fnDividedOf", unfollowed := true, recurses := true, apart := false, narrowed := true }
def FnDividedOfUptoSaid : Prop := fnDividedOfUptoRow.holds Try.pinned (OpenSpec.upto fnDividedOfSpec)

/-- 'laws.FnExactPowerOf', WHERE WHAT IT READS IS OF BULK AT MOST 1048576: true; the input reads as it did. -/
def fnExactPowerOfUptoRow : OpenClaim := { program := "yteebmpbhhpmhbaa", sum := "388ca00cc9ac1934a29fea8ea2947d519de104850881563a25dd761d5786ff10", func := "loop.example/divisorrows/laws.FnExactPowerOf", spec := "fnExactPowerOf", unfollowed := true, recurses := true, apart := false, narrowed := true }
def FnExactPowerOfUptoSaid : Prop := fnExactPowerOfUptoRow.holds Try.pinned (OpenSpec.upto fnExactPowerOfSpec)

/-- 'laws.FnUnitOk', WHERE WHAT IT READS IS OF BULK AT MOST 1048576: true; the input reads as it did. -/
def fnUnitOkUptoRow : OpenClaim := { program := "yteebmpbhhpmhbaa", sum := "388ca00cc9ac1934a29fea8ea2947d519de104850881563a25dd761d5786ff10", func := "loop.example/divisorrows/laws.FnUnitOk", spec := "fnUnitOk", unfollowed := true, recurses := true, apart := false, narrowed := true }
def FnUnitOkUptoSaid : Prop := fnUnitOkUptoRow.holds Try.pinned (OpenSpec.upto fnUnitOkSpec)

/-- 'laws.FnExactInverseOf', WHERE WHAT IT READS IS OF BULK AT MOST 1048576: true; the input reads as it did. -/
def fnExactInverseOfUptoRow : OpenClaim := { program := "yteebmpbhhpmhbaa", sum := "388ca00cc9ac1934a29fea8ea2947d519de104850881563a25dd761d5786ff10", func := "loop.example/divisorrows/laws.FnExactInverseOf", spec := "fnExactInverseOf", unfollowed := true, recurses := true, apart := false, narrowed := true }
def FnExactInverseOfUptoSaid : Prop := fnExactInverseOfUptoRow.holds Try.pinned (OpenSpec.upto fnExactInverseOfSpec)

/-- 'laws.FnPointwiseOf', WHERE WHAT IT READS IS OF BULK AT MOST 1048576: true; the input reads as it did. -/
def fnPointwiseOfUptoRow : OpenClaim := { program := "yteebmpbhhpmhbaa", sum := "388ca00cc9ac1934a29fea8ea2947d519de104850881563a25dd761d5786ff10", func := "loop.example/divisorrows/laws.FnPointwiseOf", spec := "fnPointwiseOf", unfollowed := true, recurses := true, apart := false, narrowed := true }
def FnPointwiseOfUptoSaid : Prop := fnPointwiseOfUptoRow.holds Try.pinned (OpenSpec.upto fnPointwiseOfSpec)

/-- 'laws.FnTimesOf', WHERE WHAT IT READS IS OF BULK AT MOST 1048576: true; the input reads as it did. -/
def fnTimesOfUptoRow : OpenClaim := { program := "yteebmpbhhpmhbaa", sum := "388ca00cc9ac1934a29fea8ea2947d519de104850881563a25dd761d5786ff10", func := "loop.example/divisorrows/laws.FnTimesOf", spec := "fnTimesOf", unfollowed := true, recurses := true, apart := false, narrowed := true }
def FnTimesOfUptoSaid : Prop := fnTimesOfUptoRow.holds Try.pinned (OpenSpec.upto fnTimesOfSpec)

/-- 'laws.FnPowerOf', WHERE WHAT IT READS IS OF BULK AT MOST 1048576: true; the input reads as it did. -/
def fnPowerOfUptoRow : OpenClaim := { program := "yteebmpbhhpmhbaa", sum := "388ca00cc9ac1934a29fea8ea2947d519de104850881563a25dd761d5786ff10", func := "loop.example/divisorrows/laws.FnPowerOf", spec := "fnPowerOf", unfollowed := true, recurses := true, apart := false, narrowed := true }
def FnPowerOfUptoSaid : Prop := fnPowerOfUptoRow.holds Try.pinned (OpenSpec.upto fnPowerOfSpec)

/-- 'laws.FnInverseOf', WHERE WHAT IT READS IS OF BULK AT MOST 1048576: true; the input reads as it did. -/
def fnInverseOfUptoRow : OpenClaim := { program := "yteebmpbhhpmhbaa", sum := "388ca00cc9ac1934a29fea8ea2947d519de104850881563a25dd761d5786ff10", func := "loop.example/divisorrows/laws.FnInverseOf", spec := "fnInverseOf", unfollowed := true, recurses := true, apart := false, narrowed := true }
def FnInverseOfUptoSaid : Prop := fnInverseOfUptoRow.holds Try.pinned (OpenSpec.upto fnInverseOfSpec)

/-- 'laws.FnFullyOk', WHERE WHAT IT READS IS OF BULK AT MOST 1048576: true; the input reads as it did. -/
def fnFullyOkUptoRow : OpenClaim := { program := "yteebmpbhhpmhbaa", sum := "388ca00cc9ac1934a29fea8ea2947d519de104850881563a25dd761d5786ff10", func := "loop.example/divisorrows/laws.FnFullyOk", spec := "fnFullyOk", unfollowed := true, recurses := true, apart := false, narrowed := true }
def FnFullyOkUptoSaid : Prop := fnFullyOkUptoRow.holds Try.pinned (OpenSpec.upto fnFullyOkSpec)

/-- 'laws.FnAtPowers', WHERE WHAT IT READS IS OF BULK AT MOST 1048576: true; the input reads as it did. -/
def fnAtPowersUptoRow : OpenClaim := { program := "yteebmpbhhpmhbaa", sum := "388ca00cc9ac1934a29fea8ea2947d519de104850881563a25dd761d5786ff10", func := "loop.example/divisorrows/laws.FnAtPowers", spec := "fnAtPowers", unfollowed := true, recurses := true, apart := false, narrowed := true }
def FnAtPowersUptoSaid : Prop := fnAtPowersUptoRow.holds Try.pinned (OpenSpec.upto fnAtPowersSpec)

/-- 'laws.FnMultiplicativeOk', WHERE WHAT IT READS IS OF BULK AT MOST 1048576: true; the input reads as it did. -/
def fnMultiplicativeOkUptoRow : OpenClaim := { program := "yteebmpbhhpmhbaa", sum := "388ca00cc9ac1934a29fea8ea2947d519de104850881563a25dd761d5786ff10", func := "loop.example/divisorrows/laws.FnMultiplicativeOk", spec := "fnMultiplicativeOk", unfollowed := true, recurses := true, apart := false, narrowed := true }
def FnMultiplicativeOkUptoSaid : Prop := fnMultiplicativeOkUptoRow.holds Try.pinned (OpenSpec.upto fnMultiplicativeOkSpec)

end Rows
end Go.Proofs.Yteebmpbhhpmhbaa
