/-
  No cell of these rows narrows 'for every input' (looked for: loops, veiled, ifaces, maps, wideKeys, modest, calm, conditions, laid).
  DERIVED. THE GIVEN ROWS OF THIS SEAT. 8 by the template 'for every input the law returns true; each argument reads behind the call as it read before'; 0 by the template 'total and deterministic' (their statements: YtjhnjlakdokncaaTotals.lean).
  GIVEN WITH THE SEED: the statements are not yours to turn. If you find one false, say at which input.
  Laid BY PROGRAM, IN A SANDBOX (cutbox-rows.mjs): the forced cells as the released guide's own fill.sh prints them over the translation 3318f74decc26ea6… (all of the seat's roots in one cut). By AI agents, Wed Nov 11 2026. No macro, syntax, notation, axiom, sorry.
-/
import Derived.Test.YtjhnjlakdokncaaChecked
import GoSem.Claim
import GoSem.ClaimJoined
import GoSem.ClaimMapViews
import Derived.JoinedTies
import Derived.KernelRfl
namespace Go.Proofs.Ytjhnjlakdokncaa
/- THE CELL 'sum', in the pinned program and in every row, IS THE sha256 OF THE DUMP (.gsa) THAT YtjhnjlakdokncaaProg.lean LOADS. Nothing in Lean hashes anything: it is a label: what it is worth is what the hold of that sum in a sandbox is worth. -/
noncomputable def Try.pinned : Pinned := { name := "ytjhnjlakdokncaa", sum := "3318f74decc26ea6576dba55c1010d4f78fa33e448dcd006cee7ac387688e5fc", checked := Try.checked }
namespace Rows
def none {H : Type} : Left H := { results := [], args := [] }

/-- 'laws.FnExactFactorsOf': WHATEVER THE INPUT: true; the input reads as it did. -/
def fnExactFactorsOfSpec : ChangeSpec := { name := "fnExactFactorsOf", fn := fun _ => fun
  | [d] => { results := [.lit (.bool true)], args := [d] }
  | _ => none }
def fnExactFactorsOfRow : OpenClaim := { program := "ytjhnjlakdokncaa", sum := "3318f74decc26ea6576dba55c1010d4f78fa33e448dcd006cee7ac387688e5fc", func := "loop.example/divisorrows/laws.FnExactFactorsOf", spec := "fnExactFactorsOf", apart := false }
def FnExactFactorsOfSaid : Prop := fnExactFactorsOfRow.holds Try.pinned (OpenSpec.ofChange fnExactFactorsOfSpec)

/-- ITS FALSE NEIGHBOUR: 'it returns false'. Refute it at one input. -/
def fnExactFactorsOfWrong : ChangeSpec := { name := "fnExactFactorsOf", fn := fun _ => fun
  | [d] => { results := [.lit (.bool false)], args := [d] }
  | _ => none }
def FnExactFactorsOfWrongFalsely : Prop := fnExactFactorsOfRow.holds Try.pinned (OpenSpec.ofChange fnExactFactorsOfWrong)

/-- 'laws.FnPrimePowers': WHATEVER THE INPUT: true; the input reads as it did. -/
def fnPrimePowersSpec : ChangeSpec := { name := "fnPrimePowers", fn := fun _ => fun
  | [d] => { results := [.lit (.bool true)], args := [d] }
  | _ => none }
def fnPrimePowersRow : OpenClaim := { program := "ytjhnjlakdokncaa", sum := "3318f74decc26ea6576dba55c1010d4f78fa33e448dcd006cee7ac387688e5fc", func := "loop.example/divisorrows/laws.FnPrimePowers", spec := "fnPrimePowers", apart := false }
def FnPrimePowersSaid : Prop := fnPrimePowersRow.holds Try.pinned (OpenSpec.ofChange fnPrimePowersSpec)

/-- ITS FALSE NEIGHBOUR: 'it returns false'. Refute it at one input. -/
def fnPrimePowersWrong : ChangeSpec := { name := "fnPrimePowers", fn := fun _ => fun
  | [d] => { results := [.lit (.bool false)], args := [d] }
  | _ => none }
def FnPrimePowersWrongFalsely : Prop := fnPrimePowersRow.holds Try.pinned (OpenSpec.ofChange fnPrimePowersWrong)

/-- 'laws.FnExactSignOf': WHATEVER THE INPUT: true; the input reads as it did. -/
def fnExactSignOfSpec : ChangeSpec := { name := "fnExactSignOf", fn := fun _ => fun
  | [d] => { results := [.lit (.bool true)], args := [d] }
  | _ => none }
def fnExactSignOfRow : OpenClaim := { program := "ytjhnjlakdokncaa", sum := "3318f74decc26ea6576dba55c1010d4f78fa33e448dcd006cee7ac387688e5fc", func := "loop.example/divisorrows/laws.FnExactSignOf", spec := "fnExactSignOf", apart := false }
def FnExactSignOfSaid : Prop := fnExactSignOfRow.holds Try.pinned (OpenSpec.ofChange fnExactSignOfSpec)

/-- ITS FALSE NEIGHBOUR: 'it returns false'. Refute it at one input. -/
def fnExactSignOfWrong : ChangeSpec := { name := "fnExactSignOf", fn := fun _ => fun
  | [d] => { results := [.lit (.bool false)], args := [d] }
  | _ => none }
def FnExactSignOfWrongFalsely : Prop := fnExactSignOfRow.holds Try.pinned (OpenSpec.ofChange fnExactSignOfWrong)

/-- 'laws.FnExactAtPowers': WHATEVER THE INPUT: true; the input reads as it did. -/
def fnExactAtPowersSpec : ChangeSpec := { name := "fnExactAtPowers", fn := fun _ => fun
  | [d] => { results := [.lit (.bool true)], args := [d] }
  | _ => none }
def fnExactAtPowersRow : OpenClaim := { program := "ytjhnjlakdokncaa", sum := "3318f74decc26ea6576dba55c1010d4f78fa33e448dcd006cee7ac387688e5fc", func := "loop.example/divisorrows/laws.FnExactAtPowers", spec := "fnExactAtPowers", apart := false }
def FnExactAtPowersSaid : Prop := fnExactAtPowersRow.holds Try.pinned (OpenSpec.ofChange fnExactAtPowersSpec)

/-- ITS FALSE NEIGHBOUR: 'it returns false'. Refute it at one input. -/
def fnExactAtPowersWrong : ChangeSpec := { name := "fnExactAtPowers", fn := fun _ => fun
  | [d] => { results := [.lit (.bool false)], args := [d] }
  | _ => none }
def FnExactAtPowersWrongFalsely : Prop := fnExactAtPowersRow.holds Try.pinned (OpenSpec.ofChange fnExactAtPowersWrong)

/-- 'laws.FnFactorsOf': WHATEVER THE INPUT: true; the input reads as it did. -/
def fnFactorsOfSpec : ChangeSpec := { name := "fnFactorsOf", fn := fun _ => fun
  | [d] => { results := [.lit (.bool true)], args := [d] }
  | _ => none }
def fnFactorsOfRow : OpenClaim := { program := "ytjhnjlakdokncaa", sum := "3318f74decc26ea6576dba55c1010d4f78fa33e448dcd006cee7ac387688e5fc", func := "loop.example/divisorrows/laws.FnFactorsOf", spec := "fnFactorsOf", apart := false }
def FnFactorsOfSaid : Prop := fnFactorsOfRow.holds Try.pinned (OpenSpec.ofChange fnFactorsOfSpec)

/-- ITS FALSE NEIGHBOUR: 'it returns false'. Refute it at one input. -/
def fnFactorsOfWrong : ChangeSpec := { name := "fnFactorsOf", fn := fun _ => fun
  | [d] => { results := [.lit (.bool false)], args := [d] }
  | _ => none }
def FnFactorsOfWrongFalsely : Prop := fnFactorsOfRow.holds Try.pinned (OpenSpec.ofChange fnFactorsOfWrong)

/-- 'laws.FnExactSquareFree': WHATEVER THE INPUT: true; the input reads as it did. -/
def fnExactSquareFreeSpec : ChangeSpec := { name := "fnExactSquareFree", fn := fun _ => fun
  | [d] => { results := [.lit (.bool true)], args := [d] }
  | _ => none }
def fnExactSquareFreeRow : OpenClaim := { program := "ytjhnjlakdokncaa", sum := "3318f74decc26ea6576dba55c1010d4f78fa33e448dcd006cee7ac387688e5fc", func := "loop.example/divisorrows/laws.FnExactSquareFree", spec := "fnExactSquareFree", apart := false }
def FnExactSquareFreeSaid : Prop := fnExactSquareFreeRow.holds Try.pinned (OpenSpec.ofChange fnExactSquareFreeSpec)

/-- ITS FALSE NEIGHBOUR: 'it returns false'. Refute it at one input. -/
def fnExactSquareFreeWrong : ChangeSpec := { name := "fnExactSquareFree", fn := fun _ => fun
  | [d] => { results := [.lit (.bool false)], args := [d] }
  | _ => none }
def FnExactSquareFreeWrongFalsely : Prop := fnExactSquareFreeRow.holds Try.pinned (OpenSpec.ofChange fnExactSquareFreeWrong)

/-- 'laws.FnExactDividedOf': WHATEVER THE INPUT: true; the input reads as it did. -/
def fnExactDividedOfSpec : ChangeSpec := { name := "fnExactDividedOf", fn := fun _ => fun
  | [d1, d2] => { results := [.lit (.bool true)], args := [d1, d2] }
  | _ => none }
def fnExactDividedOfRow : OpenClaim := { program := "ytjhnjlakdokncaa", sum := "3318f74decc26ea6576dba55c1010d4f78fa33e448dcd006cee7ac387688e5fc", func := "loop.example/divisorrows/laws.FnExactDividedOf", spec := "fnExactDividedOf", apart := false }
def FnExactDividedOfSaid : Prop := fnExactDividedOfRow.holds Try.pinned (OpenSpec.ofChange fnExactDividedOfSpec)

/-- ITS FALSE NEIGHBOUR: 'it returns false'. Refute it at one input. -/
def fnExactDividedOfWrong : ChangeSpec := { name := "fnExactDividedOf", fn := fun _ => fun
  | [d1, d2] => { results := [.lit (.bool false)], args := [d1, d2] }
  | _ => none }
def FnExactDividedOfWrongFalsely : Prop := fnExactDividedOfRow.holds Try.pinned (OpenSpec.ofChange fnExactDividedOfWrong)

/-- 'laws.FnSignOf': WHATEVER THE INPUT: true; the input reads as it did. -/
def fnSignOfSpec : ChangeSpec := { name := "fnSignOf", fn := fun _ => fun
  | [d] => { results := [.lit (.bool true)], args := [d] }
  | _ => none }
def fnSignOfRow : OpenClaim := { program := "ytjhnjlakdokncaa", sum := "3318f74decc26ea6576dba55c1010d4f78fa33e448dcd006cee7ac387688e5fc", func := "loop.example/divisorrows/laws.FnSignOf", spec := "fnSignOf", apart := false }
def FnSignOfSaid : Prop := fnSignOfRow.holds Try.pinned (OpenSpec.ofChange fnSignOfSpec)

/-- ITS FALSE NEIGHBOUR: 'it returns false'. Refute it at one input. -/
def fnSignOfWrong : ChangeSpec := { name := "fnSignOf", fn := fun _ => fun
  | [d] => { results := [.lit (.bool false)], args := [d] }
  | _ => none }
def FnSignOfWrongFalsely : Prop := fnSignOfRow.holds Try.pinned (OpenSpec.ofChange fnSignOfWrong)

/- THE SECOND FORM. 'bulk': how many values and letters a reading holds, each counted each time it is reached (what is shared counts as often as it is met; a slice's spare places count too). A statement '..UptoSaid' is the law's where the arguments, and the package variables that the reading takes, are together of bulk at most 1048576: NARROWER than '..Said'. Prove '..Said' where nothing that the law and all that it calls make is longer than what came in: it says more and counts as full. Else prove '..UptoSaid'. A law counts once. -/
mutual
def uptoBulk {H : Type} : DataW H → Nat
  | .lit (.string bytes) => bytes.length + 1
  | .lit _ => 1
  | .nil => 1
  | .ptr d => uptoBulk d + 1
  | .slice elems spare => uptoBulkAll elems + uptoBulkAll spare + 1
  | .agg parts => uptoBulkAll parts + 1
  | .iface _ d => uptoBulk d + 1
  | .map entries => uptoBulkEntries entries + 1
  | .held _ => 1
def uptoBulkAll {H : Type} : List (DataW H) → Nat
  | [] => 0
  | d :: r => uptoBulk d + uptoBulkAll r
def uptoBulkEntries {H : Type} : List (Lit × DataW H) → Nat
  | [] => 0
  | x :: r => uptoBulkEntry x + uptoBulkEntries r
def uptoBulkEntry {H : Type} : Lit × DataW H → Nat
  | (.string bytes, d) => bytes.length + uptoBulk d + 1
  | (_, d) => uptoBulk d + 1
 end
def uptoSmall : (H : Type) → List (DataW H) → Bool := fun _ ds => decide (uptoBulkAll ds ≤ 1048576)
def OpenSpec.upto (s : _root_.Go.ChangeSpec) : _root_.Go.OpenSpec := { _root_.Go.OpenSpec.ofChange s with cond := some uptoSmall }

/-- 'laws.FnExactFactorsOf', WHERE WHAT IT READS IS OF BULK AT MOST 1048576: true; the input reads as it did. -/
def fnExactFactorsOfUptoRow : OpenClaim := { program := "ytjhnjlakdokncaa", sum := "3318f74decc26ea6576dba55c1010d4f78fa33e448dcd006cee7ac387688e5fc", func := "loop.example/divisorrows/laws.FnExactFactorsOf", spec := "fnExactFactorsOf", apart := false, narrowed := true }
def FnExactFactorsOfUptoSaid : Prop := fnExactFactorsOfUptoRow.holds Try.pinned (OpenSpec.upto fnExactFactorsOfSpec)

/-- 'laws.FnPrimePowers', WHERE WHAT IT READS IS OF BULK AT MOST 1048576: true; the input reads as it did. -/
def fnPrimePowersUptoRow : OpenClaim := { program := "ytjhnjlakdokncaa", sum := "3318f74decc26ea6576dba55c1010d4f78fa33e448dcd006cee7ac387688e5fc", func := "loop.example/divisorrows/laws.FnPrimePowers", spec := "fnPrimePowers", apart := false, narrowed := true }
def FnPrimePowersUptoSaid : Prop := fnPrimePowersUptoRow.holds Try.pinned (OpenSpec.upto fnPrimePowersSpec)

/-- 'laws.FnExactSignOf', WHERE WHAT IT READS IS OF BULK AT MOST 1048576: true; the input reads as it did. -/
def fnExactSignOfUptoRow : OpenClaim := { program := "ytjhnjlakdokncaa", sum := "3318f74decc26ea6576dba55c1010d4f78fa33e448dcd006cee7ac387688e5fc", func := "loop.example/divisorrows/laws.FnExactSignOf", spec := "fnExactSignOf", apart := false, narrowed := true }
def FnExactSignOfUptoSaid : Prop := fnExactSignOfUptoRow.holds Try.pinned (OpenSpec.upto fnExactSignOfSpec)

/-- 'laws.FnExactAtPowers', WHERE WHAT IT READS IS OF BULK AT MOST 1048576: true; the input reads as it did. -/
def fnExactAtPowersUptoRow : OpenClaim := { program := "ytjhnjlakdokncaa", sum := "3318f74decc26ea6576dba55c1010d4f78fa33e448dcd006cee7ac387688e5fc", func := "loop.example/divisorrows/laws.FnExactAtPowers", spec := "fnExactAtPowers", apart := false, narrowed := true }
def FnExactAtPowersUptoSaid : Prop := fnExactAtPowersUptoRow.holds Try.pinned (OpenSpec.upto fnExactAtPowersSpec)

/-- 'laws.FnFactorsOf', WHERE WHAT IT READS IS OF BULK AT MOST 1048576: true; the input reads as it did. -/
def fnFactorsOfUptoRow : OpenClaim := { program := "ytjhnjlakdokncaa", sum := "3318f74decc26ea6576dba55c1010d4f78fa33e448dcd006cee7ac387688e5fc", func := "loop.example/divisorrows/laws.FnFactorsOf", spec := "fnFactorsOf", apart := false, narrowed := true }
def FnFactorsOfUptoSaid : Prop := fnFactorsOfUptoRow.holds Try.pinned (OpenSpec.upto fnFactorsOfSpec)

/-- 'laws.FnExactSquareFree', WHERE WHAT IT READS IS OF BULK AT MOST 1048576: true; the input reads as it did. -/
def fnExactSquareFreeUptoRow : OpenClaim := { program := "ytjhnjlakdokncaa", sum := "3318f74decc26ea6576dba55c1010d4f78fa33e448dcd006cee7ac387688e5fc", func := "loop.example/divisorrows/laws.FnExactSquareFree", spec := "fnExactSquareFree", apart := false, narrowed := true }
def FnExactSquareFreeUptoSaid : Prop := fnExactSquareFreeUptoRow.holds Try.pinned (OpenSpec.upto fnExactSquareFreeSpec)

/-- 'laws.FnExactDividedOf', WHERE WHAT IT READS IS OF BULK AT MOST 1048576: true; the input reads as it did. -/
def fnExactDividedOfUptoRow : OpenClaim := { program := "ytjhnjlakdokncaa", sum := "3318f74decc26ea6576dba55c1010d4f78fa33e448dcd006cee7ac387688e5fc", func := "loop.example/divisorrows/laws.FnExactDividedOf", spec := "fnExactDividedOf", apart := false, narrowed := true }
def FnExactDividedOfUptoSaid : Prop := fnExactDividedOfUptoRow.holds Try.pinned (OpenSpec.upto fnExactDividedOfSpec)

/-- 'laws.FnSignOf', WHERE WHAT IT READS IS OF BULK AT MOST 1048576: true; the input reads as it did. -/
def fnSignOfUptoRow : OpenClaim := { program := "ytjhnjlakdokncaa", sum := "3318f74decc26ea6576dba55c1010d4f78fa33e448dcd006cee7ac387688e5fc", func := "loop.example/divisorrows/laws.FnSignOf", spec := "fnSignOf", apart := false, narrowed := true }
def FnSignOfUptoSaid : Prop := fnSignOfUptoRow.holds Try.pinned (OpenSpec.upto fnSignOfSpec)

end Rows
end Go.Proofs.Ytjhnjlakdokncaa
