/- The printed words that the walks of this law use. -/
import Derived.Test.YteebmpbhhpmhbaaVFnMultiplicativeOkWWords
import Derived.Laws.StructEq
namespace Go.Proofs.YteebmpbhhpmhbaaW.PrintWords
open Go.RowKit
section
variable {P : Program} {d : Nat} {xs ys : Array Value} {f : Field} {fs : List Field} {a b : Value} {r s : Bool} {w : World}
end
end Go.Proofs.YteebmpbhhpmhbaaW.PrintWords
