/- The printed words that the walks of this law use. -/
import Derived.Test.YteebmpbhhpmhbaaVFnMultiplicativeOkWInv
import Derived.Test.YteebmpbhhpmhbaaVFnMultiplicativeOkWFootNe
namespace Go.Proofs.YteebmpbhhpmhbaaW.PrintWords
open Go.RowKit
end Go.Proofs.YteebmpbhhpmhbaaW.PrintWords
namespace Go.Proofs.YteebmpbhhpmhbaaW.PrintLast
section
variable {ops : Array Oper} {a : Act} {o og : Oper} {g : Nat} {t : Tmp} {u : Bool}
end
end Go.Proofs.YteebmpbhhpmhbaaW.PrintLast
