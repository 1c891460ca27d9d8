/- The printed words that the walks of this law use. -/
import Derived.Test.YteebmpbhhpmhbaaVFnMultiplicativeOkWWords
namespace Go.Proofs.YteebmpbhhpmhbaaW.PrintWords
open Go.RowKit
section
variable {P : Program} {ops : Array Oper} {rest : List Oper} {o : Oper} {a : Act} {Q : Exit → Act → World → Prop} {W : World}
end
end Go.Proofs.YteebmpbhhpmhbaaW.PrintWords
