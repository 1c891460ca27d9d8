/- All constants of the program have the told values. -/
import Derived.Test.YtkelbmnbcfjgkaaPFnExactConstantsx0
import Derived.Test.YtkelbmnbcfjgkaaPFnExactConstantsx1
namespace Go.Proofs.Ytkelbmnbcfjgkaa.Pure
open Go.RowKit Go.Proofs.Ytkelbmnbcfjgkaa.PFnExactConstants Go.Proofs.YtkelbmnbcfjgkaaW.PrintWords Go.Proofs.YtkelbmnbcfjgkaaW.PrintLast Go.Proofs.YtkelbmnbcfjgkaaW.PrintMore
set_option linter.unusedVariables false
set_option linter.unusedSimpArgs false
theorem w64 {x : Int} (h : -9223372036854775808 ≤ x ∧ x ≤ 9223372036854775807) : wrap64 x = x := by unfold wrap64; omega
theorem Ev.k {α : Type} {g : Nat → Option α} {r : α} (h : Ev g r) : ∃ k, g k = some r := Ev.rounds h
theorem Ev.to {α : Type} {g : Nat → Option α} {r s : α} (h : Ev g r) (e : r = s) : Ev g s := e ▸ h
theorem Ev.ret {α : Type} {r s : α} (e : r = s) : Ev (fun _ => some r) s := e ▸ Ev.now r

theorem FnExactConstants : laws_FnExactConstants.Pure := rfl

end Go.Proofs.Ytkelbmnbcfjgkaa.Pure
