/- The program's DividesOk and the reference's tell the same for all pairs of numbers. -/
import Derived.Test.YtkelbmnbcfjgkaaPFnExactDividesOkx0
import Derived.Test.YtkelbmnbcfjgkaaPFnExactDividesOkx1
namespace Go.Proofs.Ytkelbmnbcfjgkaa.Pure
open Go.RowKit Go.Proofs.Ytkelbmnbcfjgkaa.PFnExactDividesOk Go.Proofs.YtkelbmnbcfjgkaaW.PrintWords Go.Proofs.YtkelbmnbcfjgkaaW.PrintLast Go.Proofs.YtkelbmnbcfjgkaaW.PrintMore
set_option linter.unusedVariables false
set_option linter.unusedSimpArgs false
theorem w64 {x : Int} (h : -9223372036854775808 ≤ x ∧ x ≤ 9223372036854775807) : wrap64 x = x := by unfold wrap64; omega
theorem Ev.k {α : Type} {g : Nat → Option α} {r : α} (h : Ev g r) : ∃ k, g k = some r := Ev.rounds h
theorem Ev.to {α : Type} {g : Nat → Option α} {r s : α} (h : Ev g r) (e : r = s) : Ev g s := e ▸ h
theorem Ev.ret {α : Type} {r s : α} (e : r = s) : Ev (fun _ => some r) s := e ▸ Ev.now r

theorem numberOk_f (a : Int) : impl_numberOk.f a = some (decide (1 ≤ a ∧ a ≤ 10000)) := by
  unfold impl_numberOk.f
  by_cases h : a ≥ 1
  · rw [if_pos h]; simp [show 1 ≤ a from h]
  · rw [if_neg h]; simp [show ¬ 1 ≤ a from h]

theorem l1In_f (a b c : Int) : spec_l1In.f a b c = some (decide (b ≤ a ∧ a ≤ c)) := by
  unfold spec_l1In.f
  by_cases h : a ≥ b
  · rw [if_pos h]; simp [show b ≤ a from h]
  · rw [if_neg h]; simp [show ¬ b ≤ a from h]

theorem FnExactDividesOk : laws_FnExactDividesOk.Pure := by
  intro a b ha hb
  unfold laws_FnExactDividesOk.f impl_DividesOk.f spec_DividesOk.f
  simp only [numberOk_f, l1In_f, Option.bind_some, decide_eq_true_eq]
  by_cases h1 : 1 ≤ a ∧ a ≤ 10000
  · by_cases h2 : 1 ≤ b ∧ b ≤ 10000
    · have h0 : ¬ a = 0 := by omega
      simp only [if_pos h1, if_pos h2, if_neg h0, Option.bind_some]; simp
    · simp only [if_pos h1, if_neg h2, Option.bind_some]; simp
  · simp only [if_neg h1, Option.bind_some]; simp

end Go.Proofs.Ytkelbmnbcfjgkaa.Pure
