/- The program's ApartOk and the reference's tell the same for all pairs of numbers. -/
import Derived.Test.YtkelbmnbcfjgkaaPFnExactApartOkx0
import Derived.Test.YtkelbmnbcfjgkaaPFnExactApartOkx1
namespace Go.Proofs.Ytkelbmnbcfjgkaa.Pure
open Go.RowKit Go.Proofs.Ytkelbmnbcfjgkaa.PFnExactApartOk Go.Proofs.YtkelbmnbcfjgkaaW.PrintWords Go.Proofs.YtkelbmnbcfjgkaaW.PrintLast Go.Proofs.YtkelbmnbcfjgkaaW.PrintMore
set_option linter.unusedVariables false
set_option linter.unusedSimpArgs false
theorem w64 {x : Int} (h : -9223372036854775808 ≤ x ∧ x ≤ 9223372036854775807) : wrap64 x = x := by unfold wrap64; omega
theorem Ev.k {α : Type} {g : Nat → Option α} {r : α} (h : Ev g r) : ∃ k, g k = some r := Ev.rounds h
theorem Ev.to {α : Type} {g : Nat → Option α} {r s : α} (h : Ev g r) (e : r = s) : Ev g s := e ▸ h
theorem Ev.ret {α : Type} {r s : α} (e : r = s) : Ev (fun _ => some r) s := e ▸ Ev.now r

theorem numberOk_f (a : Int) : impl_numberOk.f a = some (decide (1 ≤ a ∧ a ≤ 10000)) := by
  unfold impl_numberOk.f
  by_cases h : a ≥ 1
  · rw [if_pos h]; simp [show 1 ≤ a from h]
  · rw [if_neg h]; simp [show ¬ 1 ≤ a from h]

theorem l1In_f (a b c : Int) : spec_l1In.f a b c = some (decide (b ≤ a ∧ a ≤ c)) := by
  unfold spec_l1In.f
  by_cases h : a ≥ b
  · rw [if_pos h]; simp [show b ≤ a from h]
  · rw [if_neg h]; simp [show ¬ b ≤ a from h]

theorem ev_gcd_l (b : Nat) : ∀ a : Nat, Ev (fun k => impl_gcd.l0 k (a : Int) (b : Int)) ((Nat.gcd a b : Nat) : Int) := by
  induction b using Nat.strongRecOn with
  | _ b ih =>
    intro a
    refine Ev.step (fun k => by rw [impl_gcd.l0]) ?_
    by_cases hb : b = 0
    · subst hb
      simp only [Int.natCast_zero, if_true]
      exact Ev.ret (by simp)
    · have h0 : ¬ (b : Int) = 0 := by omega
      simp only [if_neg h0, ← Int.ofNat_tmod]
      refine Ev.to (ih (a % b) (Nat.mod_lt _ (by omega)) b) ?_
      rw [Nat.gcd_comm a b, Nat.gcd_rec b a, Nat.gcd_comm]
theorem ev_gcd (a b : Nat) : Ev (fun k => impl_gcd.f k (a : Int) (b : Int)) ((Nat.gcd a b : Nat) : Int) := by
  unfold impl_gcd.f; exact ev_gcd_l b a

theorem ev_CommonOf_no {a b : Int} (h : ¬ ((1 ≤ a ∧ a ≤ 10000) ∧ (1 ≤ b ∧ b ≤ 10000))) : Ev (fun k => impl_CommonOf.f k a b) (-1) := by
  unfold impl_CommonOf.f
  simp only [numberOk_f, Option.bind_some, decide_eq_true_eq]
  by_cases h1 : 1 ≤ a ∧ a ≤ 10000
  · have h2 : ¬ (1 ≤ b ∧ b ≤ 10000) := fun h2 => h ⟨h1, h2⟩
    simp only [if_pos h1, if_neg h2]
    exact Ev.now _
  · simp only [if_neg h1]
    exact Ev.now _
theorem ev_CommonOf (a b : Nat) (h : (1 ≤ a ∧ a ≤ 10000) ∧ (1 ≤ b ∧ b ≤ 10000)) : Ev (fun k => impl_CommonOf.f k (a : Int) (b : Int)) ((Nat.gcd a b : Nat) : Int) := by
  unfold impl_CommonOf.f
  have h1 : 1 ≤ (a : Int) ∧ (a : Int) ≤ 10000 := by omega
  have h2 : 1 ≤ (b : Int) ∧ (b : Int) ≤ 10000 := by omega
  simp only [numberOk_f, Option.bind_some, decide_eq_true_eq, if_pos h1, if_pos h2]
  exact Ev.bind (ev_gcd a b) (Ev.now _)

theorem ev_sCommonOf_l (b : Nat) : ∀ a : Nat, Ev (fun k => spec_CommonOf.l0 k (a : Int) (b : Int)) ((Nat.gcd a b : Nat) : Int) := by
  induction b using Nat.strongRecOn with
  | _ b ih =>
    intro a
    refine Ev.step (fun k => by rw [spec_CommonOf.l0]) ?_
    by_cases hb : b = 0
    · subst hb
      simp only [Int.natCast_zero, gt_iff_lt, Int.lt_irrefl, if_false]
      exact Ev.ret (by simp)
    · have h0 : ¬ (b : Int) = 0 := by omega
      have h1 : (b : Int) > 0 := by omega
      simp only [if_neg h0, if_pos h1, ← Int.ofNat_tmod]
      refine Ev.to (ih (a % b) (Nat.mod_lt _ (by omega)) b) ?_
      rw [Nat.gcd_comm a b, Nat.gcd_rec b a, Nat.gcd_comm]
theorem ev_sCommonOf_no {a b : Int} (h : ¬ ((1 ≤ a ∧ a ≤ 10000) ∧ (1 ≤ b ∧ b ≤ 10000))) : Ev (fun k => spec_CommonOf.f k a b) (-1) := by
  unfold spec_CommonOf.f
  simp only [l1In_f, Option.bind_some, decide_eq_true_eq]
  by_cases h1 : 1 ≤ a ∧ a ≤ 10000
  · have h2 : ¬ (1 ≤ b ∧ b ≤ 10000) := fun h2 => h ⟨h1, h2⟩
    simp only [if_pos h1, decide_eq_false h2]
    refine Ev.step (fun k => by rw [spec_CommonOf.j0]) ?_
    simp only [Bool.not_false, if_true]
    exact Ev.now _
  · simp only [if_neg h1]
    refine Ev.step (fun k => by rw [spec_CommonOf.j0]) ?_
    simp only [if_true]
    exact Ev.now _
theorem ev_sCommonOf (a b : Nat) (h : (1 ≤ a ∧ a ≤ 10000) ∧ (1 ≤ b ∧ b ≤ 10000)) : Ev (fun k => spec_CommonOf.f k (a : Int) (b : Int)) ((Nat.gcd a b : Nat) : Int) := by
  unfold spec_CommonOf.f
  have h1 : 1 ≤ (a : Int) ∧ (a : Int) ≤ 10000 := by omega
  have h2 : 1 ≤ (b : Int) ∧ (b : Int) ≤ 10000 := by omega
  simp only [l1In_f, Option.bind_some, decide_eq_true_eq, if_pos h1, decide_eq_true h2]
  refine Ev.step (fun k => by rw [spec_CommonOf.j0]) ?_
  simp only [Bool.not_true, Bool.false_eq_true, if_false]
  exact ev_sCommonOf_l b a

theorem FnExactApartOk : laws_FnExactApartOk.Pure := by
  intro a b ha hb
  apply Ev.k
  unfold laws_FnExactApartOk.f impl_ApartOk.f spec_ApartOk.f
  by_cases h : (1 ≤ a ∧ a ≤ 10000) ∧ (1 ≤ b ∧ b ≤ 10000)
  · obtain ⟨a, rfl⟩ := Int.eq_ofNat_of_zero_le (show 0 ≤ a by omega)
    obtain ⟨b, rfl⟩ := Int.eq_ofNat_of_zero_le (show 0 ≤ b by omega)
    refine Ev.bind (Ev.bind (ev_sCommonOf a b (by omega)) (Ev.now _)) (Ev.bind (Ev.bind (ev_CommonOf a b (by omega)) (Ev.now _)) ?_)
    simp only [bne_self_eq_false, Bool.false_eq_true, if_false]
    exact Ev.now _
  · refine Ev.bind (Ev.bind (ev_sCommonOf_no h) (Ev.now _)) (Ev.bind (Ev.bind (ev_CommonOf_no h) (Ev.now _)) ?_)
    simp only [bne_self_eq_false, Bool.false_eq_true, if_false]
    exact Ev.now _

end Go.Proofs.Ytkelbmnbcfjgkaa.Pure
