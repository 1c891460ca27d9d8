/- Plain facts about numbers and lists, used by the proofs of this seat. -/
import Derived.Test.YtnmpbjllljlgpaaM3
namespace Go.Proofs.Ytnmpbjllljlgpaa.Math
/-- The sum, over all numbers from one on whose square is no greater, of the sign times the quotient by the square. -/
def sqF : Nat → Nat → Nat → Int
  | 0, _, _ => 0
  | f + 1, n, d => if d * d ≤ n then mu d * ((n / (d * d) : Nat) : Int) + sqF f n (d + 1) else 0
def sqS (n : Nat) : Int := sqF 101 n 1
theorem sqF_sum (n : Nat) : ∀ f d, sqF f n d = isum ((List.range' d f).map (fun x => mu x * ((n / (x * x) : Nat) : Int))) := by
  intro f
  induction f with
  | zero => intro d; rfl
  | succ f ih =>
    intro d
    rw [List.range'_succ, List.map_cons, isum]
    unfold sqF
    by_cases h : d * d ≤ n
    · rw [if_pos h, ih]
    · rw [if_neg h]
      have z : ∀ x, d ≤ x → n / (x * x) = 0 := fun x hx => by
        have := Nat.mul_le_mul hx hx
        exact Nat.div_eq_of_lt (by omega)
      rw [z d (Nat.le_refl _), isum_zero (fun y hy => by
        obtain ⟨x, hx, rfl⟩ := List.mem_map.1 hy
        rw [List.mem_range'_1] at hx
        rw [z x (by omega)]; simp)]
      simp
theorem isum_sub {α : Type} (l : List α) (f g : α → Int) : isum (l.map f) - isum (l.map g) = isum (l.map (fun x => f x - g x)) := by
  induction l with
  | nil => rfl
  | cons x t ih => simp only [List.map_cons, isum]; omega
theorem isum_filter {α : Type} (l : List α) (p : α → Bool) (f : α → Int) : isum ((l.filter p).map f) = isum (l.map (fun x => if p x = true then f x else 0)) := by
  induction l with
  | nil => rfl
  | cons x t ih =>
    rw [List.filter_cons, List.map_cons, isum]
    by_cases h : p x = true
    · rw [if_pos h, if_pos h, List.map_cons, isum, ih]
    · rw [if_neg h, if_neg h, ih]; omega
theorem div_succ_sub (n q : Nat) : (((n + 1) / q : Nat) : Int) - ((n / q : Nat) : Int) = if (n + 1) % q = 0 then 1 else 0 := by
  rw [Nat.succ_div]
  by_cases h : q ∣ n + 1
  · rw [if_pos h, if_pos (Nat.mod_eq_zero_of_dvd h)]; omega
  · rw [if_neg h, if_neg (fun e => h (Nat.dvd_of_mod_eq_zero e))]; omega
/-- With one number more it is as many, or one more, as the sign tells. -/
theorem sq_step (n : Nat) (hn : n + 1 ≤ 10000) : sqS (n + 1) = sqS n + mu (n + 1) * mu (n + 1) := by
  have e : sqS (n + 1) - sqS n = mu (n + 1) * mu (n + 1) := by
    unfold sqS
    rw [sqF_sum, sqF_sum, isum_sub, ← isum_mu_sq (n + 1) (by omega)]
    have e1 : isum ((List.range' 1 101).map (fun x => mu x * (((n + 1) / (x * x) : Nat) : Int) - mu x * ((n / (x * x) : Nat) : Int))) =
        isum ((List.range' 1 101).map (fun x => if ((n + 1) % (x ^ 2) == 0) = true then mu x else 0)) := by
      refine isum_congr (fun x _ => ?_)
      rw [← Int.mul_sub, div_succ_sub n (x * x), Nat.pow_two]
      by_cases c : (n + 1) % (x * x) = 0 <;> simp [c]
    rw [e1, ← isum_filter]
    refine isum_perm (List.Perm.map _ ?_)
    rw [List.perm_ext_iff_of_nodup (List.Pairwise.filter _ List.nodup_range') (dvc_nodup 2 (n + 1))]
    intro d
    rw [mem_dvc, List.mem_filter, List.mem_range'_1, beq_iff_eq]
    constructor
    · rintro ⟨⟨a, b⟩, c⟩
      have hd := Nat.dvd_of_mod_eq_zero c
      have h2 := Nat.le_of_dvd (by omega) hd
      rw [Nat.pow_two] at h2
      have h3 : d * 1 ≤ d * d := Nat.mul_le_mul_left d a
      exact ⟨a, by omega, hd⟩
    · rintro ⟨a, b, c⟩
      refine ⟨⟨a, Nat.lt_of_not_le (fun h => ?_)⟩, Nat.mod_eq_zero_of_dvd c⟩
      have h2 := Nat.le_of_dvd (by omega) c
      rw [Nat.pow_two] at h2
      have h3 := Nat.mul_le_mul h h
      omega
  omega
theorem sqS_zero : sqS 0 = 0 := by decide
theorem sq_nonneg (x : Int) : 0 ≤ x * x := by
  rcases Int.le_total 0 x with h | h
  · exact Int.mul_nonneg h h
  · have := Int.mul_nonneg (show 0 ≤ -x by omega) (show 0 ≤ -x by omega); rwa [Int.neg_mul_neg] at this
theorem sqS_bd : ∀ n, n ≤ 10000 → 0 ≤ sqS n ∧ sqS n ≤ (n : Int) := by
  intro n
  induction n with
  | zero => intro _; rw [sqS_zero]; omega
  | succ n ih =>
    intro h
    have := ih (by omega)
    rw [sq_step n h]
    rcases mu_bd (n + 1) with e | e | e <;> rw [e] <;> omega

end Go.Proofs.Ytnmpbjllljlgpaa.Math
