/- Plain facts about numbers and lists, used by the proofs of this seat. -/
import Derived.Test.YtcihlmfjbfgfoaaDoorM1
namespace Go.Proofs.YtcihlmfjbfgfoaaDoor.Math
/-- How often a number divides another one, and what is left. -/
def stripF : Nat → Nat → Nat → Nat × Nat
  | 0, _, n => (0, n)
  | f + 1, p, n => if n % p = 0 then ((stripF f p (n / p)).1 + 1, (stripF f p (n / p)).2) else (0, n)
def strip (p n : Nat) : Nat × Nat := stripF n p n

theorem stripF_eq (p m : Nat) (hp : 1 ≤ p) (hm : m % p ≠ 0) : ∀ j f, j ≤ f → stripF f p (p ^ j * m) = (j, m) := by
  intro j
  induction j with
  | zero =>
    intro f _
    rw [Nat.pow_zero, Nat.one_mul]
    cases f with
    | zero => rfl
    | succ f => unfold stripF; rw [if_neg hm]
  | succ j ih =>
    intro f hf
    obtain ⟨g, rfl⟩ : ∃ g, f = g + 1 := ⟨f - 1, by omega⟩
    have e : p ^ (j + 1) * m = p * (p ^ j * m) := by rw [Nat.pow_succ, Nat.mul_comm (p ^ j) p, Nat.mul_assoc]
    unfold stripF
    rw [e, if_pos (Nat.mul_mod_right _ _), Nat.mul_div_cancel_left _ hp, ih g (by omega)]

theorem exists_strip (p : Nat) (hp : 2 ≤ p) (n : Nat) : 1 ≤ n → ∃ j m, n = p ^ j * m ∧ m % p ≠ 0 ∧ 1 ≤ m := by
  induction n using Nat.strongRecOn with
  | _ n ih =>
    intro hn
    by_cases h : n % p = 0
    · have e := Nat.div_add_mod n p
      rw [h, Nat.add_zero] at e
      have h1 : 1 ≤ n / p := by
        refine Nat.pos_of_ne_zero (fun e0 => ?_); rw [e0] at e; omega
      have h2 : n / p < n := Nat.div_lt_self (by omega) (by omega)
      obtain ⟨j, m, e1, e2, e3⟩ := ih (n / p) h2 h1
      refine ⟨j + 1, m, ?_, e2, e3⟩
      rw [Nat.pow_succ, Nat.mul_comm (p ^ j) p, Nat.mul_assoc, ← e1, e]
    · exact ⟨0, n, by simp, h, hn⟩

theorem strip_eq {p j m n : Nat} (hp : 2 ≤ p) (hn : n = p ^ j * m) (hm : m % p ≠ 0) (h1 : 1 ≤ m) : strip p n = (j, m) := by
  subst hn
  unfold strip
  refine stripF_eq p m (by omega) hm j _ ?_
  have a : j < p ^ j := Nat.lt_pow_self (by omega)
  have b : p ^ j * 1 ≤ p ^ j * m := Nat.mul_le_mul_left _ h1
  omega

/-- The primes of a number from one on, each with how often it divides it. -/
def facF : Nat → Nat → Nat → List (Nat × Nat)
  | 0, _, _ => []
  | f + 1, p, n => if n < p then [] else if (strip p n).1 = 0 then facF f (p + 1) n else (p, (strip p n).1) :: facF f (p + 1) (strip p n).2
def fac (p n : Nat) : List (Nat × Nat) := facF (n + 1) p n

theorem facF_lt {f p n : Nat} (h : n < p) : facF f p n = [] := by
  cases f with
  | zero => rfl
  | succ f => unfold facF; rw [if_pos h]

theorem strip_le {p n : Nat} (hp : 2 ≤ p) (hn : 1 ≤ n) : (strip p n).2 ≤ n ∧ 1 ≤ (strip p n).2 := by
  obtain ⟨j, m, e, hm, h1⟩ := exists_strip p hp n hn
  rw [strip_eq hp e hm h1]
  refine ⟨?_, h1⟩
  have := Nat.mul_le_mul_right m (Nat.pow_pos (n := j) (show 0 < p by omega))
  omega

theorem facF_more : ∀ (f p n g : Nat), 2 ≤ p → 1 ≤ n → n + 1 ≤ f + p → n + 1 ≤ g + p → facF f p n = facF g p n := by
  intro f
  induction f with
  | zero => intro p n g hp hn hf hg; rw [facF_lt (by omega), facF_lt (by omega)]
  | succ f ih =>
    intro p n g hp hn hf hg
    by_cases h : n < p
    · rw [facF_lt h, facF_lt h]
    obtain ⟨g, rfl⟩ : ∃ h, g = h + 1 := ⟨g - 1, by omega⟩
    have sl := strip_le hp hn
    unfold facF
    rw [if_neg h, if_neg h]
    by_cases c : (strip p n).1 = 0
    · rw [if_pos c, if_pos c]; exact ih _ _ _ (by omega) hn (by omega) (by omega)
    · rw [if_neg c, if_neg c, ih (p + 1) (strip p n).2 g (by omega) sl.2 (by omega) (by omega)]

theorem fac_lt {p n : Nat} (h : n < p) : fac p n = [] := facF_lt h
theorem fac_no {p n : Nat} (hp : 2 ≤ p) (hn : 1 ≤ n) (h : n % p ≠ 0) : fac p n = fac (p + 1) n := by
  by_cases c : n < p
  · rw [fac_lt c, fac_lt (by omega)]
  · have e : strip p n = (0, n) := strip_eq hp (by simp) h hn
    show facF (n + 1) p n = _
    conv => lhs; unfold facF
    rw [if_neg c, e, if_pos rfl]
    exact facF_more _ _ _ _ (by omega) hn (by omega) (by omega)
theorem fac_yes {p j m : Nat} (hp : 2 ≤ p) (hj : 1 ≤ j) (hm : m % p ≠ 0) (h1 : 1 ≤ m) : fac p (p ^ j * m) = (p, j) :: fac (p + 1) m := by
  have a : p ^ 1 ≤ p ^ j := Nat.pow_le_pow_right (by omega) hj
  have b : p ^ j * 1 ≤ p ^ j * m := Nat.mul_le_mul_left _ h1
  have c : 1 * m ≤ p ^ j * m := Nat.mul_le_mul_right _ (Nat.pow_pos (by omega))
  rw [Nat.pow_one] at a
  have e : strip p (p ^ j * m) = (j, m) := strip_eq hp rfl hm h1
  show facF _ p _ = _
  conv => lhs; unfold facF
  rw [if_neg (by omega), e, if_neg (by omega)]
  congr 1
  exact facF_more _ _ _ _ (by omega) h1 (by omega) (by omega)

/-- No number from 2 on below p divides n. -/
def NoLow (p n : Nat) : Prop := ∀ d, 2 ≤ d → d < p → n % d ≠ 0
theorem NoLow.succ {p n : Nat} (h : NoLow p n) (hp : n % p ≠ 0) : NoLow (p + 1) n := fun d h2 hd => by
  by_cases e : d = p
  · subst e; exact hp
  · exact h d h2 (by omega)
theorem NoLow.of_dvd {p n m : Nat} (h : NoLow p n) (hm : m ∣ n) : NoLow p m := fun d h2 hd e =>
  h d h2 hd (Nat.mod_eq_zero_of_dvd (Nat.dvd_trans (Nat.dvd_of_mod_eq_zero e) hm))
theorem NoLow.two (n : Nat) : NoLow 2 n := fun d h2 hd => by omega
theorem NoLow.pr {p n : Nat} (h : NoLow p n) (hp : 2 ≤ p) (hn : p ∣ n) : Pr p := by
  refine ⟨hp, fun d hd => ?_⟩
  by_cases d1 : d = 1
  · exact Or.inl d1
  · right
    have d0 := Nat.pos_of_dvd_of_pos hd (by omega)
    have dp := Nat.le_of_dvd (by omega) hd
    refine Nat.le_antisymm dp (Nat.le_of_not_lt (fun hlt => h d (by omega) hlt (Nat.mod_eq_zero_of_dvd (Nat.dvd_trans hd hn))))
theorem fac_skip {p n : Nat} (hn : 1 ≤ n) (h : NoLow p n) : 2 ≤ p → fac 2 n = fac p n := by
  intro hp
  induction p with
  | zero => omega
  | succ p ih =>
    by_cases c : 2 ≤ p
    · rw [ih (fun d h2 hd => h d h2 (by omega)) c, fac_no c hn (h p c (by omega))]
    · have : p = 1 := by omega
      subst this; rfl

/-- Each way a number can be: 1, or a power of its least prime times a number that only greater primes divide. -/
theorem least_prime (n : Nat) (hn : 2 ≤ n) : ∃ p j m, Pr p ∧ 1 ≤ j ∧ 1 ≤ m ∧ n = p ^ j * m ∧ m % p ≠ 0 ∧ NoLow p n := by
  have key : ∀ d p, p + d = n → 2 ≤ p → NoLow p n → ∃ q, Pr q ∧ q ∣ n ∧ NoLow q n := by
    intro d
    induction d with
    | zero =>
      intro p h h2 hl
      have : p = n := by omega
      subst this; exact ⟨p, hl.pr h2 (Nat.dvd_refl _), Nat.dvd_refl _, hl⟩
    | succ d ih =>
      intro p h h2 hl
      by_cases c : n % p = 0
      · exact ⟨p, hl.pr h2 (Nat.dvd_of_mod_eq_zero c), Nat.dvd_of_mod_eq_zero c, hl⟩
      · exact ih (p + 1) (by omega) (by omega) (hl.succ c)
  obtain ⟨p, hp, hd, hl⟩ := key (n - 2) 2 (by omega) (by omega) (NoLow.two n)
  obtain ⟨j, m, e, hm, h1⟩ := exists_strip p hp.1 n (by omega)
  refine ⟨p, j, m, hp, ?_, h1, e, hm, hl⟩
  refine Nat.pos_of_ne_zero (fun j0 => ?_)
  subst j0
  rw [Nat.pow_zero, Nat.one_mul] at e
  subst e; exact hm (Nat.mod_eq_zero_of_dvd hd)

theorem dvd_pow_mul (p j m : Nat) : m ∣ p ^ j * m := Nat.dvd_mul_left _ _

/-- The factors of a number, by its least prime. -/
theorem fac_step {p j m : Nat} (hp : Pr p) (hj : 1 ≤ j) (h1 : 1 ≤ m) (hm : m % p ≠ 0) (hl : NoLow p (p ^ j * m)) :
    fac 2 (p ^ j * m) = (p, j) :: fac 2 m := by
  have n1 : 1 ≤ p ^ j * m := Nat.mul_le_mul (Nat.pow_pos (n := j) (show 0 < p by have := hp.1; omega)) h1
  rw [fac_skip n1 hl hp.1, fac_yes hp.1 hj hm h1, fac_skip h1 ((hl.of_dvd (dvd_pow_mul p j m)).succ hm) (by have := hp.1; omega)]
theorem fac_one : fac 2 1 = [] := rfl

/-- The product of powers. -/
def prodF : List (Nat × Nat) → Nat
  | [] => 1
  | (p, j) :: t => p ^ j * prodF t
theorem induct_fac {P : Nat → Prop} (h1 : P 1) (hs : ∀ p j m, Pr p → 1 ≤ j → 1 ≤ m → m % p ≠ 0 → NoLow p (p ^ j * m) → m < p ^ j * m → P m → P (p ^ j * m)) : ∀ n, 1 ≤ n → P n := by
  intro n
  induction n using Nat.strongRecOn with
  | _ n ih =>
    intro hn
    by_cases c : n = 1
    · subst c; exact h1
    · obtain ⟨p, j, m, hp, hj, hm1, e, hm, hl⟩ := least_prime n (by omega)
      have a : p ^ 1 ≤ p ^ j := Nat.pow_le_pow_right (by have := hp.1; omega) hj
      rw [Nat.pow_one] at a
      have b : 2 * m ≤ p ^ j * m := Nat.mul_le_mul_right _ (by have := hp.1; omega)
      subst e
      exact hs p j m hp hj hm1 hm hl (by omega) (ih m (by omega) hm1)
theorem prodF_fac : ∀ n, 1 ≤ n → prodF (fac 2 n) = n := induct_fac (by rw [fac_one]; rfl) (fun p j m hp hj h1 hm hl _ ih => by rw [fac_step hp hj h1 hm hl]; show p ^ j * prodF (fac 2 m) = _; rw [ih])
theorem NoLow.le {p n q : Nat} (h : NoLow p n) (hq : 2 ≤ q) (hd : q ∣ n) : p ≤ q := Nat.le_of_not_lt (fun hlt => h q hq hlt (Nat.mod_eq_zero_of_dvd hd))
theorem mem_fac : ∀ n, 1 ≤ n → ∀ q e, (q, e) ∈ fac 2 n → Pr q ∧ 1 ≤ e ∧ q ∣ n :=
  induct_fac (by rw [fac_one]; intro q e h; cases h) (fun p j m hp hj h1 hm hl _ ih q e h => by
    rw [fac_step hp hj h1 hm hl] at h
    rcases List.mem_cons.1 h with h | h
    · obtain ⟨rfl, rfl⟩ := Prod.mk.inj h
      exact ⟨hp, hj, Nat.dvd_trans (Nat.dvd_trans (by rw [Nat.pow_one]; exact Nat.dvd_refl _) (Nat.pow_dvd_pow q hj)) (Nat.dvd_mul_right _ _)⟩
    · have := ih q e h
      exact ⟨this.1, this.2.1, Nat.dvd_trans this.2.2 (dvd_pow_mul p j m)⟩)
theorem fac_ascend : ∀ n, 1 ≤ n → (fac 2 n).Pairwise (fun a b => a.1 < b.1) :=
  induct_fac (by rw [fac_one]; exact List.Pairwise.nil) (fun p j m hp hj h1 hm hl _ ih => by
    rw [fac_step hp hj h1 hm hl]
    refine List.pairwise_cons.2 ⟨fun b hb => ?_, ih⟩
    obtain ⟨q, e⟩ := b
    have h := mem_fac m h1 q e hb
    have l1 : p ≤ q := hl.le h.1.1 (Nat.dvd_trans h.2.2 (dvd_pow_mul p j m))
    have l2 : p ≠ q := fun e => hm (by rw [e]; exact Nat.mod_eq_zero_of_dvd h.2.2)
    show p < q
    omega)
theorem Pr.coprime {p d : Nat} (hp : Pr p) (hd : d % p ≠ 0) : Nat.Coprime d p := by
  rcases hp.2 (Nat.gcd d p) (Nat.gcd_dvd_right d p) with h | h
  · exact h
  · exact absurd (Nat.mod_eq_zero_of_dvd (h ▸ Nat.gcd_dvd_left d p)) hd
theorem Pr.dvd_mul {p a b : Nat} (hp : Pr p) (h : p ∣ a * b) : p ∣ a ∨ p ∣ b := by
  by_cases c : a % p = 0
  · exact Or.inl (Nat.dvd_of_mod_eq_zero c)
  · exact Or.inr ((hp.coprime c).symm.dvd_of_dvd_mul_left h)
theorem Pr.dvd_pow {p q j : Nat} (hp : Pr p) (hq : Pr q) (h : p ∣ q ^ j) : p = q := by
  induction j with
  | zero => rw [Nat.pow_zero] at h; have := Nat.le_of_dvd (by omega) h; have := hp.1; omega
  | succ j ih =>
    rw [Nat.pow_succ] at h
    rcases hp.dvd_mul h with h | h
    · exact ih h
    · rcases hq.2 p h with h | h
      · have := hp.1; omega
      · exact h
theorem fac_all : ∀ n, 1 ≤ n → ∀ q, Pr q → q ∣ n → ∃ e, (q, e) ∈ fac 2 n :=
  induct_fac (fun q hq h => by have := Nat.le_of_dvd (by omega) h; have := hq.1; omega) (fun p j m hp hj h1 hm hl _ ih q hq h => by
    rw [fac_step hp hj h1 hm hl]
    rcases hq.dvd_mul h with h | h
    · exact ⟨j, by rw [hq.dvd_pow hp h]; simp⟩
    · obtain ⟨e, he⟩ := ih q hq h; exact ⟨e, List.mem_cons_of_mem _ he⟩)
theorem fac_length_le : ∀ n, 1 ≤ n → (fac 2 n).length ≤ n :=
  induct_fac (by rw [fac_one]; simp) (fun p j m hp hj h1 hm hl hlt ih => by rw [fac_step hp hj h1 hm hl, List.length_cons]; omega)
theorem fac_times_le : ∀ n, 1 ≤ n → ∀ q e, (q, e) ∈ fac 2 n → e ≤ n ∧ q ≤ n := fun n hn q e h => by
  have := mem_fac n hn q e h
  refine ⟨?_, Nat.le_of_dvd hn this.2.2⟩
  have key : ∀ L : List (Nat × Nat), (∀ q e, (q, e) ∈ L → 2 ≤ q) → (q, e) ∈ L → e ≤ prodF L := by
    intro L
    induction L with
    | nil => intro _ h; cases h
    | cons x t ih =>
      intro ha h
      obtain ⟨a, b⟩ := x
      have a2 := ha a b (by simp)
      have tp : ∀ M : List (Nat × Nat), (∀ q e, (q, e) ∈ M → 2 ≤ q) → 1 ≤ prodF M := by
        intro M
        induction M with
        | nil => intro _; exact Nat.le_refl _
        | cons y u ihm =>
          intro hb
          obtain ⟨c, d⟩ := y
          have := hb c d (by simp)
          exact Nat.mul_le_mul (Nat.pow_pos (n := d) (show 0 < c by omega)) (ihm (fun q e h => hb q e (List.mem_cons_of_mem _ h)))
      have t1 := tp t (fun q e h => ha q e (List.mem_cons_of_mem _ h))
      show e ≤ a ^ b * prodF t
      rcases List.mem_cons.1 h with h | h
      · obtain ⟨rfl, rfl⟩ := Prod.mk.inj h
        have l1 : e < q ^ e := Nat.lt_pow_self (by omega)
        have l2 : q ^ e * 1 ≤ q ^ e * prodF t := Nat.mul_le_mul_left _ t1
        omega
      · have l1 := ih (fun q e h => ha q e (List.mem_cons_of_mem _ h)) h
        have l2 : 1 * prodF t ≤ a ^ b * prodF t := Nat.mul_le_mul_right _ (Nat.pow_pos (by omega))
        omega
  have := key (fac 2 n) (fun q e h => (mem_fac n hn q e h).1.1) h
  rw [prodF_fac n hn] at this
  exact this

end Go.Proofs.YtcihlmfjbfgfoaaDoor.Math
