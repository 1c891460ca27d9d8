/- Each number from 2 up to a drawn number is told exactly if one prime alone divides it, in ascending order. -/
import Derived.Test.YtjhnjlakdokncaaPFnPrimePowersx0
import Derived.Test.YtjhnjlakdokncaaPFnPrimePowersx1
import Derived.Test.YtjhnjlakdokncaaPFnPrimePowersx2
import Derived.Test.YtjhnjlakdokncaaPFnPrimePowersx3
import Derived.Test.YtjhnjlakdokncaaM1
import Derived.Test.YtjhnjlakdokncaaM2
import Derived.Test.YtjhnjlakdokncaaWSized
namespace Go.Proofs.Ytjhnjlakdokncaa.Pure
open Go.RowKit Go.Proofs.Ytjhnjlakdokncaa.PFnPrimePowers Go.Proofs.YtjhnjlakdokncaaW.PrintWords Go.Proofs.YtjhnjlakdokncaaW.PrintLast Go.Proofs.YtjhnjlakdokncaaW.PrintMore Go.Proofs.Ytjhnjlakdokncaa.Math
set_option linter.unusedVariables false
set_option linter.unusedSimpArgs false
theorem w64 {x : Int} (h : -9223372036854775808 ≤ x ∧ x ≤ 9223372036854775807) : wrap64 x = x := by unfold wrap64; omega
theorem Ev.k {α : Type} {g : Nat → Option α} {r : α} (h : Ev g r) : ∃ k, g k = some r := Ev.rounds h
theorem Ev.to {α : Type} {g : Nat → Option α} {r s : α} (h : Ev g r) (e : r = s) : Ev g s := e ▸ h
theorem Ev.ret {α : Type} {r s : α} (e : r = s) : Ev (fun _ => some r) s := e ▸ Ev.now r

/-- Natural numbers as the program's numbers. -/
def ints (l : List Nat) : List Int := l.map (fun x : Nat => (x : Int))
theorem ints_length (l : List Nat) : (ints l).length = l.length := by simp [ints]
theorem ints_append (l m : List Nat) : ints (l ++ m) = ints l ++ ints m := by simp [ints]
theorem ints_reverse (l : List Nat) : (ints l).reverse = ints l.reverse := by simp [ints]

/-- Factors as the program tells them: rows of two numbers. -/
def rowsF (L : List (Nat × Nat)) : List (List Int) := L.map (fun x : Nat × Nat => [(x.1 : Int), (x.2 : Int)])
theorem rowsF_length (L : List (Nat × Nat)) : (rowsF L).length = L.length := by simp [rowsF]

theorem ev_fac_l1 (out : List (List Int)) (hout : out.length ≤ 1000000) (p : Nat) (hp : 2 ≤ p ∧ p ≤ 10000) (r : List (List Int)) (t m : Nat) (hm : m % p ≠ 0) (h1 : 1 ≤ m ∧ m ≤ 10000)
    (hN : Ev (fun k => impl_factors.l0 k (m : Int) (if t = 0 then out else out ++ [[(p : Int), (t : Int)]]) ((p + 1 : Nat) : Int)) r) :
    ∀ (j c : Nat), c + j = t → p ^ j * m ≤ 10000 → t ≤ 10000 →
    Ev (fun k => impl_factors.l1 k ((p ^ j * m : Nat) : Int) out (p : Int) (c : Int)) r := by
  intro j
  induction j with
  | zero =>
    intro c hc hb ht
    refine Ev.step (fun k => by rw [impl_factors.l1]) ?_
    have c0 : ¬ (p : Int) = 0 := by omega
    have c1 : ¬ ((m % p : Nat) : Int) = 0 := by omega
    simp only [Nat.pow_zero, Nat.one_mul, if_neg c0, ← Int.ofNat_tmod, if_neg c1, w64 (x := (p : Int) + 1) (by omega)]
    have e : c = t := by omega
    subst e
    by_cases z : c = 0
    · have c2 : ¬ (c : Int) > 0 := by omega
      rw [if_pos z] at hN
      simp only [if_neg c2]; exact hN
    · have c2 : (0 : Int) < (c : Int) := by omega
      have c3 : out.length < 5864062014805 := by omega
      rw [if_neg z] at hN
      simp only [gt_iff_lt, if_pos c2, if_pos c3]; exact hN
  | succ j ih =>
    intro c hc hb ht
    refine Ev.step (fun k => by rw [impl_factors.l1]) ?_
    have e : p ^ (j + 1) * m = p * (p ^ j * m) := by rw [Nat.pow_succ, Nat.mul_comm (p ^ j) p, Nat.mul_assoc]
    have c0 : ¬ (p : Int) = 0 := by omega
    have c1 : ((p ^ (j + 1) * m % p : Nat) : Int) = 0 := by rw [e, Nat.mul_mod_right]; rfl
    have c2 : p ^ (j + 1) * m / p = p ^ j * m := by rw [e, Nat.mul_div_cancel_left _ (by omega)]
    have b2 : 1 * (p ^ j * m) ≤ p * (p ^ j * m) := Nat.mul_le_mul_right _ (by omega)
    simp only [if_neg c0, ← Int.ofNat_tmod, ← Int.ofNat_tdiv, if_pos c1, c2, w64 (x := ((p ^ j * m : Nat) : Int)) (by omega), w64 (x := (c : Int) + 1) (by omega)]
    exact ih (c + 1) (by omega) (by omega) ht
theorem ev_fac_one (out : List (List Int)) (p : Int) : Ev (fun k => impl_factors.l0 k 1 out p) out := by
  refine Ev.step (fun k => by rw [impl_factors.l0]) ?_
  have c : ¬ (1 : Int) > 1 := by omega
  simp only [if_neg c]
  exact Ev.now _
theorem ev_fac_l0 : ∀ (d p n : Nat) (out : List (List Int)), p + d = 102 → 2 ≤ p → 1 ≤ n → n ≤ 10000 → out.length ≤ p → NoLow p n →
    Ev (fun k => impl_factors.l0 k (n : Int) out (p : Int)) (out ++ rowsF (fac p n)) := by
  intro d
  induction d with
  | zero =>
    intro p n out hd hp h1 hn ho hl
    by_cases c : n = 1
    · subst c; rw [fac_lt (by omega)]; simpa [rowsF] using ev_fac_one out (p : Int)
    refine Ev.step (fun k => by rw [impl_factors.l0]) ?_
    have c1 : (1 : Int) < (n : Int) := by omega
    have e : p = 102 := by omega
    subst e
    have c2 : (n : Int) < ((102 : Nat) : Int) * ((102 : Nat) : Int) := by omega
    have hpr : Pr n := pr_of_root (d := 102) (by omega) (by omega) hl
    have hf : fac 102 n = [(n, 1)] := by
      rw [← fac_skip h1 hl (by omega), fac_skip h1 (p := n) ?_ (by omega)]
      · have := fac_yes (p := n) (j := 1) (m := 1) (by omega) (by omega) (by rw [Nat.mod_eq_of_lt (by omega)]; omega) (by omega)
        rw [Nat.pow_one, Nat.mul_one] at this
        rw [this, fac_lt (by omega)]
      · intro x h2 hx e
        rcases hpr.2 x (Nat.dvd_of_mod_eq_zero e) with h | h <;> omega
    simp only [gt_iff_lt, if_pos c1, w64 (x := ((102 : Nat) : Int) * ((102 : Nat) : Int)) (by omega), if_pos c2]
    refine Ev.step (fun k => by rw [impl_factors.j1]) ?_
    rw [hf]
    have := ev_fac_l1 out (by omega) n ⟨by omega, hn⟩ (out ++ rowsF [(n, 1)]) 1 1 (by rw [Nat.mod_eq_of_lt (by omega)]; omega) (by omega) (by simpa [rowsF] using ev_fac_one (out ++ [[(n : Int), 1]]) ((n : Int) + 1)) 1 0 (by omega) (by rw [Nat.pow_one]; omega) (by omega)
    rw [Nat.pow_one, Nat.mul_one] at this
    exact this
  | succ d ih =>
    intro p n out hd hp h1 hn ho hl
    by_cases c : n = 1
    · subst c; rw [fac_lt (by omega)]; simpa [rowsF] using ev_fac_one out (p : Int)
    refine Ev.step (fun k => by rw [impl_factors.l0]) ?_
    have c1 : (1 : Int) < (n : Int) := by omega
    have pp : p * p ≤ 101 * 101 := Nat.mul_le_mul (by omega) (by omega)
    have ep : (p : Int) * (p : Int) = ((p * p : Nat) : Int) := by simp
    simp only [gt_iff_lt, if_pos c1, ep, w64 (x := ((p * p : Nat) : Int)) (by omega)]
    by_cases hpp : n < p * p
    · have c2 : (n : Int) < ((p * p : Nat) : Int) := by omega
      have hpr : Pr n := pr_of_root (d := p) (by omega) hpp hl
      have hln : NoLow n n := fun x h2 hx e => by
        rcases hpr.2 x (Nat.dvd_of_mod_eq_zero e) with h | h <;> omega
      have hf : fac p n = [(n, 1)] := by
        rw [← fac_skip h1 hl hp, fac_skip h1 (p := n) hln (by omega)]
        have := fac_yes (p := n) (j := 1) (m := 1) (by omega) (by omega) (by rw [Nat.mod_eq_of_lt (by omega)]; omega) (by omega)
        rw [Nat.pow_one, Nat.mul_one] at this
        rw [this, fac_lt (by omega)]
      simp only [if_pos c2]
      refine Ev.step (fun k => by rw [impl_factors.j1]) ?_
      rw [hf]
      have := ev_fac_l1 out (by omega) n ⟨by omega, hn⟩ (out ++ rowsF [(n, 1)]) 1 1 (by rw [Nat.mod_eq_of_lt (by omega)]; omega) (by omega) (by simpa [rowsF] using ev_fac_one (out ++ [[(n : Int), 1]]) ((n : Int) + 1)) 1 0 (by omega) (by rw [Nat.pow_one]; omega) (by omega)
      rw [Nat.pow_one, Nat.mul_one] at this
      exact this
    · have c2 : ¬ (n : Int) < ((p * p : Nat) : Int) := by omega
      simp only [if_neg c2]
      refine Ev.step (fun k => by rw [impl_factors.j1]) ?_
      obtain ⟨j, m, e, hm, hm1⟩ := exists_strip p hp n h1
      have hj : j < p ^ j := Nat.lt_pow_self (by omega)
      have b1 : p ^ j * 1 ≤ p ^ j * m := Nat.mul_le_mul_left _ hm1
      have b2 : 1 * m ≤ p ^ j * m := Nat.mul_le_mul_right _ (Nat.pow_pos (by omega))
      have hlm : NoLow (p + 1) m := (hl.of_dvd (by rw [e]; exact dvd_pow_mul p j m)).succ hm
      have ihm := ih (p + 1) m (if j = 0 then out else out ++ [[(p : Int), (j : Int)]]) (by omega) (by omega) hm1 (by omega) (by split <;> (try simp) <;> omega) hlm
      have main := ev_fac_l1 out (by omega) p ⟨hp, by omega⟩ _ j m hm ⟨hm1, by omega⟩ ihm j 0 (by omega) (by omega) (by omega)
      rw [← e] at main
      refine Ev.to main ?_
      by_cases z : j = 0
      · subst z
        rw [Nat.pow_zero, Nat.one_mul] at e
        subst e
        rw [if_pos rfl, ← fac_no hp h1 hm]
      · rw [if_neg z, e, fac_yes hp (by omega) hm hm1]; simp [rowsF]
theorem ev_factors (n : Nat) (h1 : 1 ≤ n) (hn : n ≤ 10000) : Ev (fun k => impl_factors.f k (n : Int)) (rowsF (fac 2 n)) := by
  unfold impl_factors.f
  exact ev_fac_l0 100 2 n [] (by omega) (by omega) h1 hn (by simp) (NoLow.two n)

/-- The powers of primes from 2 on below a bound. -/
def pps (d : Nat) : List Nat := (List.range' 2 (d - 2)).filter (fun n => (fac 2 n).length == 1)
theorem pps_succ (d : Nat) (h : 2 ≤ d) : pps (d + 1) = if (fac 2 d).length = 1 then pps d ++ [d] else pps d := by
  unfold pps
  obtain ⟨c, rfl⟩ : ∃ c, d = c + 2 := ⟨d - 2, by omega⟩
  simp only [show c + 2 + 1 - 2 = c + 1 by omega, show c + 2 - 2 = c by omega, List.range'_1_concat, List.filter_append, List.filter_cons, List.filter_nil, beq_iff_eq, Nat.add_comm 2 c]
  split <;> simp
theorem pps_length (d : Nat) : (pps d).length ≤ d := by
  unfold pps; exact Nat.le_trans (List.length_filter_le _ _) (by simp)
theorem ev_primePowers_l (most : Nat) (hm : most ≤ 10000) : ∀ (e d : Nat), 2 ≤ d → d + e = max 2 (most + 1) →
    Ev (fun k => impl_primePowers.l0 k (most : Int) (ints (pps d)) (d : Int)) (ints (pps (max 2 (most + 1)))) := by
  intro e
  induction e with
  | zero =>
    intro d hd he
    refine Ev.step (fun k => by rw [impl_primePowers.l0]) ?_
    have c : ¬ (d : Int) ≤ (most : Int) := by omega
    simp only [if_neg c]
    exact Ev.ret (by rw [show d = max 2 (most + 1) by omega])
  | succ e ih =>
    intro d hd he
    refine Ev.step (fun k => by rw [impl_primePowers.l0]) ?_
    have c : (d : Int) ≤ (most : Int) := by omega
    have l1 : (ints (pps d)).length < 17592186044416 := by rw [ints_length]; have := pps_length d; omega
    have ih' := ih (d + 1) (by omega) (by omega)
    rw [pps_succ d hd] at ih'
    simp only [if_pos c, if_pos l1, w64 (x := (d : Int) + 1) (by omega)]
    refine Ev.bind (ev_factors d (by omega) (by omega)) ?_
    rw [rowsF_length]
    by_cases z : (fac 2 d).length = 1
    · have z1 : ((fac 2 d).length : Int) = 1 := by omega
      rw [if_pos z, ints_append] at ih'
      simp only [if_pos z1]; exact ih'
    · have z1 : ¬ ((fac 2 d).length : Int) = 1 := by omega
      rw [if_neg z] at ih'
      simp only [if_neg z1]; exact ih'
theorem ev_primePowers (most : Nat) (hm : most ≤ 10000) : Ev (fun k => impl_primePowers.f k (most : Int)) (ints (pps (max 2 (most + 1)))) := by
  unfold impl_primePowers.f
  exact ev_primePowers_l most hm (max 2 (most + 1) - 2) 2 (by omega) (by omega)

def ppsZ (n : Int) : List Int := if 1 ≤ n ∧ n ≤ 24 then ints (pps (max 2 (n.toNat + 1))) else []
theorem ppsZ_length (n : Int) : (ppsZ n).length ≤ 100 := by
  unfold ppsZ
  by_cases h : 1 ≤ n ∧ n ≤ 24
  · rw [if_pos h, ints_length]; have := pps_length (max 2 (n.toNat + 1)); omega
  · rw [if_neg h]; simp
theorem ev_PrimePowers (n : Int) : Ev (fun k => impl_PrimePowers.f k n) (ppsZ n) := by
  unfold impl_PrimePowers.f ppsZ
  by_cases h1 : n < 1
  · rw [if_neg (by omega)]; simp only [if_pos h1]; exact Ev.now _
  by_cases h2 : 24 < n
  · rw [if_neg (by omega)]; simp only [if_neg h1, gt_iff_lt, if_pos h2]; exact Ev.now _
  obtain ⟨m, rfl⟩ := Int.eq_ofNat_of_zero_le (show 0 ≤ n by omega)
  rw [if_pos (by omega)]
  simp only [if_neg h1, gt_iff_lt, if_neg h2, Int.toNat_natCast]
  exact Ev.bind (ev_primePowers m (by omega)) (Ev.now _)

theorem l1In_f (a b c : Int) : spec_l1In.f a b c = some (decide (b ≤ a ∧ a ≤ c)) := by
  unfold spec_l1In.f
  by_cases h : a ≥ b
  · rw [if_pos h]; simp [show b ≤ a from h]
  · rw [if_neg h]; simp [show ¬ b ≤ a from h]

theorem ev_sfac_l1 (x0 : Int) (out : List (List Int)) (hout : out.length ≤ 1000000) (p : Nat) (hp : 2 ≤ p ∧ p ≤ 10000) (r : List (List Int)) (t m : Nat) (hm : m % p ≠ 0) (h1 : 1 ≤ m ∧ m ≤ 10000)
    (hN : Ev (fun k => spec_FactorsOf.l0 k x0 (if t = 0 then out else out ++ [[(p : Int), (t : Int)]]) (m : Int) ((p + 1 : Nat) : Int)) r) :
    ∀ (j c : Nat), c + j = t → p ^ j * m ≤ 10000 → t ≤ 10000 →
    Ev (fun k => spec_FactorsOf.l1 k x0 out ((p ^ j * m : Nat) : Int) (p : Int) (c : Int)) r := by
  intro j
  induction j with
  | zero =>
    intro c hc hb ht
    refine Ev.step (fun k => by rw [spec_FactorsOf.l1]) ?_
    have c0 : ¬ (p : Int) = 0 := by omega
    have c1 : ¬ ((m % p : Nat) : Int) = 0 := by omega
    simp only [Nat.pow_zero, Nat.one_mul, if_neg c0, ← Int.ofNat_tmod, if_neg c1, w64 (x := (p : Int) + 1) (by omega)]
    have e : c = t := by omega
    subst e
    by_cases z : c = 0
    · have c2 : ¬ (c : Int) > 0 := by omega
      rw [if_pos z] at hN
      simp only [if_neg c2]; exact hN
    · have c2 : (0 : Int) < (c : Int) := by omega
      have c3 : out.length < 5864062014805 := by omega
      rw [if_neg z] at hN
      simp only [gt_iff_lt, if_pos c2, if_pos c3]; exact hN
  | succ j ih =>
    intro c hc hb ht
    refine Ev.step (fun k => by rw [spec_FactorsOf.l1]) ?_
    have e : p ^ (j + 1) * m = p * (p ^ j * m) := by rw [Nat.pow_succ, Nat.mul_comm (p ^ j) p, Nat.mul_assoc]
    have c0 : ¬ (p : Int) = 0 := by omega
    have c1 : ((p ^ (j + 1) * m % p : Nat) : Int) = 0 := by rw [e, Nat.mul_mod_right]; rfl
    have c2 : p ^ (j + 1) * m / p = p ^ j * m := by rw [e, Nat.mul_div_cancel_left _ (by omega)]
    have b2 : 1 * (p ^ j * m) ≤ p * (p ^ j * m) := Nat.mul_le_mul_right _ (by omega)
    simp only [if_neg c0, ← Int.ofNat_tmod, ← Int.ofNat_tdiv, if_pos c1, c2, w64 (x := ((p ^ j * m : Nat) : Int)) (by omega), w64 (x := (c : Int) + 1) (by omega)]
    exact ih (c + 1) (by omega) (by omega) ht
theorem ev_sfac_l0 (x0 : Int) (hx : 1 ≤ x0 ∧ x0 ≤ 10000) : ∀ (d p n : Nat) (out : List (List Int)), p + d = 10002 → 2 ≤ p → 1 ≤ n → n ≤ 10000 → out.length ≤ p →
    Ev (fun k => spec_FactorsOf.l0 k x0 out (n : Int) (p : Int)) (out ++ rowsF (fac p n)) := by
  intro d
  have stop : ∀ (p n : Nat) (out : List (List Int)), n < p → Ev (fun k => spec_FactorsOf.l0 k x0 out (n : Int) (p : Int)) (out ++ rowsF (fac p n)) := by
    intro p n out h
    refine Ev.step (fun k => by rw [spec_FactorsOf.l0]) ?_
    have c : ¬ (p : Int) ≤ (n : Int) := by omega
    simp only [if_neg c]
    refine Ev.step (fun k => by rw [spec_FactorsOf.j1]) ?_
    simp only [Bool.false_eq_true, if_false]
    rw [fac_lt h]
    exact Ev.ret (by simp [rowsF])
  induction d with
  | zero =>
    intro p n out hd hp h1 hn ho
    exact stop p n out (by omega)
  | succ d ih =>
    intro p n out hd hp h1 hn ho
    by_cases c : n < p
    · exact stop p n out c
    refine Ev.step (fun k => by rw [spec_FactorsOf.l0]) ?_
    have c1 : (p : Int) ≤ (n : Int) := by omega
    simp only [if_pos c1, l1In_f, Option.bind_some, decide_eq_true hx]
    refine Ev.step (fun k => by rw [spec_FactorsOf.j1]) ?_
    simp only [if_true]
    obtain ⟨j, m, e, hm, hm1⟩ := exists_strip p hp n h1
    have hj : j < p ^ j := Nat.lt_pow_self (by omega)
    have b1 : p ^ j * 1 ≤ p ^ j * m := Nat.mul_le_mul_left _ hm1
    have b2 : 1 * m ≤ p ^ j * m := Nat.mul_le_mul_right _ (Nat.pow_pos (by omega))
    have ihm := ih (p + 1) m (if j = 0 then out else out ++ [[(p : Int), (j : Int)]]) (by omega) (by omega) hm1 (by omega) (by split <;> (try simp) <;> omega)
    have main := ev_sfac_l1 x0 out (by omega) p ⟨hp, by omega⟩ _ j m hm ⟨hm1, by omega⟩ ihm j 0 (by omega) (by omega) (by omega)
    rw [← e] at main
    refine Ev.to main ?_
    by_cases z : j = 0
    · subst z
      rw [Nat.pow_zero, Nat.one_mul] at e
      subst e
      rw [if_pos rfl, ← fac_no hp h1 hm]
    · rw [if_neg z, e, fac_yes hp (by omega) hm hm1]; simp [rowsF]
theorem ev_sFactorsOf (n : Nat) (h1 : 1 ≤ n) (hn : n ≤ 10000) : Ev (fun k => spec_FactorsOf.f k (n : Int)) (rowsF (fac 2 n)) := by
  unfold spec_FactorsOf.f
  exact ev_sfac_l0 (n : Int) (by omega) 10000 2 n [] (by omega) (by omega) h1 hn (by simp)
theorem ev_sFactorsOf_no {n : Int} (h : ¬ (1 ≤ n ∧ n ≤ 10000)) : Ev (fun k => spec_FactorsOf.f k n) [] := by
  unfold spec_FactorsOf.f
  refine Ev.step (fun k => by rw [spec_FactorsOf.l0]) ?_
  have no : Ev (fun k => spec_FactorsOf.j1 k n [] n 2 false) [] := by
    refine Ev.step (fun k => by rw [spec_FactorsOf.j1]) ?_
    simp only [Bool.false_eq_true, if_false]; exact Ev.now _
  by_cases c : (2 : Int) ≤ n
  · simp only [if_pos c, l1In_f, Option.bind_some, decide_eq_false h]; exact no
  · simp only [if_neg c]; exact no

theorem ev_sPrimePowers_l (most : Nat) (hm : most ≤ 24) : ∀ (e d : Nat), 2 ≤ d → d + e = max 2 (most + 1) →
    Ev (fun k => spec_PrimePowers.l0 k (most : Int) (ints (pps d)) (d : Int)) (ints (pps (max 2 (most + 1)))) := by
  intro e
  induction e with
  | zero =>
    intro d hd he
    refine Ev.step (fun k => by rw [spec_PrimePowers.l0]) ?_
    have c : ¬ (d : Int) ≤ (most : Int) := by omega
    simp only [if_neg c]
    refine Ev.step (fun k => by rw [spec_PrimePowers.j1]) ?_
    simp only [Bool.false_eq_true, if_false]
    exact Ev.ret (by rw [show d = max 2 (most + 1) by omega])
  | succ e ih =>
    intro d hd he
    refine Ev.step (fun k => by rw [spec_PrimePowers.l0]) ?_
    have c : (d : Int) ≤ (most : Int) := by omega
    have c2 : (most : Int) ≤ 24 := by omega
    have l1 : (ints (pps d)).length < 17592186044416 := by rw [ints_length]; have := pps_length d; omega
    have ih' := ih (d + 1) (by omega) (by omega)
    rw [pps_succ d hd] at ih'
    simp only [if_pos c, decide_eq_true c2]
    refine Ev.step (fun k => by rw [spec_PrimePowers.j1]) ?_
    simp only [if_true, if_pos l1, w64 (x := (d : Int) + 1) (by omega)]
    refine Ev.bind (ev_sFactorsOf d (by omega) (by omega)) ?_
    rw [rowsF_length]
    by_cases z : (fac 2 d).length = 1
    · have z1 : ((fac 2 d).length : Int) = 1 := by omega
      rw [if_pos z, ints_append] at ih'
      simp only [if_pos z1]; exact ih'
    · have z1 : ¬ ((fac 2 d).length : Int) = 1 := by omega
      rw [if_neg z] at ih'
      simp only [if_neg z1]; exact ih'
theorem ev_sPrimePowers (n : Int) : Ev (fun k => spec_PrimePowers.f k n) (ppsZ n) := by
  unfold spec_PrimePowers.f ppsZ
  have no : Ev (fun k => spec_PrimePowers.j1 k n [] 2 false) [] := by
    refine Ev.step (fun k => by rw [spec_PrimePowers.j1]) ?_
    simp only [Bool.false_eq_true, if_false]; exact Ev.now _
  by_cases h : 1 ≤ n ∧ n ≤ 24
  · obtain ⟨m, rfl⟩ := Int.eq_ofNat_of_zero_le (show 0 ≤ n by omega)
    rw [if_pos h, Int.toNat_natCast]
    exact ev_sPrimePowers_l m (by omega) (max 2 (m + 1) - 2) 2 (by omega) (by omega)
  · rw [if_neg h]
    refine Ev.step (fun k => by rw [spec_PrimePowers.l0]) ?_
    by_cases c : (2 : Int) ≤ n
    · have c2 : ¬ n ≤ 24 := by omega
      simp only [if_pos c, decide_eq_false c2]; exact no
    · simp only [if_neg c]; exact no

theorem rd_nat (xs : List Int) (i : Nat) : rd xs (i : Int) = xs.getD i 0 := rfl
theorem drop_step (f : List Int) (i : Nat) (h : i < f.length) : f.drop i = f.getD i 0 :: f.drop (i + 1) := by
  rw [List.drop_eq_getElem_cons h]; simp [List.getD_eq_getElem?_getD, List.getElem?_eq_getElem h]
def InB (f : List Int) (m : Int) : Prop := ∀ x ∈ f, -m ≤ x ∧ x ≤ m
instance (f : List Int) (m : Int) : Decidable (InB f m) := by unfold InB; infer_instance
theorem InB_cons (x : Int) (f : List Int) (m : Int) : InB (x :: f) m ↔ (-m ≤ x ∧ x ≤ m) ∧ InB f m := by
  unfold InB; simp
theorem InB_nil (m : Int) : InB [] m := fun x h => by cases h
theorem InB.mono {f : List Int} {m n : Int} (h : InB f m) (hmn : m ≤ n) : InB f n := fun x hx => by have := h x hx; omega

theorem ev_sameInts_l (a b : List Int) (hl : a.length = b.length) (ha : a.length ≤ 1000000000000000) : ∀ (d i : Nat), i + d = a.length →
    Ev (fun k => laws_sameInts.l0 k a b (i : Int)) (decide (a.drop i = b.drop i)) := by
  intro d
  induction d with
  | zero =>
    intro i hi
    refine Ev.step (fun k => by rw [laws_sameInts.l0]) ?_
    have h1 : ¬ (i : Int) < (a.length : Int) := by omega
    simp only [if_neg h1]
    refine Ev.ret ?_
    rw [List.drop_eq_nil_of_le (by omega), List.drop_eq_nil_of_le (by omega)]; simp
  | succ d ih =>
    intro i hi
    refine Ev.step (fun k => by rw [laws_sameInts.l0]) ?_
    have h1 : (i : Int) < (a.length : Int) := by omega
    have h2 : (0 : Int) ≤ (i : Int) := by omega
    have h3 : (i : Int) < (b.length : Int) := by omega
    have ea := drop_step a i (by omega)
    have eb := drop_step b i (by omega)
    simp only [if_pos h1, if_pos h2, if_pos h3, rd_nat, w64 (x := (i : Int) + 1) (by omega)]
    by_cases e : a.getD i 0 = b.getD i 0
    · simp only [if_pos e]
      refine Ev.to (ih (i + 1) (by omega)) ?_
      rw [ea, eb, e]; simp
    · simp only [if_neg e]
      refine Ev.ret ?_
      rw [ea, eb]; simp only [List.cons.injEq, e, false_and, decide_false]
theorem ev_sameInts (a b : List Int) (ha : a.length ≤ 1000000000000000) : Ev (fun k => laws_sameInts.f k a b) (decide (a = b)) := by
  unfold laws_sameInts.f
  by_cases h : (a.length : Int) = (b.length : Int)
  · simp only [if_pos h]
    exact ev_sameInts_l a b (by omega) ha a.length 0 (by omega)
  · simp only [if_neg h]
    refine Ev.ret ?_
    symm; rw [decide_eq_false_iff_not]
    intro e; subst e; exact h rfl

theorem ev_hasInt_l (l : List Int) (x : Int) (hl : l.length ≤ 1000000000000) : ∀ (d i : Nat), i + d = l.length →
    Ev (fun k => laws_hasInt.l0 k l x (i : Int)) (decide (x ∈ l.drop i)) := by
  intro d
  induction d with
  | zero =>
    intro i hi
    refine Ev.step (fun k => by rw [laws_hasInt.l0]) ?_
    have h1 : ¬ (i : Int) < (l.length : Int) := by omega
    simp only [if_neg h1]
    refine Ev.ret ?_
    rw [List.drop_eq_nil_of_le (by omega)]; simp
  | succ d ih =>
    intro i hi
    refine Ev.step (fun k => by rw [laws_hasInt.l0]) ?_
    have h1 : (i : Int) < (l.length : Int) := by omega
    have h2 : (0 : Int) ≤ (i : Int) := by omega
    have e := drop_step l i (by omega)
    simp only [if_pos h1, if_pos h2, rd_nat, w64 (x := (i : Int) + 1) (by omega)]
    by_cases c : l.getD i 0 = x
    · simp only [if_pos c]
      refine Ev.ret ?_
      rw [e, c]; simp
    · simp only [if_neg c]
      refine Ev.to (ih (i + 1) (by omega)) ?_
      rw [e, Bool.eq_iff_iff]; simp only [decide_eq_true_eq, List.mem_cons]
      exact ⟨Or.inr, fun h => h.elim (fun h => absurd h.symm c) id⟩
theorem ev_hasInt (l : List Int) (x : Int) (hl : l.length ≤ 1000000000000) : Ev (fun k => laws_hasInt.f k l x) (decide (x ∈ l)) := by
  unfold laws_hasInt.f
  exact ev_hasInt_l l x hl l.length 0 (by omega)

theorem ev_ascend_l (l : List Int) (hp : l.Pairwise (· < ·)) (hl : l.length ≤ 1000000000000) : ∀ (d i : Nat), 1 ≤ i → l.length ≤ i + d →
    Ev (fun k => laws_ascend.l0 k l (i : Int)) true := by
  intro d
  induction d with
  | zero =>
    intro i h0 hi
    refine Ev.step (fun k => by rw [laws_ascend.l0]) ?_
    have h1 : ¬ (i : Int) < (l.length : Int) := by omega
    simp only [if_neg h1]
    exact Ev.now _
  | succ d ih =>
    intro i h0 hi
    refine Ev.step (fun k => by rw [laws_ascend.l0]) ?_
    by_cases h1 : (i : Int) < (l.length : Int)
    · have h2 : (0 : Int) ≤ (i : Int) := by omega
      have h3 : (0 : Int) ≤ (i : Int) - 1 := by omega
      have h4 : (i : Int) - 1 < (l.length : Int) := by omega
      have h5 : ¬ rd l ((i : Int) - 1) ≥ rd l (i : Int) := by
        have := List.pairwise_iff_getElem.1 hp (i - 1) i (by omega) (by omega) (by omega)
        rw [show (i : Int) - 1 = ((i - 1 : Nat) : Int) by omega, rd_nat, rd_nat, List.getD_eq_getElem?_getD, List.getD_eq_getElem?_getD, List.getElem?_eq_getElem (by omega), List.getElem?_eq_getElem (by omega)]
        simp only [Option.getD_some]; omega
      simp only [w64 (x := (i : Int) - 1) (by omega), if_pos h1, if_pos h2, if_pos h3, if_pos h4, if_neg h5, w64 (x := (i : Int) + 1) (by omega)]
      exact ih (i + 1) (by omega) (by omega)
    · simp only [if_neg h1]
      exact Ev.now _
theorem ev_ascend (l : List Int) (hp : l.Pairwise (· < ·)) (hl : l.length ≤ 1000000000000) : Ev (fun k => laws_ascend.f k l) true := by
  unfold laws_ascend.f
  exact ev_ascend_l l hp hl l.length 1 (by omega) (by omega)

theorem wf_u8 {x : Int} (h : (Lit.int .u8 x).wf = true) : 0 ≤ x ∧ x ≤ 255 := by
  simp [Lit.wf, IntKind.wrap, IntKind.bits, IntKind.signed, IntKind.min, IntKind.max] at h; omega
theorem wf_i64 {x : Int} (h : (Lit.int .i64 x).wf = true) : -9223372036854775808 ≤ x ∧ x ≤ 9223372036854775807 := by
  simp [Lit.wf, IntKind.wrap, IntKind.bits, IntKind.signed, IntKind.min, IntKind.max] at h; omega
theorem xor_nonneg (x y : Int) (h0 : 0 ≤ x) (h1 : x < 4611686018427387904) (h2 : 0 ≤ y) (h3 : y < 4611686018427387904) : 0 ≤ Go.bits .xor .i64 x y := by
  obtain ⟨a, rfl⟩ := Int.eq_ofNat_of_zero_le h0
  obtain ⟨b, rfl⟩ := Int.eq_ofNat_of_zero_le h2
  have ha : a < 2 ^ 62 := by omega
  have hb : b < 2 ^ 62 := by omega
  have hx := Nat.xor_lt_two_pow ha hb
  have ha' : a % 2 ^ 64 = a := Nat.mod_eq_of_lt (by omega)
  have hb' : b % 2 ^ 64 = b := Nat.mod_eq_of_lt (by omega)
  have e : Go.bits .xor .i64 ((a : Nat) : Int) ((b : Nat) : Int) = IntKind.i64.wrap ((a ^^^ b : Nat) : Int) := by
    simp only [Go.bits, IntKind.bits, BitVec.ofInt_natCast]
    show IntKind.i64.wrap (((BitVec.ofNat 64 a ^^^ BitVec.ofNat 64 b).toNat : Nat) : Int) = _
    rw [BitVec.toNat_xor, BitVec.toNat_ofNat, BitVec.toNat_ofNat, ha', hb']
  rw [e]
  simp only [IntKind.wrap, IntKind.bits, IntKind.signed]
  simp
  omega
/-- The bytes of a draw. -/
def Bytes (b : List Int) : Prop := b.length ≤ 2000 ∧ ∀ x ∈ b, 0 ≤ x ∧ x ≤ 255
theorem Bytes.rd {b : List Int} (hb : Bytes b) (i : Int) : 0 ≤ rd b i ∧ rd b i ≤ 255 := by
  show 0 ≤ b.getD i.toNat 0 ∧ b.getD i.toNat 0 ≤ 255
  rw [List.getD_eq_getElem?_getD]
  by_cases h : i.toNat < b.length
  · rw [List.getElem?_eq_getElem h]; exact hb.2 _ (List.getElem_mem _)
  · rw [List.getElem?_eq_none (by omega)]; simp
theorem ev_pick {b : List Int} (hb : Bytes b) (p n : Int) (hp : 0 ≤ p ∧ p ≤ 1000000) (hn : 1 ≤ n ∧ n ≤ 1000000000000) :
    ∃ r, (0 ≤ r ∧ r < n) ∧ Ev (fun k => spec_l20Rd_pick.f k b p n) (r, p + 1) := by
  have g0 : ¬ n < 1 := by omega
  unfold spec_l20Rd_pick.f
  simp only [if_neg g0, w64 (x := p + 1) (by omega)]
  have e1 : p + 1 - 1 = p := by omega
  by_cases h0 : (b.length : Int) = 0
  · refine ⟨0, by omega, Ev.step (fun k => by rw [spec_l20Rd_pick.j0]) ?_⟩
    simp only [h0, beq_self_eq_true, if_true]; exact Ev.now _
  have hl := hb.1
  have n0 : ¬ n = 0 := by omega
  by_cases h1 : p < (b.length : Int)
  · have hr := hb.rd p
    refine ⟨Int.tmod (rd b p) n, ?_, Ev.step (fun k => by rw [spec_l20Rd_pick.j0]) ?_⟩
    · rw [Int.tmod_eq_emod_of_nonneg hr.1]; exact ⟨Int.emod_nonneg _ n0, Int.emod_lt_of_pos _ (by omega)⟩
    · simp only [e1, w64 (x := p) (by omega), beq_eq_false_iff_ne.2 h0, Bool.false_eq_true, if_false, if_pos h1, if_pos hp.1, if_neg n0, w64 (x := rd b p) (by omega)]
      exact Ev.now _
  · have L0 : (0 : Int) < (b.length : Int) := by omega
    have m1 : Int.tmod p (b.length : Int) = p % (b.length : Int) := Int.tmod_eq_emod_of_nonneg hp.1
    have m2 : Int.tmod (p * 7 + 3) (b.length : Int) = (p * 7 + 3) % (b.length : Int) := Int.tmod_eq_emod_of_nonneg (by omega)
    have q1 : Int.tdiv p (b.length : Int) = p / (b.length : Int) := Int.tdiv_eq_ediv_of_nonneg hp.1
    have a1 := Int.emod_nonneg p (show (b.length : Int) ≠ 0 from h0)
    have a2 := Int.emod_lt_of_pos p L0
    have a3 := Int.emod_nonneg (p * 7 + 3) (show (b.length : Int) ≠ 0 from h0)
    have a4 := Int.emod_lt_of_pos (p * 7 + 3) L0
    have a5 : 0 ≤ p / (b.length : Int) := Int.ediv_nonneg hp.1 (by omega)
    have a6 : p / (b.length : Int) ≤ p := Int.ediv_le_self _ hp.1
    have u := hb.rd (p % (b.length : Int))
    have v := hb.rd ((p * 7 + 3) % (b.length : Int))
    generalize hU : rd b (p % (b.length : Int)) = U at *
    generalize hV : rd b ((p * 7 + 3) % (b.length : Int)) = V at *
    generalize hQ : p / (b.length : Int) = Q at *
    generalize hM : p % (b.length : Int) = M at *
    generalize hM2 : (p * 7 + 3) % (b.length : Int) = M2 at *
    generalize hX : U * 131 + V * 1117 + p * 29 + Q * 53 = X at *
    have x0 : 0 ≤ X := by omega
    have x1 : X ≤ 1000000000000 := by omega
    have d1 : Int.tdiv X 64 = X / 64 := Int.tdiv_eq_ediv_of_nonneg x0
    have y := xor_nonneg X (X / 64) x0 (by omega) (by omega) (by omega)
    refine ⟨Int.tmod (Go.bits .xor .i64 X (X / 64)) n, ?_, Ev.step (fun k => by rw [spec_l20Rd_pick.j0]) ?_⟩
    · rw [Int.tmod_eq_emod_of_nonneg y]; exact ⟨Int.emod_nonneg _ n0, Int.emod_lt_of_pos _ (by omega)⟩
    · simp only [e1, w64 (x := p) (by omega), w64 (x := p * 7) (by omega), w64 (x := p * 7 + 3) (by omega), beq_eq_false_iff_ne.2 h0, Bool.false_eq_true, if_false, if_neg h1, if_neg h0, m1, m2, q1, if_pos a1, if_pos a2, if_pos a3, if_pos a4, if_neg n0, hU, hV, w64 (x := U) (by omega), w64 (x := V) (by omega), w64 (x := U * 131) (by omega), w64 (x := V * 1117) (by omega), w64 (x := U * 131 + V * 1117) (by omega), w64 (x := p * 29) (by omega), w64 (x := U * 131 + V * 1117 + p * 29) (by omega), w64 (x := Q) (by omega), w64 (x := Q * 53) (by omega), hX, w64 (x := X) (by omega), d1, w64 (x := X / 64) (by omega)]
      exact Ev.now _

theorem open_l (l : List Int) (h : ∀ x ∈ l, (Lit.int .u8 x).wf = true) : ∃ b, Bytes b ∧ spec_l20Open.f l = some (b, 0) := by
  unfold spec_l20Open.f
  by_cases c : (l.length : Int) > 2000
  · refine ⟨l.take 2000, ⟨by simp; omega, fun x hx => wf_u8 (h x (List.mem_of_mem_take hx))⟩, ?_⟩
    rw [if_pos c, if_pos (by omega)]
  · exact ⟨l, ⟨by omega, fun x hx => wf_u8 (h x hx)⟩, by rw [if_neg c]⟩

theorem numberOk_f (a : Int) : impl_numberOk.f a = some (decide (1 ≤ a ∧ a ≤ 10000)) := by
  unfold impl_numberOk.f
  by_cases h : a ≥ 1
  · rw [if_pos h]; simp [show 1 ≤ a from h]
  · rw [if_neg h]; simp [show ¬ 1 ≤ a from h]

theorem alive_f : laws_alive.f = some true := by
  unfold laws_alive.f impl_DividesOk.f
  simp only [numberOk_f, Option.bind_some]; simp

theorem ev_FactorsOf_nat (n : Nat) (h1 : 1 ≤ n) (hn : n ≤ 10000) : Ev (fun k => impl_FactorsOf.f k (n : Int)) (rowsF (fac 2 n)) := by
  unfold impl_FactorsOf.f
  simp only [numberOk_f, Option.bind_some, decide_eq_true_eq]
  have h : 1 ≤ (n : Int) ∧ (n : Int) ≤ 10000 := by omega
  simp only [if_pos h]
  exact Ev.bind (ev_factors n h1 hn) (Ev.now _)
theorem mem_pps {d n : Nat} : n ∈ pps d ↔ 2 ≤ n ∧ n < d ∧ (fac 2 n).length = 1 := by
  unfold pps
  simp only [List.mem_filter, List.mem_range'_1, beq_iff_eq]
  constructor
  · rintro ⟨⟨a, b⟩, c⟩; exact ⟨a, by omega, c⟩
  · rintro ⟨a, b, c⟩; exact ⟨⟨a, by omega⟩, c⟩
theorem ints_mem {l : List Nat} {n : Nat} : (n : Int) ∈ ints l ↔ n ∈ l := by
  unfold ints; rw [List.mem_map]
  constructor
  · rintro ⟨a, ha, e⟩; have : a = n := by omega
    subst this; exact ha
  · intro h; exact ⟨n, h, rfl⟩
theorem ints_sorted {l : List Nat} (h : l.Pairwise (· < ·)) : (ints l).Pairwise (· < ·) := by
  unfold ints; rw [List.pairwise_map]; exact h.imp (fun h => by omega)
theorem ev_pp_l (m : Nat) (hm : 1 ≤ m ∧ m ≤ 24) : ∀ (e d : Nat), d + e = max 2 (m + 1) → 2 ≤ d →
    Ev (fun k => laws_FnPrimePowers.l0 k (m : Int) (ints (pps (max 2 (m + 1)))) (d : Int)) true := by
  intro e
  have hl := pps_length (max 2 (m + 1))
  induction e with
  | zero =>
    intro d hd h2
    refine Ev.step (fun k => by rw [laws_FnPrimePowers.l0]) ?_
    have c : ¬ (d : Int) ≤ (m : Int) := by omega
    simp only [if_neg c]
    refine Ev.bind (ev_ascend _ (ints_sorted (List.Pairwise.filter _ List.pairwise_lt_range')) (by rw [ints_length]; omega)) ?_
    simp only [if_true, alive_f, Option.bind_some]
    exact Ev.now _
  | succ e ih =>
    intro d hd h2
    refine Ev.step (fun k => by rw [laws_FnPrimePowers.l0]) ?_
    have c : (d : Int) ≤ (m : Int) := by omega
    simp only [if_pos c, w64 (x := (d : Int) + 1) (by omega)]
    refine Ev.bind (ev_hasInt _ (d : Int) (by rw [ints_length]; omega)) (Ev.bind (ev_FactorsOf_nat d (by omega) (by omega)) ?_)
    rw [rowsF_length]
    have t : (decide ((d : Int) ∈ ints (pps (max 2 (m + 1)))) != (((fac 2 d).length : Int) == 1)) = false := by
      rw [bne_eq_false_iff_eq, Bool.eq_iff_iff, decide_eq_true_eq, beq_iff_eq, ints_mem, mem_pps]
      constructor
      · intro h; omega
      · intro h; exact ⟨h2, by omega, by omega⟩
    simp only [t, Bool.false_eq_true, if_false]
    exact ih (d + 1) (by omega) (by omega)
theorem FnPrimePowers : laws_FnPrimePowers.Pure := by
  intro l h1 h2 h3
  apply Ev.k
  unfold laws_FnPrimePowers.f
  by_cases hl : (l.length : Int) > 1048576
  · simp only [if_pos hl]; exact Ev.now _
  simp only [if_neg hl]
  obtain ⟨b, hb, eo⟩ := open_l l h3
  obtain ⟨x, hx, ex⟩ := ev_pick hb 0 26 (by omega) (by omega)
  have ed : Ev (fun k => spec_DrawPrimePowers.f k l) x := by
    unfold spec_DrawPrimePowers.f
    simp only [eo, Option.bind_some]
    exact Ev.bind ex (Ev.now _)
  refine Ev.bind ed ?_
  have hz := ppsZ_length x
  refine Ev.bind (ev_PrimePowers x) (Ev.bind (ev_sPrimePowers x) (Ev.bind (ev_sameInts (ppsZ x) (ppsZ x) (by omega)) ?_))
  simp only [decide_true, if_true]
  have no : ¬ (1 ≤ x ∧ x ≤ 24) → Ev (fun k => laws_FnPrimePowers.j0 k x (ppsZ x) true) true := by
    intro h
    refine Ev.step (fun k => by rw [laws_FnPrimePowers.j0]) ?_
    have e : ppsZ x = [] := by unfold ppsZ; rw [if_neg h]
    simp only [e, if_true, List.length_nil, Int.natCast_zero, alive_f, Option.bind_some]
    exact Ev.now _
  by_cases g : x < 1
  · simp only [if_pos g]; exact no (by omega)
  · simp only [if_neg g]
    by_cases g2 : x > 24
    · simp only [decide_eq_true g2]; exact no (by omega)
    · simp only [decide_eq_false g2]
      refine Ev.step (fun k => by rw [laws_FnPrimePowers.j0]) ?_
      obtain ⟨m, rfl⟩ := Int.eq_ofNat_of_zero_le (show 0 ≤ x by omega)
      have e : ppsZ (m : Int) = ints (pps (max 2 (m + 1))) := by unfold ppsZ; rw [if_pos (by omega), Int.toNat_natCast]
      simp only [Bool.false_eq_true, if_false, e]
      exact ev_pp_l m (by omega) (max 2 (m + 1) - 2) 2 (by omega) (by omega)

end Go.Proofs.Ytjhnjlakdokncaa.Pure
namespace Go.Proofs.Ytjhnjlakdokncaa.PrintWords
/-- The printed row's word, under the name by which that row calls it. -/
abbrev sized_ints := @Go.Proofs.YtjhnjlakdokncaaW.PrintWords.sized_ints
end Go.Proofs.Ytjhnjlakdokncaa.PrintWords
