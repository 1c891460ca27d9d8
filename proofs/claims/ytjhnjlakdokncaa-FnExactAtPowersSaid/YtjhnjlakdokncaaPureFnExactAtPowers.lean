/- The program's AtPowers and the reference's tell the same for all lists, in memory of their own, and leave the list as it was. -/
import Derived.Test.YtjhnjlakdokncaaPFnExactAtPowersx0
import Derived.Test.YtjhnjlakdokncaaPFnExactAtPowersx1
import Derived.Test.YtjhnjlakdokncaaPFnExactAtPowersx2
import Derived.Test.YtjhnjlakdokncaaPFnExactAtPowersx3
import Derived.Test.YtjhnjlakdokncaaM1
import Derived.Test.YtjhnjlakdokncaaM2
import Derived.Test.YtjhnjlakdokncaaWSized
namespace Go.Proofs.Ytjhnjlakdokncaa.Pure
open Go.RowKit Go.Proofs.Ytjhnjlakdokncaa.PFnExactAtPowers Go.Proofs.YtjhnjlakdokncaaW.PrintWords Go.Proofs.YtjhnjlakdokncaaW.PrintLast Go.Proofs.YtjhnjlakdokncaaW.PrintMore Go.Proofs.Ytjhnjlakdokncaa.Math
set_option linter.unusedVariables false
set_option linter.unusedSimpArgs false
theorem w64 {x : Int} (h : -9223372036854775808 ≤ x ∧ x ≤ 9223372036854775807) : wrap64 x = x := by unfold wrap64; omega
theorem Ev.k {α : Type} {g : Nat → Option α} {r : α} (h : Ev g r) : ∃ k, g k = some r := Ev.rounds h
theorem Ev.to {α : Type} {g : Nat → Option α} {r s : α} (h : Ev g r) (e : r = s) : Ev g s := e ▸ h
theorem Ev.ret {α : Type} {r s : α} (e : r = s) : Ev (fun _ => some r) s := e ▸ Ev.now r

theorem rd_nat (xs : List Int) (i : Nat) : rd xs (i : Int) = xs.getD i 0 := rfl
theorem drop_step (f : List Int) (i : Nat) (h : i < f.length) : f.drop i = f.getD i 0 :: f.drop (i + 1) := by
  rw [List.drop_eq_getElem_cons h]; simp [List.getD_eq_getElem?_getD, List.getElem?_eq_getElem h]
def InB (f : List Int) (m : Int) : Prop := ∀ x ∈ f, -m ≤ x ∧ x ≤ m
instance (f : List Int) (m : Int) : Decidable (InB f m) := by unfold InB; infer_instance
theorem InB_cons (x : Int) (f : List Int) (m : Int) : InB (x :: f) m ↔ (-m ≤ x ∧ x ≤ m) ∧ InB f m := by
  unfold InB; simp
theorem InB_nil (m : Int) : InB [] m := fun x h => by cases h
theorem InB.mono {f : List Int} {m n : Int} (h : InB f m) (hmn : m ≤ n) : InB f n := fun x hx => by have := h x hx; omega

theorem ev_within_l (f : List Int) (m : Int) (hm : 0 ≤ m ∧ m ≤ 1000000000000) (hf : f.length ≤ 1000000000000000) : ∀ (d i : Nat), i + d = f.length →
    Ev (fun k => impl_within.l0 k f m f (f.length : Int) (i : Int)) (decide (InB (f.drop i) m ∧ f.length = 24)) := by
  intro d
  induction d with
  | zero =>
    intro i hi
    refine Ev.step (fun k => by rw [impl_within.l0]) ?_
    have h1 : ¬ (i : Int) < (f.length : Int) := by omega
    simp only [if_neg h1]
    refine Ev.ret ?_
    rw [List.drop_eq_nil_of_le (by omega), Bool.eq_iff_iff]; simp [InB_nil]; omega
  | succ d ih =>
    intro i hi
    refine Ev.step (fun k => by rw [impl_within.l0]) ?_
    have h1 : (i : Int) < (f.length : Int) := by omega
    have h2 : (0 : Int) ≤ (i : Int) := by omega
    simp only [if_pos h1, if_pos h2, rd_nat, w64 (x := -m) (by omega)]
    have e := drop_step f i (by omega)
    by_cases a : f.getD i 0 < -m
    · simp only [if_pos a]
      refine Ev.ret ?_
      symm; rw [decide_eq_false_iff_not, e, InB_cons]; omega
    · by_cases b : f.getD i 0 > m
      · simp only [if_neg a, gt_iff_lt, if_pos (show m < f.getD i 0 from b)]
        refine Ev.ret ?_
        symm; rw [decide_eq_false_iff_not, e, InB_cons]; omega
      · simp only [if_neg a, if_neg b, w64 (x := (i : Int) + 1) (by omega)]
        refine Ev.to (ih (i + 1) (by omega)) ?_
        rw [Bool.eq_iff_iff]; simp only [decide_eq_true_eq]; rw [e, InB_cons]
        constructor
        · rintro ⟨h, g⟩; exact ⟨⟨by omega, h⟩, g⟩
        · rintro ⟨⟨_, h⟩, g⟩; exact ⟨h, g⟩
theorem ev_within (f : List Int) (m : Int) (hm : 0 ≤ m ∧ m ≤ 1000000000000) (hf : f.length ≤ 1000000000000000) :
    Ev (fun k => impl_within.f k f m) (decide (InB f m ∧ f.length = 24)) := by
  unfold impl_within.f
  exact ev_within_l f m hm hf f.length 0 (by omega)

theorem ev_RowOk (f : List Int) (hf : f.length ≤ 1000000000000000) : Ev (fun k => impl_RowOk.f k f) (decide (InB f 1000000000 ∧ f.length = 24)) := by
  unfold impl_RowOk.f
  exact Ev.bind (ev_within f 1000000000 (by omega) hf) (Ev.now _)

/-- Natural numbers as the program's numbers. -/
def ints (l : List Nat) : List Int := l.map (fun x : Nat => (x : Int))
theorem ints_length (l : List Nat) : (ints l).length = l.length := by simp [ints]
theorem ints_append (l m : List Nat) : ints (l ++ m) = ints l ++ ints m := by simp [ints]
theorem ints_reverse (l : List Nat) : (ints l).reverse = ints l.reverse := by simp [ints]

/-- Factors as the program tells them: rows of two numbers. -/
def rowsF (L : List (Nat × Nat)) : List (List Int) := L.map (fun x : Nat × Nat => [(x.1 : Int), (x.2 : Int)])
theorem rowsF_length (L : List (Nat × Nat)) : (rowsF L).length = L.length := by simp [rowsF]

theorem ev_fac_l1 (out : List (List Int)) (hout : out.length ≤ 1000000) (p : Nat) (hp : 2 ≤ p ∧ p ≤ 10000) (r : List (List Int)) (t m : Nat) (hm : m % p ≠ 0) (h1 : 1 ≤ m ∧ m ≤ 10000)
    (hN : Ev (fun k => impl_factors.l0 k (m : Int) (if t = 0 then out else out ++ [[(p : Int), (t : Int)]]) ((p + 1 : Nat) : Int)) r) :
    ∀ (j c : Nat), c + j = t → p ^ j * m ≤ 10000 → t ≤ 10000 →
    Ev (fun k => impl_factors.l1 k ((p ^ j * m : Nat) : Int) out (p : Int) (c : Int)) r := by
  intro j
  induction j with
  | zero =>
    intro c hc hb ht
    refine Ev.step (fun k => by rw [impl_factors.l1]) ?_
    have c0 : ¬ (p : Int) = 0 := by omega
    have c1 : ¬ ((m % p : Nat) : Int) = 0 := by omega
    simp only [Nat.pow_zero, Nat.one_mul, if_neg c0, ← Int.ofNat_tmod, if_neg c1, w64 (x := (p : Int) + 1) (by omega)]
    have e : c = t := by omega
    subst e
    by_cases z : c = 0
    · have c2 : ¬ (c : Int) > 0 := by omega
      rw [if_pos z] at hN
      simp only [if_neg c2]; exact hN
    · have c2 : (0 : Int) < (c : Int) := by omega
      have c3 : out.length < 5864062014805 := by omega
      rw [if_neg z] at hN
      simp only [gt_iff_lt, if_pos c2, if_pos c3]; exact hN
  | succ j ih =>
    intro c hc hb ht
    refine Ev.step (fun k => by rw [impl_factors.l1]) ?_
    have e : p ^ (j + 1) * m = p * (p ^ j * m) := by rw [Nat.pow_succ, Nat.mul_comm (p ^ j) p, Nat.mul_assoc]
    have c0 : ¬ (p : Int) = 0 := by omega
    have c1 : ((p ^ (j + 1) * m % p : Nat) : Int) = 0 := by rw [e, Nat.mul_mod_right]; rfl
    have c2 : p ^ (j + 1) * m / p = p ^ j * m := by rw [e, Nat.mul_div_cancel_left _ (by omega)]
    have b2 : 1 * (p ^ j * m) ≤ p * (p ^ j * m) := Nat.mul_le_mul_right _ (by omega)
    simp only [if_neg c0, ← Int.ofNat_tmod, ← Int.ofNat_tdiv, if_pos c1, c2, w64 (x := ((p ^ j * m : Nat) : Int)) (by omega), w64 (x := (c : Int) + 1) (by omega)]
    exact ih (c + 1) (by omega) (by omega) ht
theorem ev_fac_one (out : List (List Int)) (p : Int) : Ev (fun k => impl_factors.l0 k 1 out p) out := by
  refine Ev.step (fun k => by rw [impl_factors.l0]) ?_
  have c : ¬ (1 : Int) > 1 := by omega
  simp only [if_neg c]
  exact Ev.now _
theorem ev_fac_l0 : ∀ (d p n : Nat) (out : List (List Int)), p + d = 102 → 2 ≤ p → 1 ≤ n → n ≤ 10000 → out.length ≤ p → NoLow p n →
    Ev (fun k => impl_factors.l0 k (n : Int) out (p : Int)) (out ++ rowsF (fac p n)) := by
  intro d
  induction d with
  | zero =>
    intro p n out hd hp h1 hn ho hl
    by_cases c : n = 1
    · subst c; rw [fac_lt (by omega)]; simpa [rowsF] using ev_fac_one out (p : Int)
    refine Ev.step (fun k => by rw [impl_factors.l0]) ?_
    have c1 : (1 : Int) < (n : Int) := by omega
    have e : p = 102 := by omega
    subst e
    have c2 : (n : Int) < ((102 : Nat) : Int) * ((102 : Nat) : Int) := by omega
    have hpr : Pr n := pr_of_root (d := 102) (by omega) (by omega) hl
    have hf : fac 102 n = [(n, 1)] := by
      rw [← fac_skip h1 hl (by omega), fac_skip h1 (p := n) ?_ (by omega)]
      · have := fac_yes (p := n) (j := 1) (m := 1) (by omega) (by omega) (by rw [Nat.mod_eq_of_lt (by omega)]; omega) (by omega)
        rw [Nat.pow_one, Nat.mul_one] at this
        rw [this, fac_lt (by omega)]
      · intro x h2 hx e
        rcases hpr.2 x (Nat.dvd_of_mod_eq_zero e) with h | h <;> omega
    simp only [gt_iff_lt, if_pos c1, w64 (x := ((102 : Nat) : Int) * ((102 : Nat) : Int)) (by omega), if_pos c2]
    refine Ev.step (fun k => by rw [impl_factors.j1]) ?_
    rw [hf]
    have := ev_fac_l1 out (by omega) n ⟨by omega, hn⟩ (out ++ rowsF [(n, 1)]) 1 1 (by rw [Nat.mod_eq_of_lt (by omega)]; omega) (by omega) (by simpa [rowsF] using ev_fac_one (out ++ [[(n : Int), 1]]) ((n : Int) + 1)) 1 0 (by omega) (by rw [Nat.pow_one]; omega) (by omega)
    rw [Nat.pow_one, Nat.mul_one] at this
    exact this
  | succ d ih =>
    intro p n out hd hp h1 hn ho hl
    by_cases c : n = 1
    · subst c; rw [fac_lt (by omega)]; simpa [rowsF] using ev_fac_one out (p : Int)
    refine Ev.step (fun k => by rw [impl_factors.l0]) ?_
    have c1 : (1 : Int) < (n : Int) := by omega
    have pp : p * p ≤ 101 * 101 := Nat.mul_le_mul (by omega) (by omega)
    have ep : (p : Int) * (p : Int) = ((p * p : Nat) : Int) := by simp
    simp only [gt_iff_lt, if_pos c1, ep, w64 (x := ((p * p : Nat) : Int)) (by omega)]
    by_cases hpp : n < p * p
    · have c2 : (n : Int) < ((p * p : Nat) : Int) := by omega
      have hpr : Pr n := pr_of_root (d := p) (by omega) hpp hl
      have hln : NoLow n n := fun x h2 hx e => by
        rcases hpr.2 x (Nat.dvd_of_mod_eq_zero e) with h | h <;> omega
      have hf : fac p n = [(n, 1)] := by
        rw [← fac_skip h1 hl hp, fac_skip h1 (p := n) hln (by omega)]
        have := fac_yes (p := n) (j := 1) (m := 1) (by omega) (by omega) (by rw [Nat.mod_eq_of_lt (by omega)]; omega) (by omega)
        rw [Nat.pow_one, Nat.mul_one] at this
        rw [this, fac_lt (by omega)]
      simp only [if_pos c2]
      refine Ev.step (fun k => by rw [impl_factors.j1]) ?_
      rw [hf]
      have := ev_fac_l1 out (by omega) n ⟨by omega, hn⟩ (out ++ rowsF [(n, 1)]) 1 1 (by rw [Nat.mod_eq_of_lt (by omega)]; omega) (by omega) (by simpa [rowsF] using ev_fac_one (out ++ [[(n : Int), 1]]) ((n : Int) + 1)) 1 0 (by omega) (by rw [Nat.pow_one]; omega) (by omega)
      rw [Nat.pow_one, Nat.mul_one] at this
      exact this
    · have c2 : ¬ (n : Int) < ((p * p : Nat) : Int) := by omega
      simp only [if_neg c2]
      refine Ev.step (fun k => by rw [impl_factors.j1]) ?_
      obtain ⟨j, m, e, hm, hm1⟩ := exists_strip p hp n h1
      have hj : j < p ^ j := Nat.lt_pow_self (by omega)
      have b1 : p ^ j * 1 ≤ p ^ j * m := Nat.mul_le_mul_left _ hm1
      have b2 : 1 * m ≤ p ^ j * m := Nat.mul_le_mul_right _ (Nat.pow_pos (by omega))
      have hlm : NoLow (p + 1) m := (hl.of_dvd (by rw [e]; exact dvd_pow_mul p j m)).succ hm
      have ihm := ih (p + 1) m (if j = 0 then out else out ++ [[(p : Int), (j : Int)]]) (by omega) (by omega) hm1 (by omega) (by split <;> (try simp) <;> omega) hlm
      have main := ev_fac_l1 out (by omega) p ⟨hp, by omega⟩ _ j m hm ⟨hm1, by omega⟩ ihm j 0 (by omega) (by omega) (by omega)
      rw [← e] at main
      refine Ev.to main ?_
      by_cases z : j = 0
      · subst z
        rw [Nat.pow_zero, Nat.one_mul] at e
        subst e
        rw [if_pos rfl, ← fac_no hp h1 hm]
      · rw [if_neg z, e, fac_yes hp (by omega) hm hm1]; simp [rowsF]
theorem ev_factors (n : Nat) (h1 : 1 ≤ n) (hn : n ≤ 10000) : Ev (fun k => impl_factors.f k (n : Int)) (rowsF (fac 2 n)) := by
  unfold impl_factors.f
  exact ev_fac_l0 100 2 n [] (by omega) (by omega) h1 hn (by simp) (NoLow.two n)

/-- The powers of primes from 2 on below a bound. -/
def pps (d : Nat) : List Nat := (List.range' 2 (d - 2)).filter (fun n => (fac 2 n).length == 1)
theorem pps_succ (d : Nat) (h : 2 ≤ d) : pps (d + 1) = if (fac 2 d).length = 1 then pps d ++ [d] else pps d := by
  unfold pps
  obtain ⟨c, rfl⟩ : ∃ c, d = c + 2 := ⟨d - 2, by omega⟩
  simp only [show c + 2 + 1 - 2 = c + 1 by omega, show c + 2 - 2 = c by omega, List.range'_1_concat, List.filter_append, List.filter_cons, List.filter_nil, beq_iff_eq, Nat.add_comm 2 c]
  split <;> simp
theorem pps_length (d : Nat) : (pps d).length ≤ d := by
  unfold pps; exact Nat.le_trans (List.length_filter_le _ _) (by simp)

theorem ev_primePowers_l (most : Nat) (hm : most ≤ 10000) : ∀ (e d : Nat), 2 ≤ d → d + e = max 2 (most + 1) →
    Ev (fun k => impl_primePowers.l0 k (most : Int) (ints (pps d)) (d : Int)) (ints (pps (max 2 (most + 1)))) := by
  intro e
  induction e with
  | zero =>
    intro d hd he
    refine Ev.step (fun k => by rw [impl_primePowers.l0]) ?_
    have c : ¬ (d : Int) ≤ (most : Int) := by omega
    simp only [if_neg c]
    exact Ev.ret (by rw [show d = max 2 (most + 1) by omega])
  | succ e ih =>
    intro d hd he
    refine Ev.step (fun k => by rw [impl_primePowers.l0]) ?_
    have c : (d : Int) ≤ (most : Int) := by omega
    have l1 : (ints (pps d)).length < 17592186044416 := by rw [ints_length]; have := pps_length d; omega
    have ih' := ih (d + 1) (by omega) (by omega)
    rw [pps_succ d hd] at ih'
    simp only [if_pos c, if_pos l1, w64 (x := (d : Int) + 1) (by omega)]
    refine Ev.bind (ev_factors d (by omega) (by omega)) ?_
    rw [rowsF_length]
    by_cases z : (fac 2 d).length = 1
    · have z1 : ((fac 2 d).length : Int) = 1 := by omega
      rw [if_pos z, ints_append] at ih'
      simp only [if_pos z1]; exact ih'
    · have z1 : ¬ ((fac 2 d).length : Int) = 1 := by omega
      rw [if_neg z] at ih'
      simp only [if_neg z1]; exact ih'
theorem ev_primePowers (most : Nat) (hm : most ≤ 10000) : Ev (fun k => impl_primePowers.f k (most : Int)) (ints (pps (max 2 (most + 1)))) := by
  unfold impl_primePowers.f
  exact ev_primePowers_l most hm (max 2 (most + 1) - 2) 2 (by omega) (by omega)

/-- What a row is at a number. -/
def At (f : List Int) (n : Nat) : Int := f.getD (n - 1) 0
theorem rd_at (f : List Int) (n : Nat) (h : 1 ≤ n) : rd f ((n : Int) - 1) = At f n := by
  rw [show (n : Int) - 1 = ((n - 1 : Nat) : Int) by omega]; rfl
theorem rd_at0 (f : List Int) : rd f 0 = At f 1 := rfl
theorem InB.at {f : List Int} {m : Int} (h : InB f m) (hm : 0 ≤ m) (n : Nat) : -m ≤ At f n ∧ At f n ≤ m := by
  unfold At; rw [List.getD_eq_getElem?_getD]
  by_cases c : n - 1 < f.length
  · rw [List.getElem?_eq_getElem c]; exact h _ (List.getElem_mem _)
  · rw [List.getElem?_eq_none (by omega)]; simp; omega
theorem mul_in {x y B : Int} (hx : -B ≤ x ∧ x ≤ B) (hy : -B ≤ y ∧ y ≤ B) (hB : 0 ≤ B) : -(B * B) ≤ x * y ∧ x * y ≤ B * B := by
  have h1 : x.natAbs ≤ B.toNat := by omega
  have h2 : y.natAbs ≤ B.toNat := by omega
  have h3 := Nat.mul_le_mul h1 h2
  rw [← Int.natAbs_mul] at h3
  have h4 : ((B.toNat * B.toNat : Nat) : Int) = B * B := by rw [Int.natCast_mul, Int.toNat_of_nonneg hB]
  omega
theorem w64_prod {f : List Int} (h : InB f 1000000000) (a b : Nat) : wrap64 (At f a * At f b) = At f a * At f b := by
  have := mul_in (h.at (by omega) a) (h.at (by omega) b) (by omega)
  exact w64 (by omega)
/-- A row is 1 at 1, and at each product of two numbers (that are apart, or all) the product. -/
def Mult (all : Bool) (f : List Int) : Prop := At f 1 = 1 ∧ ∀ a b, 1 ≤ a → 1 ≤ b → a * b ≤ 24 → (all = true ∨ Nat.gcd a b = 1) → At f (a * b) = At f a * At f b
/-- It is so at all pairs before one. -/
def MultTo (all : Bool) (f : List Int) (x y : Nat) : Prop := ∀ a b, (a < x ∨ a = x ∧ b < y) → 1 ≤ a → 1 ≤ b → a * b ≤ 24 → (all = true ∨ Nat.gcd a b = 1) → At f (a * b) = At f a * At f b
theorem MultTo.step {all : Bool} {f : List Int} {x y : Nat} (h : MultTo all f x y) (e : x * y ≤ 24 → (all = true ∨ Nat.gcd x y = 1) → At f (x * y) = At f x * At f y) : MultTo all f x (y + 1) := by
  intro a b hab h1 h2 h3 h4
  by_cases c : a = x ∧ b = y
  · obtain ⟨rfl, rfl⟩ := c; exact e h3 h4
  · exact h a b (by omega) h1 h2 h3 h4
theorem MultTo.next {all : Bool} {f : List Int} {x y : Nat} (h : MultTo all f x y) (hy : 24 < x * y) : MultTo all f (x + 1) 1 := by
  intro a b hab h1 h2 h3 h4
  refine h a b ?_ h1 h2 h3 h4
  by_cases c : a < x
  · exact Or.inl c
  · have e : a = x := by omega
    subst e
    refine Or.inr ⟨rfl, Nat.lt_of_not_le (fun hle => ?_)⟩
    have := Nat.mul_le_mul_left a hle; omega

/-- What a row is at the powers of primes. -/
def atPows (f : List Int) : List Int := (pps 25).map (fun q => At f q)
theorem pps_25 : pps 25 = [2, 3, 4, 5, 7, 8, 9, 11, 13, 16, 17, 19, 23] := by decide +kernel
theorem ints_rd (l : List Nat) (i : Nat) : rd (ints l) (i : Int) = ((l.getD i 0 : Nat) : Int) := by
  show (ints l).getD i 0 = _
  unfold ints; simp only [List.getD_eq_getElem?_getD, List.getElem?_map]
  cases l[i]? <;> simp
theorem take_at {l : List Nat} (g : Nat → Int) (i : Nat) (h : i < l.length) : (l.take (i + 1)).map g = (l.take i).map g ++ [g (l.getD i 0)] := by
  rw [List.take_succ_eq_append_getElem h, List.map_append]; simp [List.getD_eq_getElem?_getD, List.getElem?_eq_getElem h]
theorem getN_mem (l : List Nat) (i : Nat) (h : i < l.length) : l.getD i 0 ∈ l := by
  rw [List.getD_eq_getElem?_getD, List.getElem?_eq_getElem h]; exact List.getElem_mem _
theorem ev_AtPowers_l (f : List Int) (hf : f.length = 24) (L : List Nat) (hL : ∀ q ∈ L, 1 ≤ q ∧ q ≤ 24) (hl : L.length ≤ 100) : ∀ (d i : Nat), i + d = L.length →
    Ev (fun k => impl_AtPowers.l0 k f ((L.take i).map (fun q => At f q)) (ints L) (L.length : Int) (i : Int)) (L.map (fun q => At f q)) := by
  intro d
  induction d with
  | zero =>
    intro i hi
    refine Ev.step (fun k => by rw [impl_AtPowers.l0]) ?_
    have c : ¬ (i : Int) < (L.length : Int) := by omega
    simp only [if_neg c]
    exact Ev.ret (by rw [List.take_of_length_le (by omega)])
  | succ d ih =>
    intro i hi
    refine Ev.step (fun k => by rw [impl_AtPowers.l0]) ?_
    have c : (i : Int) < (L.length : Int) := by omega
    have c1 : 0 ≤ (i : Int) := by omega
    have b := hL _ (getN_mem L i (by omega))
    have c2 : 0 ≤ ((L.getD i 0 : Nat) : Int) - 1 := by omega
    have c3 : ((L.getD i 0 : Nat) : Int) - 1 < (f.length : Int) := by omega
    have c4 : ((L.take i).map (fun q => At f q)).length < 17592186044416 := by rw [List.length_map, List.length_take]; omega
    have ih' := ih (i + 1) (by omega)
    rw [take_at _ i (by omega)] at ih'
    simp only [ints_length, if_pos c, if_pos c1, ints_rd, w64 (x := ((L.getD i 0 : Nat) : Int) - 1) (by omega), if_pos c2, if_pos c3, if_pos c4, rd_at f _ b.1, w64 (x := (i : Int) + 1) (by omega)]
    exact ih'
theorem ev_AtPowers_yes (f : List Int) (h : InB f 1000000000 ∧ f.length = 24) : Ev (fun k => impl_AtPowers.f k f) (atPows f) := by
  unfold impl_AtPowers.f atPows
  refine Ev.bind (ev_RowOk f (by omega)) ?_
  simp only [decide_eq_true h, if_true]
  have e := ev_primePowers 24 (by omega)
  rw [show max 2 (24 + 1) = 25 from rfl] at e
  refine Ev.bind e ?_
  rw [ints_length]
  refine ev_AtPowers_l f h.2 (pps 25) (fun q hq => ?_) (by rw [pps_25]; decide) (pps 25).length 0 (by omega)
  rw [pps_25] at hq
  have : ∀ q ∈ [2, 3, 4, 5, 7, 8, 9, 11, 13, 16, 17, 19, 23], 1 ≤ q ∧ q ≤ 24 := by decide
  exact this q hq
theorem ev_AtPowers_no (f : List Int) (hf : f.length ≤ 1000000000000000) (h : ¬ (InB f 1000000000 ∧ f.length = 24)) : Ev (fun k => impl_AtPowers.f k f) [] := by
  unfold impl_AtPowers.f
  refine Ev.bind (ev_RowOk f hf) ?_
  simp only [decide_eq_false h, Bool.false_eq_true, if_false]
  exact Ev.now _
/-- What is told of a list at the powers of primes. -/
def atPowsZ (f : List Int) : List Int := if InB f 1000000000 ∧ f.length = 24 then atPows f else []
theorem ev_AtPowers (f : List Int) (hf : f.length ≤ 1000000000000000) : Ev (fun k => impl_AtPowers.f k f) (atPowsZ f) := by
  unfold atPowsZ
  by_cases h : InB f 1000000000 ∧ f.length = 24
  · rw [if_pos h]; exact ev_AtPowers_yes f h
  · rw [if_neg h]; exact ev_AtPowers_no f hf h
theorem atPowsZ_length (f : List Int) : (atPowsZ f).length ≤ 13 := by
  unfold atPowsZ; split
  · unfold atPows; rw [List.length_map, pps_25]; decide
  · simp

theorem l1In_f (a b c : Int) : spec_l1In.f a b c = some (decide (b ≤ a ∧ a ≤ c)) := by
  unfold spec_l1In.f
  by_cases h : a ≥ b
  · rw [if_pos h]; simp [show b ≤ a from h]
  · rw [if_neg h]; simp [show ¬ b ≤ a from h]

theorem ev_sRowOk_l (f : List Int) (hf : f.length ≤ 1000000000000000) : ∀ (d i : Nat), i + d = f.length →
    Ev (fun k => spec_RowOk.l0 k f (i : Int)) (decide (InB (f.drop i) 1000000000 ∧ f.length = 24)) := by
  intro d
  induction d with
  | zero =>
    intro i hi
    refine Ev.step (fun k => by rw [spec_RowOk.l0]) ?_
    have h1 : ¬ (i : Int) < (f.length : Int) := by omega
    simp only [if_neg h1]
    refine Ev.ret ?_
    rw [List.drop_eq_nil_of_le (by omega), Bool.eq_iff_iff]; simp [InB_nil]; omega
  | succ d ih =>
    intro i hi
    refine Ev.step (fun k => by rw [spec_RowOk.l0]) ?_
    have h1 : (i : Int) < (f.length : Int) := by omega
    have h2 : (0 : Int) ≤ (i : Int) := by omega
    simp only [if_pos h1, if_pos h2, rd_nat, l1In_f, Option.bind_some, decide_eq_true_eq]
    have e := drop_step f i (by omega)
    by_cases a : -1000000000 ≤ f.getD i 0 ∧ f.getD i 0 ≤ 1000000000
    · simp only [if_pos a, w64 (x := (i : Int) + 1) (by omega)]
      refine Ev.to (ih (i + 1) (by omega)) ?_
      rw [Bool.eq_iff_iff]; simp only [decide_eq_true_eq]; rw [e, InB_cons]
      constructor
      · rintro ⟨h, g⟩; exact ⟨⟨a, h⟩, g⟩
      · rintro ⟨⟨_, h⟩, g⟩; exact ⟨h, g⟩
    · simp only [if_neg a]
      refine Ev.ret ?_
      symm; rw [decide_eq_false_iff_not, e, InB_cons]; rintro ⟨⟨h, _⟩, _⟩; exact a h
theorem ev_sRowOk (f : List Int) (hf : f.length ≤ 1000000000000000) :
    Ev (fun k => spec_RowOk.f k f) (decide (InB f 1000000000 ∧ f.length = 24)) := by
  unfold spec_RowOk.f
  exact ev_sRowOk_l f hf f.length 0 (by omega)

def ppsZ (n : Int) : List Int := if 1 ≤ n ∧ n ≤ 24 then ints (pps (max 2 (n.toNat + 1))) else []
theorem ppsZ_length (n : Int) : (ppsZ n).length ≤ 100 := by
  unfold ppsZ
  by_cases h : 1 ≤ n ∧ n ≤ 24
  · rw [if_pos h, ints_length]; have := pps_length (max 2 (n.toNat + 1)); omega
  · rw [if_neg h]; simp

theorem ev_sfac_l1 (x0 : Int) (out : List (List Int)) (hout : out.length ≤ 1000000) (p : Nat) (hp : 2 ≤ p ∧ p ≤ 10000) (r : List (List Int)) (t m : Nat) (hm : m % p ≠ 0) (h1 : 1 ≤ m ∧ m ≤ 10000)
    (hN : Ev (fun k => spec_FactorsOf.l0 k x0 (if t = 0 then out else out ++ [[(p : Int), (t : Int)]]) (m : Int) ((p + 1 : Nat) : Int)) r) :
    ∀ (j c : Nat), c + j = t → p ^ j * m ≤ 10000 → t ≤ 10000 →
    Ev (fun k => spec_FactorsOf.l1 k x0 out ((p ^ j * m : Nat) : Int) (p : Int) (c : Int)) r := by
  intro j
  induction j with
  | zero =>
    intro c hc hb ht
    refine Ev.step (fun k => by rw [spec_FactorsOf.l1]) ?_
    have c0 : ¬ (p : Int) = 0 := by omega
    have c1 : ¬ ((m % p : Nat) : Int) = 0 := by omega
    simp only [Nat.pow_zero, Nat.one_mul, if_neg c0, ← Int.ofNat_tmod, if_neg c1, w64 (x := (p : Int) + 1) (by omega)]
    have e : c = t := by omega
    subst e
    by_cases z : c = 0
    · have c2 : ¬ (c : Int) > 0 := by omega
      rw [if_pos z] at hN
      simp only [if_neg c2]; exact hN
    · have c2 : (0 : Int) < (c : Int) := by omega
      have c3 : out.length < 5864062014805 := by omega
      rw [if_neg z] at hN
      simp only [gt_iff_lt, if_pos c2, if_pos c3]; exact hN
  | succ j ih =>
    intro c hc hb ht
    refine Ev.step (fun k => by rw [spec_FactorsOf.l1]) ?_
    have e : p ^ (j + 1) * m = p * (p ^ j * m) := by rw [Nat.pow_succ, Nat.mul_comm (p ^ j) p, Nat.mul_assoc]
    have c0 : ¬ (p : Int) = 0 := by omega
    have c1 : ((p ^ (j + 1) * m % p : Nat) : Int) = 0 := by rw [e, Nat.mul_mod_right]; rfl
    have c2 : p ^ (j + 1) * m / p = p ^ j * m := by rw [e, Nat.mul_div_cancel_left _ (by omega)]
    have b2 : 1 * (p ^ j * m) ≤ p * (p ^ j * m) := Nat.mul_le_mul_right _ (by omega)
    simp only [if_neg c0, ← Int.ofNat_tmod, ← Int.ofNat_tdiv, if_pos c1, c2, w64 (x := ((p ^ j * m : Nat) : Int)) (by omega), w64 (x := (c : Int) + 1) (by omega)]
    exact ih (c + 1) (by omega) (by omega) ht
theorem ev_sfac_l0 (x0 : Int) (hx : 1 ≤ x0 ∧ x0 ≤ 10000) : ∀ (d p n : Nat) (out : List (List Int)), p + d = 10002 → 2 ≤ p → 1 ≤ n → n ≤ 10000 → out.length ≤ p →
    Ev (fun k => spec_FactorsOf.l0 k x0 out (n : Int) (p : Int)) (out ++ rowsF (fac p n)) := by
  intro d
  have stop : ∀ (p n : Nat) (out : List (List Int)), n < p → Ev (fun k => spec_FactorsOf.l0 k x0 out (n : Int) (p : Int)) (out ++ rowsF (fac p n)) := by
    intro p n out h
    refine Ev.step (fun k => by rw [spec_FactorsOf.l0]) ?_
    have c : ¬ (p : Int) ≤ (n : Int) := by omega
    simp only [if_neg c]
    refine Ev.step (fun k => by rw [spec_FactorsOf.j1]) ?_
    simp only [Bool.false_eq_true, if_false]
    rw [fac_lt h]
    exact Ev.ret (by simp [rowsF])
  induction d with
  | zero =>
    intro p n out hd hp h1 hn ho
    exact stop p n out (by omega)
  | succ d ih =>
    intro p n out hd hp h1 hn ho
    by_cases c : n < p
    · exact stop p n out c
    refine Ev.step (fun k => by rw [spec_FactorsOf.l0]) ?_
    have c1 : (p : Int) ≤ (n : Int) := by omega
    simp only [if_pos c1, l1In_f, Option.bind_some, decide_eq_true hx]
    refine Ev.step (fun k => by rw [spec_FactorsOf.j1]) ?_
    simp only [if_true]
    obtain ⟨j, m, e, hm, hm1⟩ := exists_strip p hp n h1
    have hj : j < p ^ j := Nat.lt_pow_self (by omega)
    have b1 : p ^ j * 1 ≤ p ^ j * m := Nat.mul_le_mul_left _ hm1
    have b2 : 1 * m ≤ p ^ j * m := Nat.mul_le_mul_right _ (Nat.pow_pos (by omega))
    have ihm := ih (p + 1) m (if j = 0 then out else out ++ [[(p : Int), (j : Int)]]) (by omega) (by omega) hm1 (by omega) (by split <;> (try simp) <;> omega)
    have main := ev_sfac_l1 x0 out (by omega) p ⟨hp, by omega⟩ _ j m hm ⟨hm1, by omega⟩ ihm j 0 (by omega) (by omega) (by omega)
    rw [← e] at main
    refine Ev.to main ?_
    by_cases z : j = 0
    · subst z
      rw [Nat.pow_zero, Nat.one_mul] at e
      subst e
      rw [if_pos rfl, ← fac_no hp h1 hm]
    · rw [if_neg z, e, fac_yes hp (by omega) hm hm1]; simp [rowsF]
theorem ev_sFactorsOf (n : Nat) (h1 : 1 ≤ n) (hn : n ≤ 10000) : Ev (fun k => spec_FactorsOf.f k (n : Int)) (rowsF (fac 2 n)) := by
  unfold spec_FactorsOf.f
  exact ev_sfac_l0 (n : Int) (by omega) 10000 2 n [] (by omega) (by omega) h1 hn (by simp)
theorem ev_sFactorsOf_no {n : Int} (h : ¬ (1 ≤ n ∧ n ≤ 10000)) : Ev (fun k => spec_FactorsOf.f k n) [] := by
  unfold spec_FactorsOf.f
  refine Ev.step (fun k => by rw [spec_FactorsOf.l0]) ?_
  have no : Ev (fun k => spec_FactorsOf.j1 k n [] n 2 false) [] := by
    refine Ev.step (fun k => by rw [spec_FactorsOf.j1]) ?_
    simp only [Bool.false_eq_true, if_false]; exact Ev.now _
  by_cases c : (2 : Int) ≤ n
  · simp only [if_pos c, l1In_f, Option.bind_some, decide_eq_false h]; exact no
  · simp only [if_neg c]; exact no

theorem ev_sPrimePowers_l (most : Nat) (hm : most ≤ 24) : ∀ (e d : Nat), 2 ≤ d → d + e = max 2 (most + 1) →
    Ev (fun k => spec_PrimePowers.l0 k (most : Int) (ints (pps d)) (d : Int)) (ints (pps (max 2 (most + 1)))) := by
  intro e
  induction e with
  | zero =>
    intro d hd he
    refine Ev.step (fun k => by rw [spec_PrimePowers.l0]) ?_
    have c : ¬ (d : Int) ≤ (most : Int) := by omega
    simp only [if_neg c]
    refine Ev.step (fun k => by rw [spec_PrimePowers.j1]) ?_
    simp only [Bool.false_eq_true, if_false]
    exact Ev.ret (by rw [show d = max 2 (most + 1) by omega])
  | succ e ih =>
    intro d hd he
    refine Ev.step (fun k => by rw [spec_PrimePowers.l0]) ?_
    have c : (d : Int) ≤ (most : Int) := by omega
    have c2 : (most : Int) ≤ 24 := by omega
    have l1 : (ints (pps d)).length < 17592186044416 := by rw [ints_length]; have := pps_length d; omega
    have ih' := ih (d + 1) (by omega) (by omega)
    rw [pps_succ d hd] at ih'
    simp only [if_pos c, decide_eq_true c2]
    refine Ev.step (fun k => by rw [spec_PrimePowers.j1]) ?_
    simp only [if_true, if_pos l1, w64 (x := (d : Int) + 1) (by omega)]
    refine Ev.bind (ev_sFactorsOf d (by omega) (by omega)) ?_
    rw [rowsF_length]
    by_cases z : (fac 2 d).length = 1
    · have z1 : ((fac 2 d).length : Int) = 1 := by omega
      rw [if_pos z, ints_append] at ih'
      simp only [if_pos z1]; exact ih'
    · have z1 : ¬ ((fac 2 d).length : Int) = 1 := by omega
      rw [if_neg z] at ih'
      simp only [if_neg z1]; exact ih'
theorem ev_sPrimePowers (n : Int) : Ev (fun k => spec_PrimePowers.f k n) (ppsZ n) := by
  unfold spec_PrimePowers.f ppsZ
  have no : Ev (fun k => spec_PrimePowers.j1 k n [] 2 false) [] := by
    refine Ev.step (fun k => by rw [spec_PrimePowers.j1]) ?_
    simp only [Bool.false_eq_true, if_false]; exact Ev.now _
  by_cases h : 1 ≤ n ∧ n ≤ 24
  · obtain ⟨m, rfl⟩ := Int.eq_ofNat_of_zero_le (show 0 ≤ n by omega)
    rw [if_pos h, Int.toNat_natCast]
    exact ev_sPrimePowers_l m (by omega) (max 2 (m + 1) - 2) 2 (by omega) (by omega)
  · rw [if_neg h]
    refine Ev.step (fun k => by rw [spec_PrimePowers.l0]) ?_
    by_cases c : (2 : Int) ≤ n
    · have c2 : ¬ n ≤ 24 := by omega
      simp only [if_pos c, decide_eq_false c2]; exact no
    · simp only [if_neg c]; exact no

theorem ev_sAtPowers_l (f : List Int) (hf : f.length ≤ 1000000000000000) (L : List Nat) (hL : ∀ q ∈ L, 1 ≤ q ∧ q ≤ 24) (hl : L.length ≤ 100) (h : InB f 1000000000 ∧ f.length = 24) : ∀ (d i : Nat), i + d = L.length →
    Ev (fun k => spec_AtPowers.l0 k f ((L.take i).map (fun q => At f q)) (ints L) (i : Int)) (L.map (fun q => At f q)) := by
  intro d
  induction d with
  | zero =>
    intro i hi
    refine Ev.step (fun k => by rw [spec_AtPowers.l0]) ?_
    have c : ¬ (i : Int) < (L.length : Int) := by omega
    simp only [ints_length, if_neg c]
    exact Ev.ret (by rw [List.take_of_length_le (by omega)])
  | succ d ih =>
    intro i hi
    refine Ev.step (fun k => by rw [spec_AtPowers.l0]) ?_
    have c : (i : Int) < (L.length : Int) := by omega
    have c1 : 0 ≤ (i : Int) := by omega
    have b := hL _ (getN_mem L i (by omega))
    have c2 : 0 ≤ ((L.getD i 0 : Nat) : Int) - 1 := by omega
    have c3 : ((L.getD i 0 : Nat) : Int) - 1 < (f.length : Int) := by omega
    have c4 : ((L.take i).map (fun q => At f q)).length < 17592186044416 := by rw [List.length_map, List.length_take]; omega
    have ih' := ih (i + 1) (by omega)
    rw [take_at _ i (by omega)] at ih'
    simp only [ints_length, if_pos c, if_pos c1, ints_rd, w64 (x := ((L.getD i 0 : Nat) : Int) - 1) (by omega), if_pos c2, if_pos c3, if_pos c4, rd_at f _ b.1, w64 (x := (i : Int) + 1) (by omega)]
    refine Ev.bind (ev_sRowOk f hf) ?_
    simp only [decide_eq_true h, if_true]
    exact ih'
theorem ev_sAtPowers (f : List Int) (hf : f.length ≤ 1000000000000000) : Ev (fun k => spec_AtPowers.f k f) (atPowsZ f) := by
  unfold spec_AtPowers.f atPowsZ
  have e := ev_sPrimePowers ((24 : Nat) : Int)
  have e2 : ppsZ ((24 : Nat) : Int) = ints (pps 25) := by unfold ppsZ; rw [if_pos (by omega)]; rfl
  rw [e2] at e
  refine Ev.bind e ?_
  by_cases h : InB f 1000000000 ∧ f.length = 24
  · rw [if_pos h]
    refine ev_sAtPowers_l f hf (pps 25) (fun q hq => ?_) (by rw [pps_25]; decide) h (pps 25).length 0 (by omega)
    rw [pps_25] at hq
    have : ∀ q ∈ [2, 3, 4, 5, 7, 8, 9, 11, 13, 16, 17, 19, 23], 1 ≤ q ∧ q ≤ 24 := by decide
    exact this q hq
  · rw [if_neg h]
    refine Ev.step (fun k => by rw [spec_AtPowers.l0]) ?_
    have c : (0 : Int) < ((ints (pps 25)).length : Int) := by rw [ints_length, pps_25]; decide
    simp only [if_pos c]
    refine Ev.bind (ev_sRowOk f hf) ?_
    simp only [decide_eq_false h, Bool.false_eq_true, if_false]
    exact Ev.now _

theorem set_fill (l : List Int) (i : Nat) (h : i < l.length) : (l.take i ++ List.replicate (l.length - i) 0).set i (l.getD i 0) = l.take (i + 1) ++ List.replicate (l.length - (i + 1)) 0 := by
  have e : l.length - i = (l.length - (i + 1)) + 1 := by omega
  have h3 : (l.take i).length = i := by simp; omega
  rw [e, List.replicate_succ, List.set_append_right _ _ (by omega), h3, Nat.sub_self, List.set_cons_zero, List.take_succ_eq_append_getElem h, List.append_assoc]
  simp [List.getD_eq_getElem?_getD, List.getElem?_eq_getElem h]
theorem ev_toIntS_l (l : List Int) (hl : l.length ≤ 1000000000000) : ∀ (d i : Nat), i + d = l.length →
    Ev (fun k => laws_toIntS.l0 k l (l.take i ++ List.replicate (l.length - i) 0) (i : Int)) l := by
  intro d
  induction d with
  | zero =>
    intro i hi
    refine Ev.step (fun k => by rw [laws_toIntS.l0]) ?_
    have h1 : ¬ (i : Int) < (l.length : Int) := by omega
    simp only [if_neg h1]
    refine Ev.ret ?_
    rw [show l.length - i = 0 by omega, List.take_of_length_le (by omega)]; simp
  | succ d ih =>
    intro i hi
    refine Ev.step (fun k => by rw [laws_toIntS.l0]) ?_
    have h1 : (i : Int) < (l.length : Int) := by omega
    have h2 : (0 : Int) ≤ (i : Int) := by omega
    have h3 : (i : Int) < ((l.take i ++ List.replicate (l.length - i) 0).length : Int) := by simp; omega
    simp only [if_pos h1, if_pos h2, if_pos h3, rd_nat, Int.toNat_natCast, w64 (x := (i : Int) + 1) (by omega), set_fill l i (by omega)]
    exact ih (i + 1) (by omega)
theorem ev_toIntS (l : List Int) (hl : l.length ≤ 1000000000000) : Ev (fun k => laws_toIntS.f k l) l := by
  unfold laws_toIntS.f
  have h1 : (0 : Int) ≤ (l.length : Int) := by omega
  have h2 : l.length ≤ 35184372088832 := by omega
  simp only [if_pos h1, Int.toNat_natCast, if_pos h2]
  exact ev_toIntS_l l hl l.length 0 (by omega)

theorem ev_eqIntS_l (a b : List Int) (hl : a.length = b.length) (ha : a.length ≤ 1000000000000000) : ∀ (d i : Nat), i + d = a.length →
    Ev (fun k => laws_eqIntS.l0 k a b (i : Int)) (decide (a.drop i = b.drop i)) := by
  intro d
  induction d with
  | zero =>
    intro i hi
    refine Ev.step (fun k => by rw [laws_eqIntS.l0]) ?_
    have h1 : ¬ (i : Int) < (a.length : Int) := by omega
    simp only [if_neg h1]
    refine Ev.ret ?_
    rw [List.drop_eq_nil_of_le (by omega), List.drop_eq_nil_of_le (by omega)]; simp
  | succ d ih =>
    intro i hi
    refine Ev.step (fun k => by rw [laws_eqIntS.l0]) ?_
    have h1 : (i : Int) < (a.length : Int) := by omega
    have h2 : (0 : Int) ≤ (i : Int) := by omega
    have h3 : (i : Int) < (b.length : Int) := by omega
    have ea := drop_step a i (by omega)
    have eb := drop_step b i (by omega)
    simp only [if_pos h1, if_pos h2, if_pos h3, rd_nat, w64 (x := (i : Int) + 1) (by omega)]
    by_cases e : a.getD i 0 = b.getD i 0
    · simp only [if_pos e]
      refine Ev.to (ih (i + 1) (by omega)) ?_
      rw [ea, eb, e]; simp
    · simp only [if_neg e]
      refine Ev.ret ?_
      rw [ea, eb]; simp only [List.cons.injEq, e, false_and, decide_false]
theorem ev_eqIntS (a b : List Int) (ha : a.length ≤ 1000000000000000) : Ev (fun k => laws_eqIntS.f k a b) (decide (a = b)) := by
  unfold laws_eqIntS.f
  by_cases h : (a.length : Int) = (b.length : Int)
  · simp only [if_pos h]
    exact ev_eqIntS_l a b (by omega) ha a.length 0 (by omega)
  · simp only [if_neg h]
    refine Ev.ret ?_
    symm; rw [decide_eq_false_iff_not]
    intro e; subst e; exact h rfl

/-- The marks m, m + 1, .. -/
def marks (m : Int) (n : Nat) : List Int := (List.range n).map (fun i : Nat => m + (i : Int))
theorem marks_length (m : Int) (n : Nat) : (marks m n).length = n := by simp [marks]
theorem marks_getD (m : Int) (n i : Nat) (h : i < n) : (marks m n).getD i 0 = m + (i : Int) := by
  rw [List.getD_eq_getElem?_getD, List.getElem?_eq_getElem (by rw [marks_length]; exact h)]; simp [marks]
theorem marks_succ (m : Int) (n : Nat) : marks m (n + 1) = marks m n ++ [m + (n : Int)] := by simp [marks, List.range_succ]
theorem ev_mark_l (l : List Int) (hl : l.length ≤ 1000000000000) : ∀ (d i : Nat), i + d = l.length →
    Ev (fun k => laws_markIntS.l0 k (marks 1 i ++ l.drop i) (1 + (i : Int)) (i : Int)) (1 + (l.length : Int), marks 1 l.length) := by
  intro d
  induction d with
  | zero =>
    intro i hi
    refine Ev.step (fun k => by rw [laws_markIntS.l0]) ?_
    have e : marks 1 i ++ l.drop i = marks 1 l.length := by rw [List.drop_eq_nil_of_le (by omega), List.append_nil, show i = l.length by omega]
    have h1 : ¬ (i : Int) < ((marks 1 l.length).length : Int) := by rw [marks_length]; omega
    simp only [e, if_neg h1]
    refine Ev.ret ?_
    rw [show (i : Int) = (l.length : Int) by omega]
  | succ d ih =>
    intro i hi
    refine Ev.step (fun k => by rw [laws_markIntS.l0]) ?_
    have h1 : (i : Int) < ((marks 1 i ++ l.drop i).length : Int) := by rw [List.length_append, marks_length, List.length_drop]; omega
    have h2 : (0 : Int) ≤ (i : Int) := by omega
    have e : (marks 1 i ++ l.drop i).set i (1 + (i : Int)) = marks 1 (i + 1) ++ l.drop (i + 1) := by
      rw [List.set_append_right _ _ (by rw [marks_length]; exact Nat.le_refl _), marks_length, Nat.sub_self, drop_step l i (by omega), List.set_cons_zero, marks_succ, List.append_assoc]; rfl
    simp only [if_pos h1, if_pos h2, Int.toNat_natCast, e, w64 (x := (i : Int) + 1) (by omega), w64 (x := 1 + (i : Int) + 1) (by omega)]
    have := ih (i + 1) (by omega)
    rw [show (1 : Int) + ((i + 1 : Nat) : Int) = 1 + (i : Int) + 1 by omega] at this
    exact this
theorem ev_mark (l : List Int) (hl : l.length ≤ 1000000000000) : Ev (fun k => laws_markIntS.f k l 1) (1 + (l.length : Int), marks 1 l.length) := by
  unfold laws_markIntS.f
  exact ev_mark_l l hl l.length 0 (by omega)
theorem ev_held_l (n : Nat) (hn : n ≤ 1000000000000) : ∀ (d i : Nat), i + d = n →
    Ev (fun k => laws_heldIntS.l0 k (marks 1 n) (1 + (i : Int)) (i : Int)) (1 + (n : Int)) := by
  intro d
  induction d with
  | zero =>
    intro i hi
    refine Ev.step (fun k => by rw [laws_heldIntS.l0]) ?_
    have h1 : ¬ (i : Int) < ((marks 1 n).length : Int) := by rw [marks_length]; omega
    simp only [if_neg h1]
    exact Ev.ret (by omega)
  | succ d ih =>
    intro i hi
    refine Ev.step (fun k => by rw [laws_heldIntS.l0]) ?_
    have h1 : (i : Int) < ((marks 1 n).length : Int) := by rw [marks_length]; omega
    have h2 : (0 : Int) ≤ (i : Int) := by omega
    simp only [if_pos h1, if_pos h2, rd_nat, marks_getD 1 n i (by omega), if_true, w64 (x := (i : Int) + 1) (by omega), w64 (x := 1 + (i : Int) + 1) (by omega)]
    have := ih (i + 1) (by omega)
    rw [show (1 : Int) + ((i + 1 : Nat) : Int) = 1 + (i : Int) + 1 by omega] at this
    exact this
theorem ev_held (n : Nat) (hn : n ≤ 1000000000000) : Ev (fun k => laws_heldIntS.f k (marks 1 n) 1) (1 + (n : Int)) := by
  unfold laws_heldIntS.f
  exact ev_held_l n hn n 0 (by omega)

theorem FnExactAtPowers : laws_FnExactAtPowers.Pure := by
  intro l h1 h2 h3
  apply Ev.k
  unfold laws_FnExactAtPowers.f
  by_cases h : (l.length : Int) > 1048576
  · simp only [if_pos h]; exact Ev.now _
  simp only [if_neg h]
  have hz := atPowsZ_length l
  refine Ev.bind (ev_toIntS l (by omega)) (Ev.bind (ev_sAtPowers l (by omega)) (Ev.bind (ev_toIntS l (by omega)) (Ev.bind (ev_AtPowers l (by omega)) (Ev.bind (ev_eqIntS (atPowsZ l) (atPowsZ l) (by omega)) ?_))))
  simp only [decide_true, if_true]
  refine Ev.bind (ev_toIntS l (by omega)) (Ev.bind (ev_eqIntS l l (by omega)) ?_)
  simp only [decide_true, if_true]
  refine Ev.bind (ev_mark l (by omega)) ?_
  have c0 : ¬ 1 + (l.length : Int) < 0 := by omega
  simp only [if_neg c0]
  refine Ev.bind (ev_eqIntS (atPowsZ l) (atPowsZ l) (by omega)) ?_
  simp only [decide_true, Bool.not_true]
  refine Ev.step (fun k => by rw [laws_FnExactAtPowers.j0]) ?_
  simp only [Bool.false_eq_true, if_false]
  refine Ev.bind (ev_mark (atPowsZ l) (by omega)) (Ev.bind (ev_held (atPowsZ l).length (by omega)) ?_)
  have c : ¬ 1 + ((atPowsZ l).length : Int) < 0 := by omega
  simp only [if_neg c, if_true]
  refine Ev.bind (ev_toIntS l (by omega)) (Ev.bind (ev_AtPowers l (by omega)) (Ev.bind (ev_eqIntS (atPowsZ l) (atPowsZ l) (by omega)) ?_))
  simp only [decide_true, if_true]
  refine Ev.bind (ev_held (atPowsZ l).length (by omega)) ?_
  simp only [if_neg c, if_true]
  exact Ev.now _

end Go.Proofs.Ytjhnjlakdokncaa.Pure
namespace Go.Proofs.Ytjhnjlakdokncaa.PrintWords
/-- The printed row's word, under the name by which that row calls it. -/
abbrev sized_ints := @Go.Proofs.YtjhnjlakdokncaaW.PrintWords.sized_ints
end Go.Proofs.Ytjhnjlakdokncaa.PrintWords
