/- The program and the reference tell the same of a drawn row at the powers of primes; the row of the numbers themselves tells the powers, and nothing is told of what is no row. -/
import Derived.Test.YteebmpbhhpmhbaaQFnAtPowersx0
import Derived.Test.YteebmpbhhpmhbaaQFnAtPowersx1
import Derived.Test.YteebmpbhhpmhbaaQFnAtPowersx10
import Derived.Test.YteebmpbhhpmhbaaQFnAtPowersx11
import Derived.Test.YteebmpbhhpmhbaaQFnAtPowersx2
import Derived.Test.YteebmpbhhpmhbaaQFnAtPowersx3
import Derived.Test.YteebmpbhhpmhbaaQFnAtPowersx4
import Derived.Test.YteebmpbhhpmhbaaQFnAtPowersx5
import Derived.Test.YteebmpbhhpmhbaaQFnAtPowersx6
import Derived.Test.YteebmpbhhpmhbaaQFnAtPowersx7
import Derived.Test.YteebmpbhhpmhbaaQFnAtPowersx8
import Derived.Test.YteebmpbhhpmhbaaQFnAtPowersx9
import Derived.Test.YteebmpbhhpmhbaaM1
import Derived.Test.YteebmpbhhpmhbaaM0
import Derived.Test.YteebmpbhhpmhbaaM2
import Derived.Test.YteebmpbhhpmhbaaVFnAtPowersWSized
namespace Go.Proofs.Yteebmpbhhpmhbaa.Pure
open Go.RowKit Go.Proofs.Yteebmpbhhpmhbaa.PFnAtPowers Go.Proofs.YteebmpbhhpmhbaaW.PrintWords Go.Proofs.YteebmpbhhpmhbaaW.PrintLast Go.Proofs.YteebmpbhhpmhbaaW.PrintMore Go.Proofs.Yteebmpbhhpmhbaa.Math
set_option linter.unusedVariables false
set_option linter.unusedSimpArgs false
theorem w64 {x : Int} (h : -9223372036854775808 ≤ x ∧ x ≤ 9223372036854775807) : wrap64 x = x := by unfold wrap64; omega
theorem Ev.k {α : Type} {g : Nat → Option α} {r : α} (h : Ev g r) : ∃ k, g k = some r := Ev.rounds h
theorem Ev.to {α : Type} {g : Nat → Option α} {r s : α} (h : Ev g r) (e : r = s) : Ev g s := e ▸ h
theorem Ev.ret {α : Type} {r s : α} (e : r = s) : Ev (fun _ => some r) s := e ▸ Ev.now r

theorem rd_nat (xs : List Int) (i : Nat) : rd xs (i : Int) = xs.getD i 0 := rfl
theorem drop_step (f : List Int) (i : Nat) (h : i < f.length) : f.drop i = f.getD i 0 :: f.drop (i + 1) := by
  rw [List.drop_eq_getElem_cons h]; simp [List.getD_eq_getElem?_getD, List.getElem?_eq_getElem h]
def InB (f : List Int) (m : Int) : Prop := ∀ x ∈ f, -m ≤ x ∧ x ≤ m
instance (f : List Int) (m : Int) : Decidable (InB f m) := by unfold InB; infer_instance
theorem InB_cons (x : Int) (f : List Int) (m : Int) : InB (x :: f) m ↔ (-m ≤ x ∧ x ≤ m) ∧ InB f m := by
  unfold InB; simp
theorem InB_nil (m : Int) : InB [] m := fun x h => by cases h
theorem InB.mono {f : List Int} {m n : Int} (h : InB f m) (hmn : m ≤ n) : InB f n := fun x hx => by have := h x hx; omega

/-- The rows with names. -/
def named : Nat → List Int
  | 0 => [1, 0, 0, 0, 0, 0, 0, 0, 0, 0, 0, 0, 0, 0, 0, 0, 0, 0, 0, 0, 0, 0, 0, 0]
  | 1 => [1, 1, 1, 1, 1, 1, 1, 1, 1, 1, 1, 1, 1, 1, 1, 1, 1, 1, 1, 1, 1, 1, 1, 1]
  | 2 => [1, 2, 3, 4, 5, 6, 7, 8, 9, 10, 11, 12, 13, 14, 15, 16, 17, 18, 19, 20, 21, 22, 23, 24]
  | 3 => [1, 2, 2, 3, 2, 4, 2, 4, 3, 4, 2, 6, 2, 4, 4, 5, 2, 6, 2, 6, 4, 4, 2, 8]
  | 4 => [1, 3, 4, 7, 6, 12, 8, 15, 13, 18, 12, 28, 14, 24, 24, 31, 18, 39, 20, 42, 32, 36, 24, 60]
  | 5 => [1, 1, 2, 2, 4, 2, 6, 4, 6, 4, 10, 4, 12, 6, 8, 8, 16, 6, 18, 8, 12, 10, 22, 8]
  | 6 => [1, -1, -1, 0, -1, 1, -1, 0, 0, 1, -1, 0, -1, 1, 1, 0, -1, 0, -1, 0, 1, 1, -1, 0]
  | _ => [1, -1, -1, 1, -1, 1, -1, -1, 1, 1, -1, -1, -1, 1, 1, 1, -1, -1, -1, -1, 1, 1, -1, 1]
theorem named_length (i : Nat) : (named i).length = 24 := by
  unfold named; split <;> rfl
theorem named_in (i : Nat) : InB (named i) 60 := by
  unfold named; split <;> decide

theorem ev_sNamedRow (i : Nat) (h : i < 8) : Ev (fun k => spec_NamedRow.f k (i : Int)) (named i) := by
  have : i = 0 ∨ i = 1 ∨ i = 2 ∨ i = 3 ∨ i = 4 ∨ i = 5 ∨ i = 6 ∨ i = 7 := by omega
  rcases this with rfl | rfl | rfl | rfl | rfl | rfl | rfl | rfl <;> exact Ev.of (fun k => spec_NamedRow.mono _ k) (k := 200) (by decide +kernel)

/-- What a row is at a number. -/
def At (f : List Int) (n : Nat) : Int := f.getD (n - 1) 0
theorem rd_at (f : List Int) (n : Nat) (h : 1 ≤ n) : rd f ((n : Int) - 1) = At f n := by
  rw [show (n : Int) - 1 = ((n - 1 : Nat) : Int) by omega]; rfl
theorem rd_at0 (f : List Int) : rd f 0 = At f 1 := rfl
theorem InB.at {f : List Int} {m : Int} (h : InB f m) (hm : 0 ≤ m) (n : Nat) : -m ≤ At f n ∧ At f n ≤ m := by
  unfold At; rw [List.getD_eq_getElem?_getD]
  by_cases c : n - 1 < f.length
  · rw [List.getElem?_eq_getElem c]; exact h _ (List.getElem_mem _)
  · rw [List.getElem?_eq_none (by omega)]; simp; omega
theorem mul_in {x y B : Int} (hx : -B ≤ x ∧ x ≤ B) (hy : -B ≤ y ∧ y ≤ B) (hB : 0 ≤ B) : -(B * B) ≤ x * y ∧ x * y ≤ B * B := by
  have h1 : x.natAbs ≤ B.toNat := by omega
  have h2 : y.natAbs ≤ B.toNat := by omega
  have h3 := Nat.mul_le_mul h1 h2
  rw [← Int.natAbs_mul] at h3
  have h4 : ((B.toNat * B.toNat : Nat) : Int) = B * B := by rw [Int.natCast_mul, Int.toNat_of_nonneg hB]
  omega
theorem w64_prod {f : List Int} (h : InB f 1000000000) (a b : Nat) : wrap64 (At f a * At f b) = At f a * At f b := by
  have := mul_in (h.at (by omega) a) (h.at (by omega) b) (by omega)
  exact w64 (by omega)
/-- A row is 1 at 1, and at each product of two numbers (that are apart, or all) the product. -/
def Mult (all : Bool) (f : List Int) : Prop := At f 1 = 1 ∧ ∀ a b, 1 ≤ a → 1 ≤ b → a * b ≤ 24 → (all = true ∨ Nat.gcd a b = 1) → At f (a * b) = At f a * At f b
/-- It is so at all pairs before one. -/
def MultTo (all : Bool) (f : List Int) (x y : Nat) : Prop := ∀ a b, (a < x ∨ a = x ∧ b < y) → 1 ≤ a → 1 ≤ b → a * b ≤ 24 → (all = true ∨ Nat.gcd a b = 1) → At f (a * b) = At f a * At f b
theorem MultTo.step {all : Bool} {f : List Int} {x y : Nat} (h : MultTo all f x y) (e : x * y ≤ 24 → (all = true ∨ Nat.gcd x y = 1) → At f (x * y) = At f x * At f y) : MultTo all f x (y + 1) := by
  intro a b hab h1 h2 h3 h4
  by_cases c : a = x ∧ b = y
  · obtain ⟨rfl, rfl⟩ := c; exact e h3 h4
  · exact h a b (by omega) h1 h2 h3 h4
theorem MultTo.next {all : Bool} {f : List Int} {x y : Nat} (h : MultTo all f x y) (hy : 24 < x * y) : MultTo all f (x + 1) 1 := by
  intro a b hab h1 h2 h3 h4
  refine h a b ?_ h1 h2 h3 h4
  by_cases c : a < x
  · exact Or.inl c
  · have e : a = x := by omega
    subst e
    refine Or.inr ⟨rfl, Nat.lt_of_not_le (fun hle => ?_)⟩
    have := Nat.mul_le_mul_left a hle; omega

/-- One term of a product over divisors. -/
def term (f g : List Int) (n d : Nat) : Int := At f d * At g (n / d)
/-- The product of two rows over divisors, at a number. -/
def conv (f g : List Int) (n : Nat) : Int := isum ((divs n).map (term f g n))
def times (f g : List Int) : List Int := (List.range 24).map (fun i => conv f g (i + 1))
theorem isum_bound {l : List Int} {B : Int} (hB : 0 ≤ B) (h : ∀ x ∈ l, -B ≤ x ∧ x ≤ B) : -((l.length : Int) * B) ≤ isum l ∧ isum l ≤ (l.length : Int) * B := by
  induction l with
  | nil => simp [isum]
  | cons x t ih =>
    have h1 := h x (by simp)
    have h2 := ih (fun y hy => h y (List.mem_cons_of_mem _ hy))
    simp only [isum, List.length_cons]
    rw [Int.natCast_add, Int.add_mul]
    omega
theorem term_in {f g : List Int} (hf : InB f 10000) (hg : InB g 10000) (n d : Nat) : -100000000 ≤ term f g n d ∧ term f g n d ≤ 100000000 := by
  have := mul_in (hf.at (by omega) d) (hg.at (by omega) (n / d)) (by omega)
  unfold term; omega
theorem isum_terms {f g : List Int} (hf : InB f 10000) (hg : InB g 10000) (n : Nat) (l : List Nat) (hl : l.length ≤ 1000) : -100000000000 ≤ isum (l.map (term f g n)) ∧ isum (l.map (term f g n)) ≤ 100000000000 := by
  have h := isum_bound (l := l.map (term f g n)) (B := 100000000) (by omega) (fun x hx => by
    obtain ⟨d, _, rfl⟩ := List.mem_map.1 hx; exact term_in hf hg n d)
  rw [List.length_map] at h
  omega
theorem times_length (f g : List Int) : (times f g).length = 24 := by simp [times]
theorem At_times (f g : List Int) (n : Nat) (h : 1 ≤ n ∧ n ≤ 24) : At (times f g) n = conv f g n := by
  unfold At times
  rw [List.getD_eq_getElem?_getD, List.getElem?_map, List.getElem?_range (by omega)]
  simp only [Option.map_some, Option.getD_some]
  rw [show n - 1 + 1 = n by omega]
theorem ext_At {a b : List Int} (ha : a.length = 24) (hb : b.length = 24) (h : ∀ n, 1 ≤ n → n ≤ 24 → At a n = At b n) : a = b := by
  refine List.ext_getElem (by omega) (fun t h1 h2 => ?_)
  have := h (t + 1) (by omega) (by omega)
  unfold At at this
  rw [show t + 1 - 1 = t by omega] at this
  simpa [List.getD_eq_getElem?_getD, List.getElem?_eq_getElem h1, List.getElem?_eq_getElem h2] using this
theorem At_set (a : List Int) (m : Nat) (x : Int) (n : Nat) (hm : 1 ≤ m) (hl : m ≤ a.length) (hn : 1 ≤ n) : At (a.set (m - 1) x) n = if n = m then x else At a n := by
  unfold At
  simp only [List.getD_eq_getElem?_getD, List.getElem?_set]
  by_cases e : n = m
  · subst e; simp [show n - 1 < a.length by omega]
  · rw [if_neg (by omega), if_neg e]

theorem l1In_f (a b c : Int) : spec_l1In.f a b c = some (decide (b ≤ a ∧ a ≤ c)) := by
  unfold spec_l1In.f
  by_cases h : a ≥ b
  · rw [if_pos h]; simp [show b ≤ a from h]
  · rw [if_neg h]; simp [show ¬ b ≤ a from h]

theorem ev_sRowOk_l (f : List Int) (hf : f.length ≤ 1000000000000000) : ∀ (d i : Nat), i + d = f.length →
    Ev (fun k => spec_RowOk.l0 k f (i : Int)) (decide (InB (f.drop i) 1000000000 ∧ f.length = 24)) := by
  intro d
  induction d with
  | zero =>
    intro i hi
    refine Ev.step (fun k => by rw [spec_RowOk.l0]) ?_
    have h1 : ¬ (i : Int) < (f.length : Int) := by omega
    simp only [if_neg h1]
    refine Ev.ret ?_
    rw [List.drop_eq_nil_of_le (by omega), Bool.eq_iff_iff]; simp [InB_nil]; omega
  | succ d ih =>
    intro i hi
    refine Ev.step (fun k => by rw [spec_RowOk.l0]) ?_
    have h1 : (i : Int) < (f.length : Int) := by omega
    have h2 : (0 : Int) ≤ (i : Int) := by omega
    simp only [if_pos h1, if_pos h2, rd_nat, l1In_f, Option.bind_some, decide_eq_true_eq]
    have e := drop_step f i (by omega)
    by_cases a : -1000000000 ≤ f.getD i 0 ∧ f.getD i 0 ≤ 1000000000
    · simp only [if_pos a, w64 (x := (i : Int) + 1) (by omega)]
      refine Ev.to (ih (i + 1) (by omega)) ?_
      rw [Bool.eq_iff_iff]; simp only [decide_eq_true_eq]; rw [e, InB_cons]
      constructor
      · rintro ⟨h, g⟩; exact ⟨⟨a, h⟩, g⟩
      · rintro ⟨⟨_, h⟩, g⟩; exact ⟨h, g⟩
    · simp only [if_neg a]
      refine Ev.ret ?_
      symm; rw [decide_eq_false_iff_not, e, InB_cons]; rintro ⟨⟨h, _⟩, _⟩; exact a h
theorem ev_sRowOk (f : List Int) (hf : f.length ≤ 1000000000000000) :
    Ev (fun k => spec_RowOk.f k f) (decide (InB f 1000000000 ∧ f.length = 24)) := by
  unfold spec_RowOk.f
  exact ev_sRowOk_l f hf f.length 0 (by omega)

/-- What the product of two rows tells: the row and true, or nothing and false. -/
def timesR (f g : List Int) : List Int × Bool := if (InB f 10000 ∧ f.length = 24) ∧ (InB g 10000 ∧ g.length = 24) then (times f g, true) else ([], false)
theorem InB_iff_At {f : List Int} (hl : f.length = 24) (m : Int) : InB f m ↔ ∀ n, 1 ≤ n → n ≤ 24 → -m ≤ At f n ∧ At f n ≤ m := by
  constructor
  · intro h n n1 n2
    unfold At
    rw [List.getD_eq_getElem?_getD, List.getElem?_eq_getElem (show n - 1 < f.length by omega)]
    exact h _ (List.getElem_mem _)
  · intro h x hx
    obtain ⟨i, hi, rfl⟩ := List.mem_iff_getElem.1 hx
    have := h (i + 1) (by omega) (by omega)
    unfold At at this
    rw [List.getD_eq_getElem?_getD, List.getElem?_eq_getElem (show i + 1 - 1 < f.length by omega)] at this
    simpa using this
theorem timesR_length (f g : List Int) : (timesR f g).1.length ≤ 24 := by
  unfold timesR; split
  · exact Nat.le_of_eq (times_length f g)
  · simp

theorem lowD_24 (n : Nat) (h : 1 ≤ n ∧ n ≤ 24) : lowD n 25 = divs n := by
  refine sorted_ext (lowD_sorted n 25) (divs_sorted n) (fun a => ?_)
  rw [mem_lowD, mem_divs]
  constructor
  · rintro ⟨x, y, z⟩; exact ⟨x, Nat.le_of_dvd (by omega) (Nat.dvd_of_mod_eq_zero z), z⟩
  · rintro ⟨x, y, z⟩; exact ⟨x, by omega, z⟩
/-- What the row of sums holds while the products are added. -/
def TimesAt (f g out : List Int) (a y : Nat) : Prop :=
  out.length = 24 ∧ ∀ n, 1 ≤ n → n ≤ 24 → At out n = isum ((lowD n a).map (term f g n)) + if n % a = 0 ∧ n / a < y then term f g n a else 0
theorem TimesAt.next {f g out : List Int} {a y : Nat} (h : TimesAt f g out a y) (ha : 1 ≤ a) (hy : 24 < a * y) : TimesAt f g out (a + 1) 1 := by
  refine ⟨h.1, fun n h1 h2 => ?_⟩
  rw [h.2 n h1 h2, lowD_succ n a ha, if_neg (show ¬ (n % (a + 1) = 0 ∧ n / (a + 1) < 1) from ?_)]
  · by_cases z : n % a = 0
    · have : n / a < y := by rw [Nat.div_lt_iff_lt_mul (by omega), Nat.mul_comm]; omega
      rw [if_pos ⟨z, this⟩, if_pos z, List.map_append, isum_append]
      simp [isum]
    · rw [if_neg (fun x => z x.1), if_neg z]
  · rintro ⟨z, q⟩
    have e := Nat.div_add_mod n (a + 1)
    generalize n / (a + 1) = q' at *
    have : q' = 0 := by omega
    subst this; omega
theorem ev_l2_l1 {f g : List Int} (hf : InB f 10000) (hg : InB g 10000) (lf : f.length = 24) (lg : g.length = 24) (a : Nat) (ha : 1 ≤ a ∧ a ≤ 24)
    (hN : ∀ out, TimesAt f g out (a + 1) 1 → Ev (fun k => spec_l2Times.l0 k f g out ((a + 1 : Nat) : Int)) (times f g)) : ∀ (m y : Nat) (out : List Int), y + m = 25 → 1 ≤ y → TimesAt f g out a y →
    Ev (fun k => spec_l2Times.l1 k f g out (a : Int) (y : Int)) (times f g) := by
  intro m
  induction m with
  | zero =>
    intro y out hy h1 hI
    have hb : 1 * 25 ≤ a * y := Nat.mul_le_mul ha.1 (by omega)
    have hb2 : a * y ≤ 24 * 25 := Nat.mul_le_mul ha.2 (by omega)
    refine Ev.step (fun k => by rw [spec_l2Times.l1]) ?_
    have e : (a : Int) * (y : Int) = ((a * y : Nat) : Int) := by simp
    have c : ¬ ((a * y : Nat) : Int) ≤ 24 := by omega
    simp only [e, w64 (x := ((a * y : Nat) : Int)) (by omega), if_neg c, w64 (x := (a : Int) + 1) (by omega)]
    exact hN out (hI.next ha.1 (by omega))
  | succ m ih =>
    intro y out hy h1 hI
    have hb2 : a * y ≤ 24 * 25 := Nat.mul_le_mul ha.2 (by omega)
    have hb1 : 1 * 1 ≤ a * y := Nat.mul_le_mul ha.1 h1
    refine Ev.step (fun k => by rw [spec_l2Times.l1]) ?_
    have e : (a : Int) * (y : Int) = ((a * y : Nat) : Int) := by simp
    by_cases hc : a * y ≤ 24
    · have c : ((a * y : Nat) : Int) ≤ 24 := by omega
      have c1 : 0 ≤ ((a * y : Nat) : Int) - 1 := by omega
      have c2 : ((a * y : Nat) : Int) - 1 < (out.length : Int) := by rw [hI.1]; omega
      have c3 : 0 ≤ (a : Int) - 1 := by omega
      have c4 : (a : Int) - 1 < (f.length : Int) := by omega
      have c5 : 0 ≤ (y : Int) - 1 := by omega
      have c6 : (y : Int) - 1 < (g.length : Int) := by
        have := Nat.mul_le_mul_right y ha.1; omega
      have yv : a * y / a = y := Nat.mul_div_cancel_left _ (by omega)
      have tm : At f a * At g y = term f g (a * y) a := by unfold term; rw [yv]
      have old : At out (a * y) = isum ((lowD (a * y) a).map (term f g (a * y))) := by
        rw [hI.2 (a * y) (by omega) hc, if_neg (fun x => by omega)]; omega
      have b1 := isum_terms hf hg (a * y) (lowD (a * y) a) (by have := length_lowD (a * y) a; omega)
      have b2 := term_in hf hg (a * y) a
      rw [← old] at b1
      have ti : (((a * y : Nat) : Int) - 1).toNat = a * y - 1 := by omega
      simp only [e, w64 (x := ((a * y : Nat) : Int)) (by omega), w64 (x := ((a * y : Nat) : Int) - 1) (by omega), w64 (x := (a : Int) - 1) (by omega), w64 (x := (y : Int) - 1) (by omega), w64 (x := (y : Int) + 1) (by omega),
        if_pos c, if_pos c1, if_pos c2, if_pos c3, if_pos c4, if_pos c5, if_pos c6, rd_at out (a * y) (by omega), rd_at f a (by omega), rd_at g y (by omega), tm, w64 (x := term f g (a * y) a) (by omega), w64 (x := At out (a * y) + term f g (a * y) a) (by omega), ti]
      refine ih (y + 1) _ (by omega) (by omega) ⟨by rw [List.length_set]; exact hI.1, fun n n1 n2 => ?_⟩
      rw [At_set out (a * y) _ n (by omega) (by rw [hI.1]; exact hc) n1]
      by_cases en : n = a * y
      · subst en
        rw [if_pos rfl, if_pos ⟨Nat.mul_mod_right _ _, by omega⟩, old]
      · rw [if_neg en, hI.2 n n1 n2]
        by_cases z : n % a = 0 ∧ n / a < y
        · rw [if_pos z, if_pos ⟨z.1, by omega⟩]
        · rw [if_neg z, if_neg (fun x => z ⟨x.1, ?_⟩)]
          have en2 := Nat.div_add_mod n a
          rw [x.1] at en2
          by_cases q : n / a = y
          · rw [q] at en2; omega
          · omega
    · have c : ¬ ((a * y : Nat) : Int) ≤ 24 := by omega
      simp only [e, w64 (x := ((a * y : Nat) : Int)) (by omega), if_neg c, w64 (x := (a : Int) + 1) (by omega)]
      exact hN out (hI.next ha.1 (by omega))
theorem ev_l2_l0 {f g : List Int} (hf : InB f 10000) (hg : InB g 10000) (lf : f.length = 24) (lg : g.length = 24) : ∀ (m a : Nat) (out : List Int), a + m = 25 → 1 ≤ a → TimesAt f g out a 1 →
    Ev (fun k => spec_l2Times.l0 k f g out (a : Int)) (times f g) := by
  intro m
  induction m with
  | zero =>
    intro a out ha h1 hI
    refine Ev.step (fun k => by rw [spec_l2Times.l0]) ?_
    have c : ¬ (a : Int) ≤ 24 := by omega
    simp only [if_neg c]
    have e : a = 25 := by omega
    subst e
    refine Ev.ret (ext_At hI.1 (times_length f g) (fun n n1 n2 => ?_))
    rw [hI.2 n n1 n2, At_times f g n ⟨n1, n2⟩, if_neg (fun x => by omega), lowD_24 n ⟨n1, n2⟩]
    unfold conv; omega
  | succ m ih =>
    intro a out ha h1 hI
    refine Ev.step (fun k => by rw [spec_l2Times.l0]) ?_
    have c : (a : Int) ≤ 24 := by omega
    simp only [if_pos c]
    exact ev_l2_l1 hf hg lf lg a (by omega) (fun out h => ih (a + 1) out (by omega) (by omega) h) 24 1 out (by omega) (by omega) hI
theorem ev_l2Times {f g : List Int} (hf : InB f 10000) (hg : InB g 10000) (lf : f.length = 24) (lg : g.length = 24) : Ev (fun k => spec_l2Times.f k f g) (times f g) := by
  unfold spec_l2Times.f
  have c : 24 ≤ 35184372088832 := by omega
  simp only [if_pos c]
  refine ev_l2_l0 hf hg lf lg 24 1 _ (by omega) (by omega) ⟨by simp, fun n n1 n2 => ?_⟩
  rw [if_neg (fun x => by
    have h := x.2
    rw [Nat.div_one] at h
    omega)]
  have e : lowD n 1 = [] := by unfold lowD; rfl
  rw [e]
  unfold At
  rw [List.getD_eq_getElem?_getD, List.getElem?_replicate]
  split <;> simp [isum]
theorem ev_sTimes_l {f g : List Int} (lf : f.length = 24) (lg : g.length = 24) : ∀ (m i : Nat), i + m = 24 → (∀ n, 1 ≤ n → n ≤ i → (-10000 ≤ At f n ∧ At f n ≤ 10000) ∧ (-10000 ≤ At g n ∧ At g n ≤ 10000)) →
    Ev (fun k => spec_TimesOf.l0 k f g (i : Int)) (timesR f g) := by
  intro m
  induction m with
  | zero =>
    intro i hi hI
    refine Ev.step (fun k => by rw [spec_TimesOf.l0]) ?_
    have c : ¬ (i : Int) < 24 := by omega
    have hf : InB f 10000 := (InB_iff_At lf 10000).2 (fun n n1 n2 => (hI n n1 (by omega)).1)
    have hg : InB g 10000 := (InB_iff_At lg 10000).2 (fun n n1 n2 => (hI n n1 (by omega)).2)
    simp only [if_neg c]
    unfold timesR
    rw [if_pos ⟨⟨hf, lf⟩, ⟨hg, lg⟩⟩]
    exact Ev.bind (ev_l2Times hf hg lf lg) (Ev.now _)
  | succ m ih =>
    intro i hi hI
    refine Ev.step (fun k => by rw [spec_TimesOf.l0]) ?_
    have c : (i : Int) < 24 := by omega
    have c1 : 0 ≤ (i : Int) := by omega
    have c2 : (i : Int) < (f.length : Int) := by omega
    have c3 : (i : Int) < (g.length : Int) := by omega
    have ef : rd f (i : Int) = At f (i + 1) := rfl
    have eg : rd g (i : Int) = At g (i + 1) := rfl
    simp only [if_pos c, if_pos c1, if_pos c2, if_pos c3, ef, eg, l1In_f, Option.bind_some, decide_eq_true_eq, w64 (x := (i : Int) + 1) (by omega)]
    have no : ¬ ((-10000 ≤ At f (i + 1) ∧ At f (i + 1) ≤ 10000) ∧ (-10000 ≤ At g (i + 1) ∧ At g (i + 1) ≤ 10000)) → timesR f g = ([], false) := fun h => by
      unfold timesR
      rw [if_neg]
      rintro ⟨⟨hf, _⟩, ⟨hg, _⟩⟩
      exact h ⟨hf.at (by omega) _, hg.at (by omega) _⟩
    by_cases h1 : -10000 ≤ At f (i + 1) ∧ At f (i + 1) ≤ 10000
    · by_cases h2 : -10000 ≤ At g (i + 1) ∧ At g (i + 1) ≤ 10000
      · simp only [if_pos h1, if_pos h2]
        refine ih (i + 1) (by omega) (fun n n1 n2 => ?_)
        by_cases e : n = i + 1
        · subst e; exact ⟨h1, h2⟩
        · exact hI n n1 (by omega)
      · simp only [if_pos h1, if_neg h2]
        exact Ev.ret (no (fun h => h2 h.2)).symm
    · simp only [if_neg h1]
      exact Ev.ret (no (fun h => h1 h.1)).symm
theorem ev_sTimesOf (f g : List Int) (hf : f.length ≤ 1000000000000000) (hg : g.length ≤ 1000000000000000) : Ev (fun k => spec_TimesOf.f k f g) (timesR f g) := by
  unfold spec_TimesOf.f
  have no : ¬ ((InB f 1000000000 ∧ f.length = 24) ∧ (InB g 1000000000 ∧ g.length = 24)) → Ev (fun k => spec_TimesOf.j0 k f g true) (timesR f g) := fun h => by
    refine Ev.step (fun k => by rw [spec_TimesOf.j0]) ?_
    simp only [if_true]
    refine Ev.ret ?_
    unfold timesR
    rw [if_neg (fun x => h ⟨⟨x.1.1.mono (by omega), x.1.2⟩, ⟨x.2.1.mono (by omega), x.2.2⟩⟩)]
  refine Ev.bind (ev_sRowOk f hf) ?_
  by_cases h1 : InB f 1000000000 ∧ f.length = 24
  · simp only [decide_eq_true h1, if_true]
    refine Ev.bind (ev_sRowOk g hg) ?_
    by_cases h2 : InB g 1000000000 ∧ g.length = 24
    · simp only [decide_eq_true h2, Bool.not_true]
      refine Ev.step (fun k => by rw [spec_TimesOf.j0]) ?_
      simp only [Bool.false_eq_true, if_false]
      exact ev_sTimes_l h1.2 h2.2 24 0 (by omega) (fun n n1 n2 => by omega)
    · simp only [decide_eq_false h2, Bool.not_false]
      exact no (fun x => h2 x.2)
  · simp only [decide_eq_false h1, Bool.false_eq_true, if_false]
    exact no (fun x => h1 x.1)

theorem wf_u8 {x : Int} (h : (Lit.int .u8 x).wf = true) : 0 ≤ x ∧ x ≤ 255 := by
  simp [Lit.wf, IntKind.wrap, IntKind.bits, IntKind.signed, IntKind.min, IntKind.max] at h; omega
theorem wf_i64 {x : Int} (h : (Lit.int .i64 x).wf = true) : -9223372036854775808 ≤ x ∧ x ≤ 9223372036854775807 := by
  simp [Lit.wf, IntKind.wrap, IntKind.bits, IntKind.signed, IntKind.min, IntKind.max] at h; omega
theorem xor_nonneg (x y : Int) (h0 : 0 ≤ x) (h1 : x < 4611686018427387904) (h2 : 0 ≤ y) (h3 : y < 4611686018427387904) : 0 ≤ Go.bits .xor .i64 x y := by
  obtain ⟨a, rfl⟩ := Int.eq_ofNat_of_zero_le h0
  obtain ⟨b, rfl⟩ := Int.eq_ofNat_of_zero_le h2
  have ha : a < 2 ^ 62 := by omega
  have hb : b < 2 ^ 62 := by omega
  have hx := Nat.xor_lt_two_pow ha hb
  have ha' : a % 2 ^ 64 = a := Nat.mod_eq_of_lt (by omega)
  have hb' : b % 2 ^ 64 = b := Nat.mod_eq_of_lt (by omega)
  have e : Go.bits .xor .i64 ((a : Nat) : Int) ((b : Nat) : Int) = IntKind.i64.wrap ((a ^^^ b : Nat) : Int) := by
    simp only [Go.bits, IntKind.bits, BitVec.ofInt_natCast]
    show IntKind.i64.wrap (((BitVec.ofNat 64 a ^^^ BitVec.ofNat 64 b).toNat : Nat) : Int) = _
    rw [BitVec.toNat_xor, BitVec.toNat_ofNat, BitVec.toNat_ofNat, ha', hb']
  rw [e]
  simp only [IntKind.wrap, IntKind.bits, IntKind.signed]
  simp
  omega
/-- The bytes of a draw. -/
def Bytes (b : List Int) : Prop := b.length ≤ 2000 ∧ ∀ x ∈ b, 0 ≤ x ∧ x ≤ 255
theorem Bytes.rd {b : List Int} (hb : Bytes b) (i : Int) : 0 ≤ rd b i ∧ rd b i ≤ 255 := by
  show 0 ≤ b.getD i.toNat 0 ∧ b.getD i.toNat 0 ≤ 255
  rw [List.getD_eq_getElem?_getD]
  by_cases h : i.toNat < b.length
  · rw [List.getElem?_eq_getElem h]; exact hb.2 _ (List.getElem_mem _)
  · rw [List.getElem?_eq_none (by omega)]; simp
theorem ev_pick {b : List Int} (hb : Bytes b) (p n : Int) (hp : 0 ≤ p ∧ p ≤ 1000000) (hn : 1 ≤ n ∧ n ≤ 1000000000000) :
    ∃ r, (0 ≤ r ∧ r < n) ∧ Ev (fun k => spec_l20Rd_pick.f k b p n) (r, p + 1) := by
  have g0 : ¬ n < 1 := by omega
  unfold spec_l20Rd_pick.f
  simp only [if_neg g0, w64 (x := p + 1) (by omega)]
  have e1 : p + 1 - 1 = p := by omega
  by_cases h0 : (b.length : Int) = 0
  · refine ⟨0, by omega, Ev.step (fun k => by rw [spec_l20Rd_pick.j0]) ?_⟩
    simp only [h0, beq_self_eq_true, if_true]; exact Ev.now _
  have hl := hb.1
  have n0 : ¬ n = 0 := by omega
  by_cases h1 : p < (b.length : Int)
  · have hr := hb.rd p
    refine ⟨Int.tmod (rd b p) n, ?_, Ev.step (fun k => by rw [spec_l20Rd_pick.j0]) ?_⟩
    · rw [Int.tmod_eq_emod_of_nonneg hr.1]; exact ⟨Int.emod_nonneg _ n0, Int.emod_lt_of_pos _ (by omega)⟩
    · simp only [e1, w64 (x := p) (by omega), beq_eq_false_iff_ne.2 h0, Bool.false_eq_true, if_false, if_pos h1, if_pos hp.1, if_neg n0, w64 (x := rd b p) (by omega)]
      exact Ev.now _
  · have L0 : (0 : Int) < (b.length : Int) := by omega
    have m1 : Int.tmod p (b.length : Int) = p % (b.length : Int) := Int.tmod_eq_emod_of_nonneg hp.1
    have m2 : Int.tmod (p * 7 + 3) (b.length : Int) = (p * 7 + 3) % (b.length : Int) := Int.tmod_eq_emod_of_nonneg (by omega)
    have q1 : Int.tdiv p (b.length : Int) = p / (b.length : Int) := Int.tdiv_eq_ediv_of_nonneg hp.1
    have a1 := Int.emod_nonneg p (show (b.length : Int) ≠ 0 from h0)
    have a2 := Int.emod_lt_of_pos p L0
    have a3 := Int.emod_nonneg (p * 7 + 3) (show (b.length : Int) ≠ 0 from h0)
    have a4 := Int.emod_lt_of_pos (p * 7 + 3) L0
    have a5 : 0 ≤ p / (b.length : Int) := Int.ediv_nonneg hp.1 (by omega)
    have a6 : p / (b.length : Int) ≤ p := Int.ediv_le_self _ hp.1
    have u := hb.rd (p % (b.length : Int))
    have v := hb.rd ((p * 7 + 3) % (b.length : Int))
    generalize hU : rd b (p % (b.length : Int)) = U at *
    generalize hV : rd b ((p * 7 + 3) % (b.length : Int)) = V at *
    generalize hQ : p / (b.length : Int) = Q at *
    generalize hM : p % (b.length : Int) = M at *
    generalize hM2 : (p * 7 + 3) % (b.length : Int) = M2 at *
    generalize hX : U * 131 + V * 1117 + p * 29 + Q * 53 = X at *
    have x0 : 0 ≤ X := by omega
    have x1 : X ≤ 1000000000000 := by omega
    have d1 : Int.tdiv X 64 = X / 64 := Int.tdiv_eq_ediv_of_nonneg x0
    have y := xor_nonneg X (X / 64) x0 (by omega) (by omega) (by omega)
    refine ⟨Int.tmod (Go.bits .xor .i64 X (X / 64)) n, ?_, Ev.step (fun k => by rw [spec_l20Rd_pick.j0]) ?_⟩
    · rw [Int.tmod_eq_emod_of_nonneg y]; exact ⟨Int.emod_nonneg _ n0, Int.emod_lt_of_pos _ (by omega)⟩
    · simp only [e1, w64 (x := p) (by omega), w64 (x := p * 7) (by omega), w64 (x := p * 7 + 3) (by omega), beq_eq_false_iff_ne.2 h0, Bool.false_eq_true, if_false, if_neg h1, if_neg h0, m1, m2, q1, if_pos a1, if_pos a2, if_pos a3, if_pos a4, if_neg n0, hU, hV, w64 (x := U) (by omega), w64 (x := V) (by omega), w64 (x := U * 131) (by omega), w64 (x := V * 1117) (by omega), w64 (x := U * 131 + V * 1117) (by omega), w64 (x := p * 29) (by omega), w64 (x := U * 131 + V * 1117 + p * 29) (by omega), w64 (x := Q) (by omega), w64 (x := Q * 53) (by omega), hX, w64 (x := X) (by omega), d1, w64 (x := X / 64) (by omega)]
      exact Ev.now _

theorem ev_odd {b : List Int} (hb : Bytes b) (p n : Int) (hp : 0 ≤ p ∧ p ≤ 1000000) (hn : 1 ≤ n ∧ n ≤ 1000000) :
    ∃ r, Ev (fun k => spec_l20Rd_odd.f k b p n) (r, p + 1) := by
  obtain ⟨r, hr, e⟩ := ev_pick hb p n hp (by omega)
  unfold spec_l20Rd_odd.f
  have c : n > 0 := by omega
  simp only [gt_iff_lt, if_pos (show 0 < n from c)]
  exact ⟨_, Ev.bind e (Ev.now _)⟩

/-- Numbers that a draw may put into a row. -/
def Drawn (x : List Int) : Prop := x.length ≤ 24 ∧ InB x 2000000000

theorem ev_row_j {b : List Int} (hb : Bytes b) (n : Int) (hn : 1 ≤ n ∧ n ≤ 1000000) (x : List Int) (hx : x.length = 24) (hx2 : InB x 2000000000) (p : Int) (hp : 0 ≤ p ∧ p ≤ 999990) :
    ∃ f q, Drawn f ∧ (p ≤ q ∧ q ≤ p + 10) ∧ Ev (fun k => spec_l20Row.j1 k n x b p) (f, q) := by
  obtain ⟨o, eo⟩ := ev_odd hb p n (by omega) hn
  have go : ∀ f q, Ev (fun k => if o = true then ((spec_l20Rd_pick.f k b (p + 1) 3).bind fun bt205 => (if bt205.1 = 0 then (if 1 ≤ (x.length : Int) then (some ((x.drop (1 : Int).toNat), bt205.2)) else (none)) else (if bt205.1 = 1 then ((spec_l20Rd_pick.f k b bt205.2 24).bind fun bt210 => (if 0 ≤ bt210.1 then (if bt210.1 < (x.length : Int) then (some ((x.set (bt210.1 : Int).toNat 20000), bt210.2)) else (none)) else (none))) else (if 0 < (x.length : Int) then (some ((x.set (0 : Int).toNat 2000000000), bt205.2)) else (none))))) else (some (x, p + 1))) (f, q) →
      Ev (fun k => spec_l20Row.j1 k n x b p) (f, q) := fun f q h => by
    refine Ev.step (fun k => by rw [spec_l20Row.j1]) ?_
    exact Ev.bind eo h
  cases o with
  | false => exact ⟨x, p + 1, ⟨by omega, hx2⟩, by omega, go _ _ (by simp only [Bool.false_eq_true, if_false]; exact Ev.now _)⟩
  | true =>
    obtain ⟨r, hr, er⟩ := ev_pick hb (p + 1) 3 (by omega) (by omega)
    have set_in : ∀ (i : Nat) (v : Int), (0 ≤ v ∧ v ≤ 2000000000) → InB (x.set i v) 2000000000 := fun i v hv y hy => by
      rcases List.mem_or_eq_of_mem_set hy with h | h
      · exact hx2 y h
      · omega
    by_cases r0 : r = 0
    · refine ⟨x.drop (1 : Int).toNat, p + 1 + 1, ⟨by rw [List.length_drop]; omega, fun y hy => hx2 y (List.mem_of_mem_drop hy)⟩, by omega, go _ _ ?_⟩
      simp only [if_true]
      refine Ev.bind er ?_
      have c : 1 ≤ (x.length : Int) := by omega
      simp only [if_pos r0, if_pos c]; exact Ev.now _
    · by_cases r1 : r = 1
      · obtain ⟨s, hs, es⟩ := ev_pick hb (p + 1 + 1) 24 (by omega) (by omega)
        refine ⟨x.set s.toNat 20000, p + 1 + 1 + 1, ⟨by rw [List.length_set]; omega, set_in _ _ (by omega)⟩, by omega, go _ _ ?_⟩
        simp only [if_true]
        refine Ev.bind er ?_
        simp only [if_neg r0, if_pos r1]
        refine Ev.bind es ?_
        have c : s < (x.length : Int) := by omega
        simp only [if_pos hs.1, if_pos c]; exact Ev.now _
      · refine ⟨x.set (0 : Int).toNat 2000000000, p + 1 + 1, ⟨by rw [List.length_set]; omega, set_in _ _ (by omega)⟩, by omega, go _ _ ?_⟩
        simp only [if_true]
        refine Ev.bind er ?_
        have c : 0 < (x.length : Int) := by omega
        simp only [if_neg r0, if_neg r1, if_pos c]; exact Ev.now _
theorem ev_row_l {b : List Int} (hb : Bytes b) (n : Int) (hn : 1 ≤ n ∧ n ≤ 1000000) : ∀ (m i : Nat) (x : List Int) (p : Int), i + m = 24 → x.length = i → InB x 2000000000 → (0 ≤ p ∧ p ≤ 999960 - m) →
    ∃ f q, Drawn f ∧ (p ≤ q ∧ q ≤ p + m + 10) ∧ Ev (fun k => spec_l20Row.l0 k n x (i : Int) b p) (f, q) := by
  intro m
  induction m with
  | zero =>
    intro i x p hi hx hx2 hp
    obtain ⟨f, q, hf, hq, e⟩ := ev_row_j hb n hn x (by omega) hx2 p (by omega)
    refine ⟨f, q, hf, by omega, Ev.step (fun k => by rw [spec_l20Row.l0]) ?_⟩
    have c : ¬ (i : Int) < 24 := by omega
    simp only [if_neg c]; exact e
  | succ m ih =>
    intro i x p hi hx hx2 hp
    obtain ⟨r, hr, er⟩ := ev_pick hb p 7 (by omega) (by omega)
    obtain ⟨f, q, hf, hq, e⟩ := ih (i + 1) (x ++ [r - 3]) (p + 1) (by omega) (by simp [hx]) (fun y hy => by
      rcases List.mem_append.1 hy with h | h
      · exact hx2 y h
      · have := List.mem_singleton.1 h; omega) (by omega)
    refine ⟨f, q, hf, by omega, Ev.step (fun k => by rw [spec_l20Row.l0]) ?_⟩
    have c : (i : Int) < 24 := by omega
    have c2 : x.length < 17592186044416 := by omega
    simp only [if_pos c, if_pos c2, w64 (x := (i : Int) + 1) (by omega)]
    refine Ev.bind er ?_
    simp only [w64 (x := r - 3) (by omega)]
    exact e
theorem ev_row {b : List Int} (hb : Bytes b) (p n : Int) (hp : 0 ≤ p ∧ p ≤ 999900) (hn : 1 ≤ n ∧ n ≤ 1000000) :
    ∃ f q, Drawn f ∧ (p ≤ q ∧ q ≤ p + 40) ∧ Ev (fun k => spec_l20Row.f k b p n) (f, q) := by
  obtain ⟨r1, b1, e1⟩ := ev_pick hb p 8 (by omega) (by omega)
  obtain ⟨i, rfl⟩ := Int.eq_ofNat_of_zero_le b1.1
  have en := ev_sNamedRow i (by omega)
  obtain ⟨r2, b2, e2⟩ := ev_pick hb (p + 1) 3 (by omega) (by omega)
  have li := named_length i
  have bi := named_in i
  by_cases z0 : r2 = 0
  · obtain ⟨f, q, hf, hq, e⟩ := ev_row_l hb n hn 24 0 [] (p + 1 + 1) (by omega) rfl (InB_nil _) (by omega)
    refine ⟨f, q, hf, by omega, ?_⟩
    unfold spec_l20Row.f
    refine Ev.bind e1 (Ev.bind en (Ev.bind e2 ?_))
    simp only [if_pos z0]; exact e
  · by_cases z1 : r2 = 1
    · obtain ⟨r3, b3, e3⟩ := ev_pick hb (p + 1 + 1) 8 (by omega) (by omega)
      obtain ⟨j, rfl⟩ := Int.eq_ofNat_of_zero_le b3.1
      have ej := ev_sNamedRow j (by omega)
      have lj := named_length j
      have bj := named_in j
      have hr : timesR (named i) (named j) = (times (named i) (named j), true) := by
        unfold timesR; rw [if_pos ⟨⟨bi.mono (by omega), li⟩, ⟨bj.mono (by omega), lj⟩⟩]
      have ht : InB (times (named i) (named j)) 2000000000 := by
        rw [InB_iff_At (times_length _ _)]
        intro m m1 m2
        rw [At_times _ _ m ⟨m1, m2⟩]
        have h := isum_bound (l := (divs m).map (term (named i) (named j) m)) (B := 3600) (by omega) (fun x hx => by
          obtain ⟨d, _, rfl⟩ := List.mem_map.1 hx
          have := mul_in (bi.at (by omega) d) (bj.at (by omega) (m / d)) (by omega)
          unfold term; omega)
        rw [List.length_map] at h
        have := length_divs_le m
        unfold conv
        omega
      obtain ⟨f, q, hf, hq, e⟩ := ev_row_j hb n hn (times (named i) (named j)) (times_length _ _) ht (p + 1 + 1 + 1) (by omega)
      refine ⟨f, q, hf, by omega, ?_⟩
      unfold spec_l20Row.f
      refine Ev.bind e1 (Ev.bind en (Ev.bind e2 ?_))
      simp only [if_neg z0, if_pos z1]
      refine Ev.bind e3 (Ev.bind ej (Ev.bind (Ev.to (ev_sTimesOf (named i) (named j) (by omega) (by omega)) hr) ?_))
      exact e
    · obtain ⟨f, q, hf, hq, e⟩ := ev_row_j hb n hn (named i) li (bi.mono (by omega)) (p + 1 + 1) (by omega)
      refine ⟨f, q, hf, by omega, ?_⟩
      unfold spec_l20Row.f
      refine Ev.bind e1 (Ev.bind en (Ev.bind e2 ?_))
      simp only [if_neg z0, if_neg z1]; exact e

/-- The primes up to 24. -/
def prms : List Int := [2, 3, 5, 7, 11, 13, 17, 19, 23]
/-- The places of a number's primes, in ascending order, each as often as it divides the number. -/
def fidx (n : Nat) : List Nat := ([[], [], [0], [1], [0, 0], [2], [0, 1], [3], [0, 0, 0], [1, 1], [0, 2], [4], [0, 0, 1], [5], [0, 3], [1, 2], [0, 0, 0, 0], [6], [0, 1, 1], [7], [0, 0, 2], [1, 3], [0, 4], [8], [0, 0, 0, 1]] : List (List Nat)).getD n []
def pv (v : List Int) (l : List Nat) : Int := l.foldr (fun i x => v.getD i 0 * x) 1
def wch (v : List Int) (l : List Nat) : Int := l.foldl (fun x i => wrap64 (x * v.getD i 0)) 1
theorem getD_in {v : List Int} {B : Int} (h : InB v B) (hB : 0 ≤ B) (i : Nat) : -B ≤ v.getD i 0 ∧ v.getD i 0 ≤ B := by
  rw [List.getD_eq_getElem?_getD]
  by_cases c : i < v.length
  · rw [List.getElem?_eq_getElem c]; exact h _ (List.getElem_mem _)
  · rw [List.getElem?_eq_none (by omega)]; simp; omega
theorem wch_go {v : List Int} (h : InB v 1000) : ∀ (l : List Nat) (a : Nat) (x : Int), a + l.length ≤ 6 → x.natAbs ≤ 1000 ^ a → l.foldl (fun x i => wrap64 (x * v.getD i 0)) x = x * pv v l := by
  intro l
  induction l with
  | nil => intro a x _ _; show x = x * 1; omega
  | cons i t ih =>
    intro a x ha hx
    have b := getD_in h (by omega) i
    have m : (x * v.getD i 0).natAbs ≤ 1000 ^ (a + 1) := by
      rw [Int.natAbs_mul, Nat.pow_succ]
      exact Nat.mul_le_mul hx (by omega)
    have m2 : 1000 ^ (a + 1) ≤ 1000 ^ 6 := Nat.pow_le_pow_right (by omega) (by simp at ha; omega)
    have m3 : (1000 : Nat) ^ 6 = 1000000000000000000 := by decide
    rw [List.foldl_cons, w64 (by omega), ih (a + 1) _ (by simp at ha; omega) m]
    show x * v.getD i 0 * pv v t = x * (v.getD i 0 * pv v t)
    rw [Int.mul_assoc]
theorem wch_pv {v : List Int} (h : InB v 1000) (l : List Nat) (hl : l.length ≤ 5) : wch v l = pv v l := by
  have := wch_go h l 0 1 (by omega) (by decide)
  rw [Int.one_mul] at this
  exact this
theorem pv_in {v : List Int} {B : Nat} (h : InB v B) : ∀ l : List Nat, (pv v l).natAbs ≤ B ^ l.length := by
  intro l
  induction l with
  | nil => exact Nat.le_refl 1
  | cons i t ih =>
    have b := getD_in h (by omega) i
    show (v.getD i 0 * pv v t).natAbs ≤ B ^ (t.length + 1)
    rw [Int.natAbs_mul, Nat.pow_succ, Nat.mul_comm]
    exact Nat.mul_le_mul ih (by omega)
/-- The fully multiplicative row that is at the primes as told. -/
def full (v : List Int) : List Int := (List.range 24).map (fun i => pv v (fidx (i + 1)))
theorem full_length (v : List Int) : (full v).length = 24 := by simp [full]
theorem At_full (v : List Int) (n : Nat) (h : 1 ≤ n ∧ n ≤ 24) : At (full v) n = pv v (fidx n) := by
  unfold full
  conv => lhs; unfold At
  rw [List.getD_eq_getElem?_getD, List.getElem?_map, List.getElem?_range (by omega)]
  simp only [Option.map_some, Option.getD_some]
  rw [show n - 1 + 1 = n by omega]
/-- What FullOf tells. -/
def fullR (v : List Int) : List Int × Bool := if v.length = 9 ∧ InB v 9 then (full v, true) else ([], false)
theorem fullR_length (v : List Int) : (fullR v).1.length ≤ 24 := by
  unfold fullR; split
  · exact Nat.le_of_eq (full_length v)
  · simp
theorem fidx_len : ∀ n, n < 25 → (fidx n).length ≤ 5 := by decide
theorem nine {v : List Int} (h : v.length = 9) : ∃ a b c d e f g i j : Int, v = [a, b, c, d, e, f, g, i, j] := by
  match v, h with
  | [a, b, c, d, e, f, g, i, j], _ => exact ⟨a, b, c, d, e, f, g, i, j, rfl⟩

/-- The powers of one prime up to 24. -/
def pws : List Int := [2, 3, 4, 5, 7, 8, 9, 11, 13, 16, 17, 19, 23]
/-- The places of the powers of primes that divide a number most. -/
def sidx (n : Nat) : List Nat := ([[], [], [0], [1], [2], [3], [0, 1], [4], [5], [6], [0, 3], [7], [1, 2], [8], [0, 4], [1, 3], [9], [10], [0, 6], [11], [2, 3], [1, 4], [0, 7], [12], [1, 5]] : List (List Nat)).getD n []
/-- The multiplicative row that is at the powers of primes as told. -/
def spread (v : List Int) : List Int := (List.range 24).map (fun i => pv v (sidx (i + 1)))
theorem spread_length (v : List Int) : (spread v).length = 24 := by simp [spread]
theorem At_spread (v : List Int) (n : Nat) (h : 1 ≤ n ∧ n ≤ 24) : At (spread v) n = pv v (sidx n) := by
  unfold spread
  conv => lhs; unfold At
  rw [List.getD_eq_getElem?_getD, List.getElem?_map, List.getElem?_range (by omega)]
  simp only [Option.map_some, Option.getD_some]
  rw [show n - 1 + 1 = n by omega]
/-- What SpreadOf tells. -/
def spreadR (v : List Int) : List Int × Bool := if v.length = 13 ∧ InB v 1000 then (spread v, true) else ([], false)
theorem spreadR_length (v : List Int) : (spreadR v).1.length ≤ 24 := by
  unfold spreadR; split
  · exact Nat.le_of_eq (spread_length v)
  · simp
theorem sidx_len : ∀ n, n < 25 → (sidx n).length ≤ 2 := by decide
theorem thirteen {v : List Int} (h : v.length = 13) : ∃ a0 a1 a2 a3 a4 a5 a6 a7 a8 a9 a10 a11 a12 : Int, v = [a0, a1, a2, a3, a4, a5, a6, a7, a8, a9, a10, a11, a12] := by
  match v, h with
  | [a0, a1, a2, a3, a4, a5, a6, a7, a8, a9, a10, a11, a12], _ => exact ⟨a0, a1, a2, a3, a4, a5, a6, a7, a8, a9, a10, a11, a12, rfl⟩

/-- The same places, in the order of the primes. -/
def sidxP (n : Nat) : List Nat := ([[], [], [0], [1], [2], [3], [0, 1], [4], [5], [6], [0, 3], [7], [2, 1], [8], [0, 4], [1, 3], [9], [10], [0, 6], [11], [2, 3], [1, 4], [0, 7], [12], [5, 1]] : List (List Nat)).getD n []
theorem sidxP_or : ∀ n, n < 25 → sidxP n = sidx n ∨ sidxP n = (sidx n).reverse := by decide
theorem pv_rev (v : List Int) (l : List Nat) (h : l.length ≤ 2) : pv v l.reverse = pv v l := by
  match l, h with
  | [], _ => rfl
  | [a], _ => rfl
  | [a, b], _ =>
    show v.getD b 0 * (v.getD a 0 * 1) = v.getD a 0 * (v.getD b 0 * 1)
    rw [Int.mul_one, Int.mul_one, Int.mul_comm]
/-- The row as the reference adds it up. -/
def spreadW (v : List Int) : List Int := (List.range 24).map (fun i => wch v (sidxP (i + 1)))
theorem spreadW_eq {v : List Int} (h : InB v 1000) : spreadW v = spread v := by
  unfold spreadW spread
  refine List.map_congr_left (fun i hi => ?_)
  have := List.mem_range.1 hi
  have l2 := sidx_len (i + 1) (by omega)
  rcases sidxP_or (i + 1) (by omega) with e | e <;> rw [e]
  · exact wch_pv h _ (by omega)
  · rw [wch_pv h _ (by rw [List.length_reverse]; omega), pv_rev v _ l2]
theorem sSpread_walk (a0 a1 a2 a3 a4 a5 a6 a7 a8 a9 a10 a11 a12 : Int) : spec_SpreadOf.l0 1000 [a0, a1, a2, a3, a4, a5, a6, a7, a8, a9, a10, a11, a12] pws [] 1 = spec_SpreadOf.l4 378 [a0, a1, a2, a3, a4, a5, a6, a7, a8, a9, a10, a11, a12] (spreadW [a0, a1, a2, a3, a4, a5, a6, a7, a8, a9, a10, a11, a12]) 0 := by kernel_rfl
theorem sSpread_end (v w : List Int) (hv : v.length = 13) : ∀ (m j k : Nat), j + m = 13 → (∀ i, i < j → -1000 ≤ v.getD i 0 ∧ v.getD i 0 ≤ 1000) → spec_SpreadOf.l4 (k + m + 1) v w (j : Int) = some (if InB v 1000 then (w, true) else ([], false)) := by
  intro m
  induction m with
  | zero =>
    intro j k hj hI
    rw [spec_SpreadOf.l4]
    have c : ¬ (j : Int) < (v.length : Int) := by omega
    have h : InB v 1000 := fun y hy => by
      obtain ⟨i, hi, rfl⟩ := List.mem_iff_getElem.1 hy
      have := hI i (by omega)
      rw [List.getD_eq_getElem?_getD, List.getElem?_eq_getElem hi] at this
      exact this
    rw [if_neg c, if_pos h]
  | succ m ih =>
    intro j k hj hI
    rw [spec_SpreadOf.l4]
    have c : (j : Int) < (v.length : Int) := by omega
    have c1 : 0 ≤ (j : Int) := by omega
    have e : rd v (j : Int) = v.getD j 0 := rfl
    rw [if_pos c, if_pos c1, e, l1In_f, Option.bind_some, w64 (x := (j : Int) + 1) (by omega)]
    by_cases h : -1000 ≤ v.getD j 0 ∧ v.getD j 0 ≤ 1000
    · rw [if_pos (decide_eq_true h)]
      refine ih (j + 1) k (by omega) (fun i hi => ?_)
      by_cases e : i = j
      · subst e; exact h
      · exact hI i (by omega)
    · rw [if_neg (by simpa using h), if_neg (fun x => h (getD_in x (by omega) j))]
theorem ev_spws : Ev (fun k => spec_PrimePowers.f k 24) pws := Ev.of (fun k => spec_PrimePowers.mono _ k) (k := 300) (by decide +kernel)
theorem ev_sSpread (v : List Int) (hl : v.length ≤ 1000000000000000) : Ev (fun k => spec_SpreadOf.f k v) (spreadR v) := by
  unfold spec_SpreadOf.f
  refine Ev.bind ev_spws ?_
  have lp : (pws.length : Int) = 13 := rfl
  by_cases h : v.length = 13
  · have c : (v.length : Int) = 13 := by omega
    simp only [lp, if_pos c]
    have e : spec_SpreadOf.l0 1000 v pws [] 1 = some (spreadR v) := by
      have w : spec_SpreadOf.l0 1000 v pws [] 1 = spec_SpreadOf.l4 378 v (spreadW v) 0 := by
        obtain ⟨a0, a1, a2, a3, a4, a5, a6, a7, a8, a9, a10, a11, a12, rfl⟩ := thirteen h
        exact sSpread_walk a0 a1 a2 a3 a4 a5 a6 a7 a8 a9 a10 a11 a12
      rw [w]
      have z := sSpread_end v (spreadW v) h 13 0 364 (by omega) (fun i hi => by omega)
      refine Eq.trans z ?_
      unfold spreadR
      by_cases g : InB v 1000
      · rw [if_pos g, if_pos ⟨h, g⟩, spreadW_eq g]
      · rw [if_neg g, if_neg (fun x => g x.2)]
    exact Ev.of (fun k => (spec_SpreadOf.mono_l k).1 _ _ _ _) e
  · have c : ¬ (v.length : Int) = 13 := by omega
    simp only [lp, if_neg c]
    exact Ev.ret (by unfold spreadR; rw [if_neg (fun x => h x.1)])

theorem divs_len8 : ∀ n : Nat, n < 25 → (divs n).length ≤ 8 := by decide +kernel
/-- A product of two rows is a row. -/
theorem times_in {f g : List Int} (hf : InB f 10000) (hg : InB g 10000) : InB (times f g) 1000000000 := by
  rw [InB_iff_At (times_length f g)]
  intro n n1 n2
  rw [At_times f g n ⟨n1, n2⟩]
  unfold conv
  have h := isum_bound (l := (divs n).map (term f g n)) (B := 100000000) (by omega) (fun x hx => by
    obtain ⟨d, _, rfl⟩ := List.mem_map.1 hx; exact term_in hf hg n d)
  rw [List.length_map] at h
  have := divs_len8 n (by omega)
  omega
theorem conv_one (f g : List Int) : conv f g 1 = At f 1 * At g 1 := by
  have e : divs 1 = [1] := by decide
  unfold conv
  rw [e]
  simp [term, isum]
theorem At_times_one (f g : List Int) : At (times f g) 1 = At f 1 * At g 1 := by
  rw [At_times f g 1 (by omega), conv_one]
theorem timesR_told {f g : List Int} (h : (timesR f g).2 = true) : ((InB f 10000 ∧ f.length = 24) ∧ (InB g 10000 ∧ g.length = 24)) ∧ (timesR f g).1 = times f g := by
  unfold timesR at *
  by_cases c : (InB f 10000 ∧ f.length = 24) ∧ (InB g 10000 ∧ g.length = 24)
  · rw [if_pos c]; exact ⟨c, rfl⟩
  · rw [if_neg c] at h; cases h
theorem timesR_none {f g : List Int} (h : (timesR f g).2 = false) : timesR f g = ([], false) := by
  unfold timesR at *
  by_cases c : (InB f 10000 ∧ f.length = 24) ∧ (InB g 10000 ∧ g.length = 24)
  · rw [if_pos c] at h; cases h
  · rw [if_neg c]

theorem pv_append (v : List Int) : ∀ a b : List Nat, pv v (a ++ b) = pv v a * pv v b := by
  intro a b
  induction a with
  | nil => show pv v b = 1 * pv v b; omega
  | cons i t ih =>
    show v.getD i 0 * pv v (t ++ b) = v.getD i 0 * pv v t * pv v b
    rw [ih, Int.mul_assoc]
theorem pv_perm (v : List Int) {a b : List Nat} (h : a.Perm b) : pv v a = pv v b := by
  induction h with
  | nil => rfl
  | cons x _ ih => exact congrArg (fun y => v.getD x 0 * y) ih
  | swap x y l =>
    show v.getD y 0 * (v.getD x 0 * pv v l) = v.getD x 0 * (v.getD y 0 * pv v l)
    rw [← Int.mul_assoc, ← Int.mul_assoc, Int.mul_comm (v.getD y 0)]
  | trans _ _ h1 h2 => exact h1.trans h2
theorem fidx_mul : ∀ a, a < 25 → ∀ b, b < 25 → 1 ≤ a → 1 ≤ b → a * b ≤ 24 → (fidx (a * b)).isPerm (fidx a ++ fidx b) = true := by decide +kernel
theorem full_mult (v : List Int) : Mult true (full v) := by
  refine ⟨by rw [At_full v 1 (by omega)]; rfl, fun a b ha hb hab _ => ?_⟩
  have a2 : a ≤ 24 := Nat.le_trans (Nat.le_mul_of_pos_right a hb) hab
  have b2 : b ≤ 24 := Nat.le_trans (Nat.le_mul_of_pos_left b ha) hab
  have c : 1 ≤ a * b := Nat.mul_pos ha hb
  rw [At_full v _ ⟨c, hab⟩, At_full v a ⟨ha, a2⟩, At_full v b ⟨hb, b2⟩, pv_perm v (List.isPerm_iff.1 (fidx_mul a (by omega) b (by omega) ha hb hab)), pv_append]
theorem full_in {v : List Int} (h : InB v 9) : InB (full v) 100000 := by
  rw [InB_iff_At (full_length v)]
  intro n n1 n2
  rw [At_full v n ⟨n1, n2⟩]
  have b := pv_in (B := 9) h (fidx n)
  have b2 := fidx_len n (by omega)
  have b3 : 9 ^ (fidx n).length ≤ 9 ^ 5 := Nat.pow_le_pow_right (by omega) b2
  have b4 : (9 : Nat) ^ 5 = 59049 := by decide
  omega
theorem fullR_told {v : List Int} (h : (fullR v).2 = true) : (v.length = 9 ∧ InB v 9) ∧ (fullR v).1 = full v := by
  unfold fullR at *
  split at h
  · rename_i c; rw [if_pos c]; exact ⟨c, rfl⟩
  · cases h
theorem fullR_none {v : List Int} (h : ¬ (fullR v).2 = true) : (fullR v).1 = [] := by
  unfold fullR at *
  split at h
  · exact absurd rfl h
  · rename_i c; rw [if_neg c]

theorem sidx_mul : ∀ a, a < 25 → ∀ b, b < 25 → (1 ≤ a ∧ 1 ≤ b ∧ a * b ≤ 24 ∧ Nat.gcd a b = 1) → (sidx (a * b)).isPerm (sidx a ++ sidx b) = true := by decide +kernel
theorem spread_mult (v : List Int) : Mult false (spread v) := by
  refine ⟨by rw [At_spread v 1 (by omega)]; rfl, fun a b ha hb hab hg => ?_⟩
  have a2 : a ≤ 24 := Nat.le_trans (Nat.le_mul_of_pos_right a hb) hab
  have b2 : b ≤ 24 := Nat.le_trans (Nat.le_mul_of_pos_left b ha) hab
  have c : 1 ≤ a * b := Nat.mul_pos ha hb
  have g : Nat.gcd a b = 1 := by rcases hg with h | h; · cases h
                                 · exact h
  rw [At_spread v _ ⟨c, hab⟩, At_spread v a ⟨ha, a2⟩, At_spread v b ⟨hb, b2⟩, pv_perm v (List.isPerm_iff.1 (sidx_mul a (by omega) b (by omega) ⟨ha, hb, hab, g⟩)), pv_append]
theorem spread_in {v : List Int} (h : InB v 1000) : InB (spread v) 1000000 := by
  rw [InB_iff_At (spread_length v)]
  intro n n1 n2
  rw [At_spread v n ⟨n1, n2⟩]
  have b := pv_in (B := 1000) h (sidx n)
  have b2 := sidx_len n (by omega)
  have b3 : 1000 ^ (sidx n).length ≤ 1000 ^ 2 := Nat.pow_le_pow_right (by omega) b2
  have b4 : (1000 : Nat) ^ 2 = 1000000 := by decide
  omega
theorem spreadR_told {v : List Int} (h : (spreadR v).2 = true) : (v.length = 13 ∧ InB v 1000) ∧ (spreadR v).1 = spread v := by
  unfold spreadR at *
  split at h
  · rename_i c; rw [if_pos c]; exact ⟨c, rfl⟩
  · cases h
theorem spreadR_none {v : List Int} (h : ¬ (spreadR v).2 = true) : (spreadR v).1 = [] := by
  unfold spreadR at *
  split at h
  · exact absurd rfl h
  · rename_i c; rw [if_neg c]

theorem prime_f : ∀ n : Nat, n < 25 → 2 ≤ n → spec_PrimeOk.f 100 (n : Int) = some (decide ((n : Int) ∈ prms)) := by decide +kernel
theorem prms_step : ∀ n : Nat, n < 25 → 2 ≤ n → prms.filter (fun p => decide (p < ((n + 1 : Nat) : Int))) = prms.filter (fun p => decide (p < (n : Int))) ++ (if decide ((n : Int) ∈ prms) = true then [(n : Int)] else []) := by decide +kernel
/-- The place of a number's least prime. -/
def lidx (n : Nat) : Nat := (fidx n).headD 0
theorem fact_f : ∀ n : Nat, n < 25 → 2 ≤ n → (spec_FactorsOf.f 100 (n : Int)).map (fun t => (decide (0 < (t.length : Int)), decide (0 < ((rd_L1 t 0).length : Int)), rd (rd_L1 t 0) 0)) = some (true, true, prms.getD (lidx n) 0) := by decide +kernel
theorem fidx_step : ∀ n : Nat, n < 25 → 2 ≤ n → fidx n = lidx n :: fidx (n / (prms.getD (lidx n) 0).toNat) ∧ 1 ≤ n / (prms.getD (lidx n) 0).toNat ∧ n / (prms.getD (lidx n) 0).toNat < n ∧ lidx n < 9 := by decide +kernel
theorem prms_pos : ∀ i : Nat, i < 9 → 2 ≤ prms.getD i 0 ∧ (prms.getD i 0).toNat < 25 := by decide
theorem prms_inj : ∀ i j : Nat, i < 9 → j < 9 → prms.getD i 0 = prms.getD j 0 → i = j := by
  have : ∀ i, i < 9 → ∀ j, j < 9 → prms.getD i 0 = prms.getD j 0 → i = j := by decide
  exact fun i j hi hj h => this i hi j hj h
theorem ev_sFull_l2 (v : List Int) (hl : v.length = 9) (n : Nat) (hn : 2 ≤ n ∧ n ≤ 24) (out : List Int) (lo : out.length = n - 1) (ho : ∀ j, 1 ≤ j → j < n → InB v 9 → At out j = pv v (fidx j)) (hb : ∀ j, -100000 ≤ At out j ∧ At out j ≤ 100000)
    (hN : InB v 9 → ∀ x, x = prms.getD (lidx n) 0 → Ev (fun k => spec_FullOf.l1 k v prms (out ++ [v.getD (lidx n) 0 * At out (n / x.toNat)]) ((n + 1 : Nat) : Int)) (fullR v)) :
    ∀ (m j : Nat) (o : List Int), j + m = 9 → (∀ i, i < j → -9 ≤ v.getD i 0 ∧ v.getD i 0 ≤ 9) → o = (if lidx n < j then out ++ [v.getD (lidx n) 0 * At out (n / (prms.getD (lidx n) 0).toNat)] else out) →
    Ev (fun k => spec_FullOf.l2 k v prms o (n : Int) (prms.getD (lidx n) 0) (j : Int)) (fullR v) := by
  have st := fidx_step n (by omega) hn.1
  have pp := prms_pos (lidx n) st.2.2.2
  have lp : (prms.length : Int) = 9 := rfl
  intro m
  induction m with
  | zero =>
    intro j o hj hI eo
    refine Ev.step (fun k => by rw [spec_FullOf.l2]) ?_
    have c : ¬ (j : Int) < 9 := by omega
    have hv : InB v 9 := fun y hy => by
      obtain ⟨i, hi, rfl⟩ := List.mem_iff_getElem.1 hy
      have := hI i (by omega)
      rw [List.getD_eq_getElem?_getD, List.getElem?_eq_getElem hi] at this
      exact this
    rw [if_pos (by omega)] at eo
    subst eo
    simp only [lp, if_neg c, w64 (x := (n : Int) + 1) (by omega)]
    exact hN hv _ rfl
  | succ m ih =>
    intro j o hj hI eo
    refine Ev.step (fun k => by rw [spec_FullOf.l2]) ?_
    have c : (j : Int) < 9 := by omega
    have c1 : 0 ≤ (j : Int) := by omega
    have c2 : (j : Int) < (v.length : Int) := by omega
    have ev : rd v (j : Int) = v.getD j 0 := rfl
    have ep : rd prms (j : Int) = prms.getD j 0 := rfl
    simp only [lp, if_pos c, if_pos c1, if_pos c2, ev, ep, l1In_f, Option.bind_some, w64 (x := (j : Int) + 1) (by omega)]
    by_cases h : -9 ≤ v.getD j 0 ∧ v.getD j 0 ≤ 9
    · simp only [decide_eq_true h, if_true]
      have hI' : ∀ i, i < j + 1 → -9 ≤ v.getD i 0 ∧ v.getD i 0 ≤ 9 := fun i hi => by
        by_cases e : i = j
        · subst e; exact h
        · exact hI i (by omega)
      by_cases e : j = lidx n
      · have ej : prms.getD j 0 = prms.getD (lidx n) 0 := by rw [e]
        rw [if_neg (by omega)] at eo
        subst eo
        have q2 := st.2.2.1
        have q1 := st.2.1
        obtain ⟨p, hp⟩ : ∃ p : Nat, prms.getD (lidx n) 0 = (p : Int) := ⟨(prms.getD (lidx n) 0).toNat, by omega⟩
        have bv := hb (n / p)
        rw [hp] at ej ih q1 q2 pp ⊢
        rw [Int.toNat_natCast] at ih q1 q2 pp
        have z : ¬ ((p : Nat) : Int) = 0 := by omega
        have q0 : (0 : Int) ≤ ((n / p : Nat) : Int) := Int.natCast_nonneg _
        have lo2 : o.length < 17592186044416 := by omega
        generalize hq : n / p = q at *
        have c3 : 0 ≤ (q : Int) - 1 := by omega
        have c4 : (q : Int) - 1 < (o.length : Int) := by omega
        have tb := mul_in (B := 100000) (x := v.getD j 0) (y := At o q) (by omega) bv (by omega)
        simp only [ej, if_true, if_neg z, ← Int.ofNat_tdiv, hq, w64 (x := (q : Int)) (by omega), w64 (x := (q : Int) - 1) (by omega), if_pos c3, if_pos c4, if_pos lo2, rd_at o q q1, w64 (x := v.getD j 0 * At o q) (by omega)]
        refine ih (j + 1) _ (by omega) hI' ?_
        rw [if_pos (by omega), ← e]
      · have ne : ¬ prms.getD j 0 = prms.getD (lidx n) 0 := fun x => e (prms_inj j (lidx n) (by omega) st.2.2.2 x)
        simp only [if_neg ne]
        refine ih (j + 1) o (by omega) hI' ?_
        rw [eo]
        by_cases l : lidx n < j
        · rw [if_pos l, if_pos (by omega)]
        · rw [if_neg l, if_neg (by omega)]
    · simp only [decide_eq_false h, Bool.false_eq_true, if_false]
      refine Ev.ret ?_
      unfold fullR
      rw [if_neg]
      rintro ⟨_, hv⟩
      exact h (getD_in hv (by omega) j)
theorem ev_sFull_l1 (v : List Int) (hl : v.length = 9) : ∀ (m n : Nat) (out : List Int), n + m = 25 → 2 ≤ n → out.length = n - 1 → (∀ j, 1 ≤ j → j < n → InB v 9 → At out j = pv v (fidx j)) → (∀ j, -100000 ≤ At out j ∧ At out j ≤ 100000) → (2 < n → InB v 9) →
    Ev (fun k => spec_FullOf.l1 k v prms out (n : Int)) (fullR v) := by
  intro m
  induction m with
  | zero =>
    intro n out hn h2 lo ho hb hv
    refine Ev.step (fun k => by rw [spec_FullOf.l1]) ?_
    have c : ¬ (n : Int) ≤ 24 := by omega
    simp only [if_neg c]
    refine Ev.ret ?_
    have hv' := hv (by omega)
    unfold fullR
    rw [if_pos ⟨hl, hv'⟩]
    have e : out = full v := ext_At (by omega) (full_length v) (fun j j1 j2 => by rw [ho j j1 (by omega) hv', At_full v j ⟨j1, j2⟩])
    rw [e]
  | succ m ih =>
    intro n out hn h2 lo ho hb hv
    refine Ev.step (fun k => by rw [spec_FullOf.l1]) ?_
    have c : (n : Int) ≤ 24 := by omega
    have st := fidx_step n (by omega) h2
    simp only [if_pos c]
    have f := fact_f n (by omega) h2
    rw [Option.map_eq_some_iff] at f
    obtain ⟨t, ft, et⟩ := f
    simp only [Prod.mk.injEq, decide_eq_true_eq] at et
    refine Ev.bind (Ev.of (fun k => spec_FactorsOf.mono _ k) ft) ?_
    simp only [if_pos et.1, if_pos et.2.1, et.2.2]
    refine ev_sFull_l2 v hl n ⟨h2, by omega⟩ out lo ho hb (fun hv' x hx => ?_) 9 0 out (by omega) (fun i hi => by omega) (by rw [if_neg (by omega)])
    subst hx
    have at1 : ∀ j, 1 ≤ j → j < n → At (out ++ [v.getD (lidx n) 0 * At out (n / (prms.getD (lidx n) 0).toNat)]) j = At out j := fun j j1 j2 => by
      unfold At
      rw [List.getD_eq_getElem?_getD, List.getElem?_append_left (by omega), List.getD_eq_getElem?_getD]
    have at2 : At (out ++ [v.getD (lidx n) 0 * At out (n / (prms.getD (lidx n) 0).toNat)]) n = v.getD (lidx n) 0 * At out (n / (prms.getD (lidx n) 0).toNat) := by
      conv => lhs; unfold At
      rw [List.getD_eq_getElem?_getD, List.getElem?_append_right (by omega), lo, Nat.sub_self]
      rfl
    have atn : At (out ++ [v.getD (lidx n) 0 * At out (n / (prms.getD (lidx n) 0).toNat)]) n = pv v (fidx n) := by
      rw [at2, ho _ st.2.1 st.2.2.1 hv', st.1]
      rfl
    refine ih (n + 1) _ (by omega) (by omega) (by rw [List.length_append, lo, List.length_singleton]; omega) (fun j j1 j2 _ => ?_) (fun j => ?_) (fun _ => hv')
    · by_cases e : j = n
      · subst e; exact atn
      · rw [at1 j j1 (by omega)]; exact ho j j1 (by omega) hv'
    · by_cases j1 : 1 ≤ j ∧ j < n
      · rw [at1 j j1.1 j1.2]; exact hb j
      · by_cases e : j = n
        · subst e
          rw [atn]
          have b := pv_in (B := 9) hv' (fidx j)
          have b2 := fidx_len j (by omega)
          have b3 : 9 ^ (fidx j).length ≤ 9 ^ 5 := Nat.pow_le_pow_right (by omega) b2
          have b4 : (9 : Nat) ^ 5 = 59049 := by decide
          omega
        · by_cases j0 : j = 0
          · subst j0
            have e0 : ∀ l : List Int, At l 0 = At l 1 := fun l => rfl
            rw [e0, at1 1 (by omega) (by omega)]; exact hb 1
          · unfold At
            rw [List.getD_eq_getElem?_getD, List.getElem?_eq_none (by rw [List.length_append, List.length_singleton]; omega)]
            simp
theorem ev_sFull_l0 (v : List Int) (hv : v.length ≤ 1000000000000000) : ∀ (m n : Nat), n + m = 25 → 2 ≤ n → Ev (fun k => spec_FullOf.l0 k v (prms.filter (fun p => decide (p < (n : Int)))) (n : Int)) (fullR v) := by
  intro m
  induction m with
  | zero =>
    intro n hn h2
    refine Ev.step (fun k => by rw [spec_FullOf.l0]) ?_
    have c : ¬ (n : Int) ≤ 24 := by omega
    have e : n = 25 := by omega
    subst e
    have ep : prms.filter (fun p => decide (p < ((25 : Nat) : Int))) = prms := by decide
    have lp : (prms.length : Int) = 9 := rfl
    simp only [if_neg c, ep, lp]
    by_cases h : (v.length : Int) = 9
    · simp only [if_pos h]
      refine ev_sFull_l1 v (by omega) 23 2 [1] (by omega) (by omega) (by simp) (fun j j1 j2 _ => ?_) (fun j => ?_) (fun x => by omega)
      · have : j = 1 := by omega
        subst this; rfl
      · unfold At
        by_cases e : j - 1 = 0
        · rw [e]; decide
        · rw [List.getD_eq_getElem?_getD, List.getElem?_eq_none (by simp; omega)]; simp
    · simp only [if_neg h]
      exact Ev.ret (by unfold fullR; rw [if_neg (fun x => by omega)])
  | succ m ih =>
    intro n hn h2
    refine Ev.step (fun k => by rw [spec_FullOf.l0]) ?_
    have c : (n : Int) ≤ 24 := by omega
    simp only [if_pos c, w64 (x := (n : Int) + 1) (by omega)]
    refine Ev.bind (Ev.of (fun k => spec_PrimeOk.mono _ k) (prime_f n (by omega) h2)) ?_
    have s := prms_step n (by omega) h2
    have i := ih (n + 1) (by omega) (by omega)
    rw [s] at i
    by_cases p : decide ((n : Int) ∈ prms) = true
    · have l : (prms.filter (fun p => decide (p < (n : Int)))).length < 17592186044416 := Nat.lt_of_le_of_lt (List.length_filter_le _ _) (by decide)
      rw [if_pos p] at i
      simp only [if_pos p, if_pos l]
      exact i
    · rw [if_neg p, List.append_nil] at i
      simp only [if_neg p]
      exact i
theorem ev_sFull (v : List Int) (hv : v.length ≤ 1000000000000000) : Ev (fun k => spec_FullOf.f k v) (fullR v) := by
  unfold spec_FullOf.f
  exact ev_sFull_l0 v hv 23 2 (by omega) (by omega)

theorem ev_mult_j2 {b : List Int} (hb : Bytes b) (n : Int) (hn : 1 ≤ n ∧ n ≤ 1000000) (x : List Int) (hx : x.length = 24) (hx2 : InB x 2000000000) (p : Int) (hp : 0 ≤ p ∧ p ≤ 999990) :
    ∃ f q, Drawn f ∧ (p ≤ q ∧ q ≤ p + 10) ∧ Ev (fun k => spec_l20Mult.j2 k n x b p) (f, q) := by
  obtain ⟨o, eo⟩ := ev_odd hb p n (by omega) hn
  obtain ⟨r, hr, er⟩ := ev_pick hb (p + 1) 24 (by omega) (by omega)
  cases o with
  | true =>
    refine ⟨x.set r.toNat 7, p + 1 + 1, ⟨by rw [List.length_set]; omega, fun y hy => ?_⟩, by omega, Ev.step (fun k => by rw [spec_l20Mult.j2]) ?_⟩
    · rcases List.mem_or_eq_of_mem_set hy with h | h
      · exact hx2 y h
      · omega
    · refine Ev.bind eo ?_
      simp only [if_true]
      refine Ev.bind er ?_
      have c : r < (x.length : Int) := by omega
      simp only [if_pos hr.1, if_pos c]; exact Ev.now _
  | false =>
    refine ⟨x, p + 1, ⟨by omega, hx2⟩, by omega, Ev.step (fun k => by rw [spec_l20Mult.j2]) ?_⟩
    refine Ev.bind eo ?_
    simp only [Bool.false_eq_true, if_false]; exact Ev.now _
theorem ev_mult_l1 {b : List Int} (hb : Bytes b) (n : Int) (hn : 1 ≤ n ∧ n ≤ 1000000) (x : List Int) (hx : x.length = 24) (hx2 : InB x 2000000000) : ∀ (m i : Nat) (y : List Int) (p : Int), i + m = 9 → y.length = i → InB y 9 → (0 ≤ p ∧ p ≤ 999900 - m) →
    ∃ f q, Drawn f ∧ (p ≤ q ∧ q ≤ p + m + 10) ∧ Ev (fun k => spec_l20Mult.l1 k n x y (i : Int) b p) (f, q) := by
  intro m
  induction m with
  | zero =>
    intro i y p hi hy hy2 hp
    have c : ¬ (i : Int) < 9 := by omega
    have e : fullR y = (full y, true) := by unfold fullR; rw [if_pos ⟨by omega, hy2⟩]
    obtain ⟨f, q, hf, hq, ef⟩ := ev_mult_j2 hb n hn (full y) (full_length y) ((full_in hy2).mono (by omega)) p (by omega)
    refine ⟨f, q, hf, by omega, Ev.step (fun k => by rw [spec_l20Mult.l1]) ?_⟩
    simp only [if_neg c]
    refine Ev.bind (Ev.to (ev_sFull y (by omega)) e) ?_
    simp only [if_true]
    exact ef
  | succ m ih =>
    intro i y p hi hy hy2 hp
    have c : (i : Int) < 9 := by omega
    have l : y.length < 17592186044416 := by omega
    obtain ⟨r, hr, er⟩ := ev_pick hb p 5 (by omega) (by omega)
    obtain ⟨f, q, hf, hq, ef⟩ := ih (i + 1) (y ++ [wrap64 (r - 2)]) (p + 1) (by omega) (by rw [List.length_append, List.length_singleton, hy]) (fun z hz => by
      rcases List.mem_append.1 hz with h | h
      · exact hy2 z h
      · rw [List.mem_singleton, w64 (by omega)] at h; omega) (by omega)
    refine ⟨f, q, hf, by omega, Ev.step (fun k => by rw [spec_l20Mult.l1]) ?_⟩
    simp only [if_pos c, w64 (x := (i : Int) + 1) (by omega)]
    refine Ev.bind er ?_
    simp only [if_pos l]
    exact ef
theorem ev_mult_l0 {b : List Int} (hb : Bytes b) (n : Int) (hn : 1 ≤ n ∧ n ≤ 1000000) : ∀ (m i : Nat) (y : List Int) (p : Int), i + m = 13 → y.length = i → InB y 1000 → (0 ≤ p ∧ p ≤ 999800 - m) →
    ∃ f q, Drawn f ∧ (p ≤ q ∧ q ≤ p + m + 30) ∧ Ev (fun k => spec_l20Mult.l0 k n y (i : Int) b p) (f, q) := by
  intro m
  have lp : (pws.length : Int) = 13 := rfl
  induction m with
  | zero =>
    intro i y p hi hy hy2 hp
    have c : ¬ (i : Int) < 13 := by omega
    have e : spreadR y = (spread y, true) := by unfold spreadR; rw [if_pos ⟨by omega, hy2⟩]
    obtain ⟨r, hr, er⟩ := ev_pick hb p 4 (by omega) (by omega)
    have go : ∀ f q, Ev (fun k => if r = 0 then ((spec_l20Rd_pick.f k b (p + 1) 8).bind fun bt328 => ((spec_NamedRow.f k bt328.1).bind fun t330 => (some (t330, bt328.2)))) else (if r = 1 then (spec_l20Mult.l1 k n (spread y) (([] : List Int)) 0 b (p + 1)) else (spec_l20Mult.j2 k n (spread y) b (p + 1)))) (f, q) → Ev (fun k => spec_l20Mult.l0 k n y (i : Int) b p) (f, q) := fun f q h => by
      refine Ev.step (fun k => by rw [spec_l20Mult.l0]) ?_
      refine Ev.bind ev_spws ?_
      simp only [lp, if_neg c]
      exact Ev.bind (Ev.to (ev_sSpread y (by omega)) e) (Ev.bind er h)
    by_cases r0 : r = 0
    · obtain ⟨s, hs, es⟩ := ev_pick hb (p + 1) 8 (by omega) (by omega)
      obtain ⟨j, rfl⟩ := Int.eq_ofNat_of_zero_le hs.1
      refine ⟨named j, p + 1 + 1, ⟨Nat.le_of_eq (named_length j), (named_in j).mono (by omega)⟩, by omega, go _ _ ?_⟩
      simp only [if_pos r0]
      exact Ev.bind es (Ev.bind (ev_sNamedRow j (by omega)) (Ev.now _))
    · by_cases r1 : r = 1
      · obtain ⟨f, q, hf, hq, ef⟩ := ev_mult_l1 hb n hn (spread y) (spread_length y) ((spread_in hy2).mono (by omega)) 9 0 [] (p + 1) (by omega) rfl (InB_nil 9) (by omega)
        refine ⟨f, q, hf, by omega, go _ _ ?_⟩
        simp only [if_neg r0, if_pos r1]
        exact ef
      · obtain ⟨f, q, hf, hq, ef⟩ := ev_mult_j2 hb n hn (spread y) (spread_length y) ((spread_in hy2).mono (by omega)) (p + 1) (by omega)
        refine ⟨f, q, hf, by omega, go _ _ ?_⟩
        simp only [if_neg r0, if_neg r1]
        exact ef
  | succ m ih =>
    intro i y p hi hy hy2 hp
    have c : (i : Int) < 13 := by omega
    have l : y.length < 17592186044416 := by omega
    obtain ⟨r, hr, er⟩ := ev_pick hb p 7 (by omega) (by omega)
    obtain ⟨f, q, hf, hq, ef⟩ := ih (i + 1) (y ++ [wrap64 (r - 3)]) (p + 1) (by omega) (by rw [List.length_append, List.length_singleton, hy]) (fun z hz => by
      rcases List.mem_append.1 hz with h | h
      · exact hy2 z h
      · rw [List.mem_singleton, w64 (by omega)] at h; omega) (by omega)
    refine ⟨f, q, hf, by omega, Ev.step (fun k => by rw [spec_l20Mult.l0]) ?_⟩
    refine Ev.bind ev_spws ?_
    simp only [lp, if_pos c, w64 (x := (i : Int) + 1) (by omega)]
    refine Ev.bind er ?_
    simp only [if_pos l]
    exact ef
theorem ev_mult {b : List Int} (hb : Bytes b) (p n : Int) (hp : 0 ≤ p ∧ p ≤ 999000) (hn : 1 ≤ n ∧ n ≤ 1000000) :
    ∃ f q, Drawn f ∧ (p ≤ q ∧ q ≤ p + 43) ∧ Ev (fun k => spec_l20Mult.f k b p n) (f, q) := by
  unfold spec_l20Mult.f
  obtain ⟨f, q, hf, hq, ef⟩ := ev_mult_l0 hb n hn 13 0 [] p (by omega) rfl (InB_nil 1000) (by omega)
  exact ⟨f, q, hf, by omega, ef⟩

theorem ev_within_l (f : List Int) (m : Int) (hm : 0 ≤ m ∧ m ≤ 1000000000000) (hf : f.length ≤ 1000000000000000) : ∀ (d i : Nat), i + d = f.length →
    Ev (fun k => impl_within.l0 k f m f (f.length : Int) (i : Int)) (decide (InB (f.drop i) m ∧ f.length = 24)) := by
  intro d
  induction d with
  | zero =>
    intro i hi
    refine Ev.step (fun k => by rw [impl_within.l0]) ?_
    have h1 : ¬ (i : Int) < (f.length : Int) := by omega
    simp only [if_neg h1]
    refine Ev.ret ?_
    rw [List.drop_eq_nil_of_le (by omega), Bool.eq_iff_iff]; simp [InB_nil]; omega
  | succ d ih =>
    intro i hi
    refine Ev.step (fun k => by rw [impl_within.l0]) ?_
    have h1 : (i : Int) < (f.length : Int) := by omega
    have h2 : (0 : Int) ≤ (i : Int) := by omega
    simp only [if_pos h1, if_pos h2, rd_nat, w64 (x := -m) (by omega)]
    have e := drop_step f i (by omega)
    by_cases a : f.getD i 0 < -m
    · simp only [if_pos a]
      refine Ev.ret ?_
      symm; rw [decide_eq_false_iff_not, e, InB_cons]; omega
    · by_cases b : f.getD i 0 > m
      · simp only [if_neg a, gt_iff_lt, if_pos (show m < f.getD i 0 from b)]
        refine Ev.ret ?_
        symm; rw [decide_eq_false_iff_not, e, InB_cons]; omega
      · simp only [if_neg a, if_neg b, w64 (x := (i : Int) + 1) (by omega)]
        refine Ev.to (ih (i + 1) (by omega)) ?_
        rw [Bool.eq_iff_iff]; simp only [decide_eq_true_eq]; rw [e, InB_cons]
        constructor
        · rintro ⟨h, g⟩; exact ⟨⟨by omega, h⟩, g⟩
        · rintro ⟨⟨_, h⟩, g⟩; exact ⟨h, g⟩
theorem ev_within (f : List Int) (m : Int) (hm : 0 ≤ m ∧ m ≤ 1000000000000) (hf : f.length ≤ 1000000000000000) :
    Ev (fun k => impl_within.f k f m) (decide (InB f m ∧ f.length = 24)) := by
  unfold impl_within.f
  exact ev_within_l f m hm hf f.length 0 (by omega)

theorem ev_RowOk (f : List Int) (hf : f.length ≤ 1000000000000000) : Ev (fun k => impl_RowOk.f k f) (decide (InB f 1000000000 ∧ f.length = 24)) := by
  unfold impl_RowOk.f
  exact Ev.bind (ev_within f 1000000000 (by omega) hf) (Ev.now _)

/-- Natural numbers as the program's numbers. -/
def ints (l : List Nat) : List Int := l.map (fun x : Nat => (x : Int))
theorem ints_length (l : List Nat) : (ints l).length = l.length := by simp [ints]
theorem ints_append (l m : List Nat) : ints (l ++ m) = ints l ++ ints m := by simp [ints]
theorem ints_reverse (l : List Nat) : (ints l).reverse = ints l.reverse := by simp [ints]

/-- Factors as the program tells them: rows of two numbers. -/
def rowsF (L : List (Nat × Nat)) : List (List Int) := L.map (fun x : Nat × Nat => [(x.1 : Int), (x.2 : Int)])
theorem rowsF_length (L : List (Nat × Nat)) : (rowsF L).length = L.length := by simp [rowsF]

theorem ev_fac_l1 (out : List (List Int)) (hout : out.length ≤ 1000000) (p : Nat) (hp : 2 ≤ p ∧ p ≤ 10000) (r : List (List Int)) (t m : Nat) (hm : m % p ≠ 0) (h1 : 1 ≤ m ∧ m ≤ 10000)
    (hN : Ev (fun k => impl_factors.l0 k (m : Int) (if t = 0 then out else out ++ [[(p : Int), (t : Int)]]) ((p + 1 : Nat) : Int)) r) :
    ∀ (j c : Nat), c + j = t → p ^ j * m ≤ 10000 → t ≤ 10000 →
    Ev (fun k => impl_factors.l1 k ((p ^ j * m : Nat) : Int) out (p : Int) (c : Int)) r := by
  intro j
  induction j with
  | zero =>
    intro c hc hb ht
    refine Ev.step (fun k => by rw [impl_factors.l1]) ?_
    have c0 : ¬ (p : Int) = 0 := by omega
    have c1 : ¬ ((m % p : Nat) : Int) = 0 := by omega
    simp only [Nat.pow_zero, Nat.one_mul, if_neg c0, ← Int.ofNat_tmod, if_neg c1, w64 (x := (p : Int) + 1) (by omega)]
    have e : c = t := by omega
    subst e
    by_cases z : c = 0
    · have c2 : ¬ (c : Int) > 0 := by omega
      rw [if_pos z] at hN
      simp only [if_neg c2]; exact hN
    · have c2 : (0 : Int) < (c : Int) := by omega
      have c3 : out.length < 5864062014805 := by omega
      rw [if_neg z] at hN
      simp only [gt_iff_lt, if_pos c2, if_pos c3]; exact hN
  | succ j ih =>
    intro c hc hb ht
    refine Ev.step (fun k => by rw [impl_factors.l1]) ?_
    have e : p ^ (j + 1) * m = p * (p ^ j * m) := by rw [Nat.pow_succ, Nat.mul_comm (p ^ j) p, Nat.mul_assoc]
    have c0 : ¬ (p : Int) = 0 := by omega
    have c1 : ((p ^ (j + 1) * m % p : Nat) : Int) = 0 := by rw [e, Nat.mul_mod_right]; rfl
    have c2 : p ^ (j + 1) * m / p = p ^ j * m := by rw [e, Nat.mul_div_cancel_left _ (by omega)]
    have b2 : 1 * (p ^ j * m) ≤ p * (p ^ j * m) := Nat.mul_le_mul_right _ (by omega)
    simp only [if_neg c0, ← Int.ofNat_tmod, ← Int.ofNat_tdiv, if_pos c1, c2, w64 (x := ((p ^ j * m : Nat) : Int)) (by omega), w64 (x := (c : Int) + 1) (by omega)]
    exact ih (c + 1) (by omega) (by omega) ht
theorem ev_fac_one (out : List (List Int)) (p : Int) : Ev (fun k => impl_factors.l0 k 1 out p) out := by
  refine Ev.step (fun k => by rw [impl_factors.l0]) ?_
  have c : ¬ (1 : Int) > 1 := by omega
  simp only [if_neg c]
  exact Ev.now _
theorem ev_fac_l0 : ∀ (d p n : Nat) (out : List (List Int)), p + d = 102 → 2 ≤ p → 1 ≤ n → n ≤ 10000 → out.length ≤ p → NoLow p n →
    Ev (fun k => impl_factors.l0 k (n : Int) out (p : Int)) (out ++ rowsF (fac p n)) := by
  intro d
  induction d with
  | zero =>
    intro p n out hd hp h1 hn ho hl
    by_cases c : n = 1
    · subst c; rw [fac_lt (by omega)]; simpa [rowsF] using ev_fac_one out (p : Int)
    refine Ev.step (fun k => by rw [impl_factors.l0]) ?_
    have c1 : (1 : Int) < (n : Int) := by omega
    have e : p = 102 := by omega
    subst e
    have c2 : (n : Int) < ((102 : Nat) : Int) * ((102 : Nat) : Int) := by omega
    have hpr : Pr n := pr_of_root (d := 102) (by omega) (by omega) hl
    have hf : fac 102 n = [(n, 1)] := by
      rw [← fac_skip h1 hl (by omega), fac_skip h1 (p := n) ?_ (by omega)]
      · have := fac_yes (p := n) (j := 1) (m := 1) (by omega) (by omega) (by rw [Nat.mod_eq_of_lt (by omega)]; omega) (by omega)
        rw [Nat.pow_one, Nat.mul_one] at this
        rw [this, fac_lt (by omega)]
      · intro x h2 hx e
        rcases hpr.2 x (Nat.dvd_of_mod_eq_zero e) with h | h <;> omega
    simp only [gt_iff_lt, if_pos c1, w64 (x := ((102 : Nat) : Int) * ((102 : Nat) : Int)) (by omega), if_pos c2]
    refine Ev.step (fun k => by rw [impl_factors.j1]) ?_
    rw [hf]
    have := ev_fac_l1 out (by omega) n ⟨by omega, hn⟩ (out ++ rowsF [(n, 1)]) 1 1 (by rw [Nat.mod_eq_of_lt (by omega)]; omega) (by omega) (by simpa [rowsF] using ev_fac_one (out ++ [[(n : Int), 1]]) ((n : Int) + 1)) 1 0 (by omega) (by rw [Nat.pow_one]; omega) (by omega)
    rw [Nat.pow_one, Nat.mul_one] at this
    exact this
  | succ d ih =>
    intro p n out hd hp h1 hn ho hl
    by_cases c : n = 1
    · subst c; rw [fac_lt (by omega)]; simpa [rowsF] using ev_fac_one out (p : Int)
    refine Ev.step (fun k => by rw [impl_factors.l0]) ?_
    have c1 : (1 : Int) < (n : Int) := by omega
    have pp : p * p ≤ 101 * 101 := Nat.mul_le_mul (by omega) (by omega)
    have ep : (p : Int) * (p : Int) = ((p * p : Nat) : Int) := by simp
    simp only [gt_iff_lt, if_pos c1, ep, w64 (x := ((p * p : Nat) : Int)) (by omega)]
    by_cases hpp : n < p * p
    · have c2 : (n : Int) < ((p * p : Nat) : Int) := by omega
      have hpr : Pr n := pr_of_root (d := p) (by omega) hpp hl
      have hln : NoLow n n := fun x h2 hx e => by
        rcases hpr.2 x (Nat.dvd_of_mod_eq_zero e) with h | h <;> omega
      have hf : fac p n = [(n, 1)] := by
        rw [← fac_skip h1 hl hp, fac_skip h1 (p := n) hln (by omega)]
        have := fac_yes (p := n) (j := 1) (m := 1) (by omega) (by omega) (by rw [Nat.mod_eq_of_lt (by omega)]; omega) (by omega)
        rw [Nat.pow_one, Nat.mul_one] at this
        rw [this, fac_lt (by omega)]
      simp only [if_pos c2]
      refine Ev.step (fun k => by rw [impl_factors.j1]) ?_
      rw [hf]
      have := ev_fac_l1 out (by omega) n ⟨by omega, hn⟩ (out ++ rowsF [(n, 1)]) 1 1 (by rw [Nat.mod_eq_of_lt (by omega)]; omega) (by omega) (by simpa [rowsF] using ev_fac_one (out ++ [[(n : Int), 1]]) ((n : Int) + 1)) 1 0 (by omega) (by rw [Nat.pow_one]; omega) (by omega)
      rw [Nat.pow_one, Nat.mul_one] at this
      exact this
    · have c2 : ¬ (n : Int) < ((p * p : Nat) : Int) := by omega
      simp only [if_neg c2]
      refine Ev.step (fun k => by rw [impl_factors.j1]) ?_
      obtain ⟨j, m, e, hm, hm1⟩ := exists_strip p hp n h1
      have hj : j < p ^ j := Nat.lt_pow_self (by omega)
      have b1 : p ^ j * 1 ≤ p ^ j * m := Nat.mul_le_mul_left _ hm1
      have b2 : 1 * m ≤ p ^ j * m := Nat.mul_le_mul_right _ (Nat.pow_pos (by omega))
      have hlm : NoLow (p + 1) m := (hl.of_dvd (by rw [e]; exact dvd_pow_mul p j m)).succ hm
      have ihm := ih (p + 1) m (if j = 0 then out else out ++ [[(p : Int), (j : Int)]]) (by omega) (by omega) hm1 (by omega) (by split <;> (try simp) <;> omega) hlm
      have main := ev_fac_l1 out (by omega) p ⟨hp, by omega⟩ _ j m hm ⟨hm1, by omega⟩ ihm j 0 (by omega) (by omega) (by omega)
      rw [← e] at main
      refine Ev.to main ?_
      by_cases z : j = 0
      · subst z
        rw [Nat.pow_zero, Nat.one_mul] at e
        subst e
        rw [if_pos rfl, ← fac_no hp h1 hm]
      · rw [if_neg z, e, fac_yes hp (by omega) hm hm1]; simp [rowsF]
theorem ev_factors (n : Nat) (h1 : 1 ≤ n) (hn : n ≤ 10000) : Ev (fun k => impl_factors.f k (n : Int)) (rowsF (fac 2 n)) := by
  unfold impl_factors.f
  exact ev_fac_l0 100 2 n [] (by omega) (by omega) h1 hn (by simp) (NoLow.two n)

/-- The powers of primes from 2 on below a bound. -/
def pps (d : Nat) : List Nat := (List.range' 2 (d - 2)).filter (fun n => (fac 2 n).length == 1)
theorem pps_succ (d : Nat) (h : 2 ≤ d) : pps (d + 1) = if (fac 2 d).length = 1 then pps d ++ [d] else pps d := by
  unfold pps
  obtain ⟨c, rfl⟩ : ∃ c, d = c + 2 := ⟨d - 2, by omega⟩
  simp only [show c + 2 + 1 - 2 = c + 1 by omega, show c + 2 - 2 = c by omega, List.range'_1_concat, List.filter_append, List.filter_cons, List.filter_nil, beq_iff_eq, Nat.add_comm 2 c]
  split <;> simp
theorem pps_length (d : Nat) : (pps d).length ≤ d := by
  unfold pps; exact Nat.le_trans (List.length_filter_le _ _) (by simp)

theorem ev_primePowers_l (most : Nat) (hm : most ≤ 10000) : ∀ (e d : Nat), 2 ≤ d → d + e = max 2 (most + 1) →
    Ev (fun k => impl_primePowers.l0 k (most : Int) (ints (pps d)) (d : Int)) (ints (pps (max 2 (most + 1)))) := by
  intro e
  induction e with
  | zero =>
    intro d hd he
    refine Ev.step (fun k => by rw [impl_primePowers.l0]) ?_
    have c : ¬ (d : Int) ≤ (most : Int) := by omega
    simp only [if_neg c]
    exact Ev.ret (by rw [show d = max 2 (most + 1) by omega])
  | succ e ih =>
    intro d hd he
    refine Ev.step (fun k => by rw [impl_primePowers.l0]) ?_
    have c : (d : Int) ≤ (most : Int) := by omega
    have l1 : (ints (pps d)).length < 17592186044416 := by rw [ints_length]; have := pps_length d; omega
    have ih' := ih (d + 1) (by omega) (by omega)
    rw [pps_succ d hd] at ih'
    simp only [if_pos c, if_pos l1, w64 (x := (d : Int) + 1) (by omega)]
    refine Ev.bind (ev_factors d (by omega) (by omega)) ?_
    rw [rowsF_length]
    by_cases z : (fac 2 d).length = 1
    · have z1 : ((fac 2 d).length : Int) = 1 := by omega
      rw [if_pos z, ints_append] at ih'
      simp only [if_pos z1]; exact ih'
    · have z1 : ¬ ((fac 2 d).length : Int) = 1 := by omega
      rw [if_neg z] at ih'
      simp only [if_neg z1]; exact ih'
theorem ev_primePowers (most : Nat) (hm : most ≤ 10000) : Ev (fun k => impl_primePowers.f k (most : Int)) (ints (pps (max 2 (most + 1)))) := by
  unfold impl_primePowers.f
  exact ev_primePowers_l most hm (max 2 (most + 1) - 2) 2 (by omega) (by omega)

/-- What a row is at the powers of primes. -/
def atPows (f : List Int) : List Int := (pps 25).map (fun q => At f q)
theorem pps_25 : pps 25 = [2, 3, 4, 5, 7, 8, 9, 11, 13, 16, 17, 19, 23] := by decide +kernel
theorem ints_rd (l : List Nat) (i : Nat) : rd (ints l) (i : Int) = ((l.getD i 0 : Nat) : Int) := by
  show (ints l).getD i 0 = _
  unfold ints; simp only [List.getD_eq_getElem?_getD, List.getElem?_map]
  cases l[i]? <;> simp
theorem take_at {l : List Nat} (g : Nat → Int) (i : Nat) (h : i < l.length) : (l.take (i + 1)).map g = (l.take i).map g ++ [g (l.getD i 0)] := by
  rw [List.take_succ_eq_append_getElem h, List.map_append]; simp [List.getD_eq_getElem?_getD, List.getElem?_eq_getElem h]
theorem getN_mem (l : List Nat) (i : Nat) (h : i < l.length) : l.getD i 0 ∈ l := by
  rw [List.getD_eq_getElem?_getD, List.getElem?_eq_getElem h]; exact List.getElem_mem _
theorem ev_AtPowers_l (f : List Int) (hf : f.length = 24) (L : List Nat) (hL : ∀ q ∈ L, 1 ≤ q ∧ q ≤ 24) (hl : L.length ≤ 100) : ∀ (d i : Nat), i + d = L.length →
    Ev (fun k => impl_AtPowers.l0 k f ((L.take i).map (fun q => At f q)) (ints L) (L.length : Int) (i : Int)) (L.map (fun q => At f q)) := by
  intro d
  induction d with
  | zero =>
    intro i hi
    refine Ev.step (fun k => by rw [impl_AtPowers.l0]) ?_
    have c : ¬ (i : Int) < (L.length : Int) := by omega
    simp only [if_neg c]
    exact Ev.ret (by rw [List.take_of_length_le (by omega)])
  | succ d ih =>
    intro i hi
    refine Ev.step (fun k => by rw [impl_AtPowers.l0]) ?_
    have c : (i : Int) < (L.length : Int) := by omega
    have c1 : 0 ≤ (i : Int) := by omega
    have b := hL _ (getN_mem L i (by omega))
    have c2 : 0 ≤ ((L.getD i 0 : Nat) : Int) - 1 := by omega
    have c3 : ((L.getD i 0 : Nat) : Int) - 1 < (f.length : Int) := by omega
    have c4 : ((L.take i).map (fun q => At f q)).length < 17592186044416 := by rw [List.length_map, List.length_take]; omega
    have ih' := ih (i + 1) (by omega)
    rw [take_at _ i (by omega)] at ih'
    simp only [ints_length, if_pos c, if_pos c1, ints_rd, w64 (x := ((L.getD i 0 : Nat) : Int) - 1) (by omega), if_pos c2, if_pos c3, if_pos c4, rd_at f _ b.1, w64 (x := (i : Int) + 1) (by omega)]
    exact ih'
theorem ev_AtPowers_yes (f : List Int) (h : InB f 1000000000 ∧ f.length = 24) : Ev (fun k => impl_AtPowers.f k f) (atPows f) := by
  unfold impl_AtPowers.f atPows
  refine Ev.bind (ev_RowOk f (by omega)) ?_
  simp only [decide_eq_true h, if_true]
  have e := ev_primePowers 24 (by omega)
  rw [show max 2 (24 + 1) = 25 from rfl] at e
  refine Ev.bind e ?_
  rw [ints_length]
  refine ev_AtPowers_l f h.2 (pps 25) (fun q hq => ?_) (by rw [pps_25]; decide) (pps 25).length 0 (by omega)
  rw [pps_25] at hq
  have : ∀ q ∈ [2, 3, 4, 5, 7, 8, 9, 11, 13, 16, 17, 19, 23], 1 ≤ q ∧ q ≤ 24 := by decide
  exact this q hq
theorem ev_AtPowers_no (f : List Int) (hf : f.length ≤ 1000000000000000) (h : ¬ (InB f 1000000000 ∧ f.length = 24)) : Ev (fun k => impl_AtPowers.f k f) [] := by
  unfold impl_AtPowers.f
  refine Ev.bind (ev_RowOk f hf) ?_
  simp only [decide_eq_false h, Bool.false_eq_true, if_false]
  exact Ev.now _
/-- What is told of a list at the powers of primes. -/
def atPowsZ (f : List Int) : List Int := if InB f 1000000000 ∧ f.length = 24 then atPows f else []
theorem ev_AtPowers (f : List Int) (hf : f.length ≤ 1000000000000000) : Ev (fun k => impl_AtPowers.f k f) (atPowsZ f) := by
  unfold atPowsZ
  by_cases h : InB f 1000000000 ∧ f.length = 24
  · rw [if_pos h]; exact ev_AtPowers_yes f h
  · rw [if_neg h]; exact ev_AtPowers_no f hf h
theorem atPowsZ_length (f : List Int) : (atPowsZ f).length ≤ 13 := by
  unfold atPowsZ; split
  · unfold atPows; rw [List.length_map, pps_25]; decide
  · simp

def ppsZ (n : Int) : List Int := if 1 ≤ n ∧ n ≤ 24 then ints (pps (max 2 (n.toNat + 1))) else []
theorem ppsZ_length (n : Int) : (ppsZ n).length ≤ 100 := by
  unfold ppsZ
  by_cases h : 1 ≤ n ∧ n ≤ 24
  · rw [if_pos h, ints_length]; have := pps_length (max 2 (n.toNat + 1)); omega
  · rw [if_neg h]; simp

theorem ev_sfac_l1 (x0 : Int) (out : List (List Int)) (hout : out.length ≤ 1000000) (p : Nat) (hp : 2 ≤ p ∧ p ≤ 10000) (r : List (List Int)) (t m : Nat) (hm : m % p ≠ 0) (h1 : 1 ≤ m ∧ m ≤ 10000)
    (hN : Ev (fun k => spec_FactorsOf.l0 k x0 (if t = 0 then out else out ++ [[(p : Int), (t : Int)]]) (m : Int) ((p + 1 : Nat) : Int)) r) :
    ∀ (j c : Nat), c + j = t → p ^ j * m ≤ 10000 → t ≤ 10000 →
    Ev (fun k => spec_FactorsOf.l1 k x0 out ((p ^ j * m : Nat) : Int) (p : Int) (c : Int)) r := by
  intro j
  induction j with
  | zero =>
    intro c hc hb ht
    refine Ev.step (fun k => by rw [spec_FactorsOf.l1]) ?_
    have c0 : ¬ (p : Int) = 0 := by omega
    have c1 : ¬ ((m % p : Nat) : Int) = 0 := by omega
    simp only [Nat.pow_zero, Nat.one_mul, if_neg c0, ← Int.ofNat_tmod, if_neg c1, w64 (x := (p : Int) + 1) (by omega)]
    have e : c = t := by omega
    subst e
    by_cases z : c = 0
    · have c2 : ¬ (c : Int) > 0 := by omega
      rw [if_pos z] at hN
      simp only [if_neg c2]; exact hN
    · have c2 : (0 : Int) < (c : Int) := by omega
      have c3 : out.length < 5864062014805 := by omega
      rw [if_neg z] at hN
      simp only [gt_iff_lt, if_pos c2, if_pos c3]; exact hN
  | succ j ih =>
    intro c hc hb ht
    refine Ev.step (fun k => by rw [spec_FactorsOf.l1]) ?_
    have e : p ^ (j + 1) * m = p * (p ^ j * m) := by rw [Nat.pow_succ, Nat.mul_comm (p ^ j) p, Nat.mul_assoc]
    have c0 : ¬ (p : Int) = 0 := by omega
    have c1 : ((p ^ (j + 1) * m % p : Nat) : Int) = 0 := by rw [e, Nat.mul_mod_right]; rfl
    have c2 : p ^ (j + 1) * m / p = p ^ j * m := by rw [e, Nat.mul_div_cancel_left _ (by omega)]
    have b2 : 1 * (p ^ j * m) ≤ p * (p ^ j * m) := Nat.mul_le_mul_right _ (by omega)
    simp only [if_neg c0, ← Int.ofNat_tmod, ← Int.ofNat_tdiv, if_pos c1, c2, w64 (x := ((p ^ j * m : Nat) : Int)) (by omega), w64 (x := (c : Int) + 1) (by omega)]
    exact ih (c + 1) (by omega) (by omega) ht
theorem ev_sfac_l0 (x0 : Int) (hx : 1 ≤ x0 ∧ x0 ≤ 10000) : ∀ (d p n : Nat) (out : List (List Int)), p + d = 10002 → 2 ≤ p → 1 ≤ n → n ≤ 10000 → out.length ≤ p →
    Ev (fun k => spec_FactorsOf.l0 k x0 out (n : Int) (p : Int)) (out ++ rowsF (fac p n)) := by
  intro d
  have stop : ∀ (p n : Nat) (out : List (List Int)), n < p → Ev (fun k => spec_FactorsOf.l0 k x0 out (n : Int) (p : Int)) (out ++ rowsF (fac p n)) := by
    intro p n out h
    refine Ev.step (fun k => by rw [spec_FactorsOf.l0]) ?_
    have c : ¬ (p : Int) ≤ (n : Int) := by omega
    simp only [if_neg c]
    refine Ev.step (fun k => by rw [spec_FactorsOf.j1]) ?_
    simp only [Bool.false_eq_true, if_false]
    rw [fac_lt h]
    exact Ev.ret (by simp [rowsF])
  induction d with
  | zero =>
    intro p n out hd hp h1 hn ho
    exact stop p n out (by omega)
  | succ d ih =>
    intro p n out hd hp h1 hn ho
    by_cases c : n < p
    · exact stop p n out c
    refine Ev.step (fun k => by rw [spec_FactorsOf.l0]) ?_
    have c1 : (p : Int) ≤ (n : Int) := by omega
    simp only [if_pos c1, l1In_f, Option.bind_some, decide_eq_true hx]
    refine Ev.step (fun k => by rw [spec_FactorsOf.j1]) ?_
    simp only [if_true]
    obtain ⟨j, m, e, hm, hm1⟩ := exists_strip p hp n h1
    have hj : j < p ^ j := Nat.lt_pow_self (by omega)
    have b1 : p ^ j * 1 ≤ p ^ j * m := Nat.mul_le_mul_left _ hm1
    have b2 : 1 * m ≤ p ^ j * m := Nat.mul_le_mul_right _ (Nat.pow_pos (by omega))
    have ihm := ih (p + 1) m (if j = 0 then out else out ++ [[(p : Int), (j : Int)]]) (by omega) (by omega) hm1 (by omega) (by split <;> (try simp) <;> omega)
    have main := ev_sfac_l1 x0 out (by omega) p ⟨hp, by omega⟩ _ j m hm ⟨hm1, by omega⟩ ihm j 0 (by omega) (by omega) (by omega)
    rw [← e] at main
    refine Ev.to main ?_
    by_cases z : j = 0
    · subst z
      rw [Nat.pow_zero, Nat.one_mul] at e
      subst e
      rw [if_pos rfl, ← fac_no hp h1 hm]
    · rw [if_neg z, e, fac_yes hp (by omega) hm hm1]; simp [rowsF]
theorem ev_sFactorsOf (n : Nat) (h1 : 1 ≤ n) (hn : n ≤ 10000) : Ev (fun k => spec_FactorsOf.f k (n : Int)) (rowsF (fac 2 n)) := by
  unfold spec_FactorsOf.f
  exact ev_sfac_l0 (n : Int) (by omega) 10000 2 n [] (by omega) (by omega) h1 hn (by simp)
theorem ev_sFactorsOf_no {n : Int} (h : ¬ (1 ≤ n ∧ n ≤ 10000)) : Ev (fun k => spec_FactorsOf.f k n) [] := by
  unfold spec_FactorsOf.f
  refine Ev.step (fun k => by rw [spec_FactorsOf.l0]) ?_
  have no : Ev (fun k => spec_FactorsOf.j1 k n [] n 2 false) [] := by
    refine Ev.step (fun k => by rw [spec_FactorsOf.j1]) ?_
    simp only [Bool.false_eq_true, if_false]; exact Ev.now _
  by_cases c : (2 : Int) ≤ n
  · simp only [if_pos c, l1In_f, Option.bind_some, decide_eq_false h]; exact no
  · simp only [if_neg c]; exact no

theorem ev_sPrimePowers_l (most : Nat) (hm : most ≤ 24) : ∀ (e d : Nat), 2 ≤ d → d + e = max 2 (most + 1) →
    Ev (fun k => spec_PrimePowers.l0 k (most : Int) (ints (pps d)) (d : Int)) (ints (pps (max 2 (most + 1)))) := by
  intro e
  induction e with
  | zero =>
    intro d hd he
    refine Ev.step (fun k => by rw [spec_PrimePowers.l0]) ?_
    have c : ¬ (d : Int) ≤ (most : Int) := by omega
    simp only [if_neg c]
    refine Ev.step (fun k => by rw [spec_PrimePowers.j1]) ?_
    simp only [Bool.false_eq_true, if_false]
    exact Ev.ret (by rw [show d = max 2 (most + 1) by omega])
  | succ e ih =>
    intro d hd he
    refine Ev.step (fun k => by rw [spec_PrimePowers.l0]) ?_
    have c : (d : Int) ≤ (most : Int) := by omega
    have c2 : (most : Int) ≤ 24 := by omega
    have l1 : (ints (pps d)).length < 17592186044416 := by rw [ints_length]; have := pps_length d; omega
    have ih' := ih (d + 1) (by omega) (by omega)
    rw [pps_succ d hd] at ih'
    simp only [if_pos c, decide_eq_true c2]
    refine Ev.step (fun k => by rw [spec_PrimePowers.j1]) ?_
    simp only [if_true, if_pos l1, w64 (x := (d : Int) + 1) (by omega)]
    refine Ev.bind (ev_sFactorsOf d (by omega) (by omega)) ?_
    rw [rowsF_length]
    by_cases z : (fac 2 d).length = 1
    · have z1 : ((fac 2 d).length : Int) = 1 := by omega
      rw [if_pos z, ints_append] at ih'
      simp only [if_pos z1]; exact ih'
    · have z1 : ¬ ((fac 2 d).length : Int) = 1 := by omega
      rw [if_neg z] at ih'
      simp only [if_neg z1]; exact ih'
theorem ev_sPrimePowers (n : Int) : Ev (fun k => spec_PrimePowers.f k n) (ppsZ n) := by
  unfold spec_PrimePowers.f ppsZ
  have no : Ev (fun k => spec_PrimePowers.j1 k n [] 2 false) [] := by
    refine Ev.step (fun k => by rw [spec_PrimePowers.j1]) ?_
    simp only [Bool.false_eq_true, if_false]; exact Ev.now _
  by_cases h : 1 ≤ n ∧ n ≤ 24
  · obtain ⟨m, rfl⟩ := Int.eq_ofNat_of_zero_le (show 0 ≤ n by omega)
    rw [if_pos h, Int.toNat_natCast]
    exact ev_sPrimePowers_l m (by omega) (max 2 (m + 1) - 2) 2 (by omega) (by omega)
  · rw [if_neg h]
    refine Ev.step (fun k => by rw [spec_PrimePowers.l0]) ?_
    by_cases c : (2 : Int) ≤ n
    · have c2 : ¬ n ≤ 24 := by omega
      simp only [if_pos c, decide_eq_false c2]; exact no
    · simp only [if_neg c]; exact no

theorem ev_sAtPowers_l (f : List Int) (hf : f.length ≤ 1000000000000000) (L : List Nat) (hL : ∀ q ∈ L, 1 ≤ q ∧ q ≤ 24) (hl : L.length ≤ 100) (h : InB f 1000000000 ∧ f.length = 24) : ∀ (d i : Nat), i + d = L.length →
    Ev (fun k => spec_AtPowers.l0 k f ((L.take i).map (fun q => At f q)) (ints L) (i : Int)) (L.map (fun q => At f q)) := by
  intro d
  induction d with
  | zero =>
    intro i hi
    refine Ev.step (fun k => by rw [spec_AtPowers.l0]) ?_
    have c : ¬ (i : Int) < (L.length : Int) := by omega
    simp only [ints_length, if_neg c]
    exact Ev.ret (by rw [List.take_of_length_le (by omega)])
  | succ d ih =>
    intro i hi
    refine Ev.step (fun k => by rw [spec_AtPowers.l0]) ?_
    have c : (i : Int) < (L.length : Int) := by omega
    have c1 : 0 ≤ (i : Int) := by omega
    have b := hL _ (getN_mem L i (by omega))
    have c2 : 0 ≤ ((L.getD i 0 : Nat) : Int) - 1 := by omega
    have c3 : ((L.getD i 0 : Nat) : Int) - 1 < (f.length : Int) := by omega
    have c4 : ((L.take i).map (fun q => At f q)).length < 17592186044416 := by rw [List.length_map, List.length_take]; omega
    have ih' := ih (i + 1) (by omega)
    rw [take_at _ i (by omega)] at ih'
    simp only [ints_length, if_pos c, if_pos c1, ints_rd, w64 (x := ((L.getD i 0 : Nat) : Int) - 1) (by omega), if_pos c2, if_pos c3, if_pos c4, rd_at f _ b.1, w64 (x := (i : Int) + 1) (by omega)]
    refine Ev.bind (ev_sRowOk f hf) ?_
    simp only [decide_eq_true h, if_true]
    exact ih'
theorem ev_sAtPowers (f : List Int) (hf : f.length ≤ 1000000000000000) : Ev (fun k => spec_AtPowers.f k f) (atPowsZ f) := by
  unfold spec_AtPowers.f atPowsZ
  have e := ev_sPrimePowers ((24 : Nat) : Int)
  have e2 : ppsZ ((24 : Nat) : Int) = ints (pps 25) := by unfold ppsZ; rw [if_pos (by omega)]; rfl
  rw [e2] at e
  refine Ev.bind e ?_
  by_cases h : InB f 1000000000 ∧ f.length = 24
  · rw [if_pos h]
    refine ev_sAtPowers_l f hf (pps 25) (fun q hq => ?_) (by rw [pps_25]; decide) h (pps 25).length 0 (by omega)
    rw [pps_25] at hq
    have : ∀ q ∈ [2, 3, 4, 5, 7, 8, 9, 11, 13, 16, 17, 19, 23], 1 ≤ q ∧ q ≤ 24 := by decide
    exact this q hq
  · rw [if_neg h]
    refine Ev.step (fun k => by rw [spec_AtPowers.l0]) ?_
    have c : (0 : Int) < ((ints (pps 25)).length : Int) := by rw [ints_length, pps_25]; decide
    simp only [if_pos c]
    refine Ev.bind (ev_sRowOk f hf) ?_
    simp only [decide_eq_false h, Bool.false_eq_true, if_false]
    exact Ev.now _

theorem ev_PrimePowers (n : Int) : Ev (fun k => impl_PrimePowers.f k n) (ppsZ n) := by
  unfold impl_PrimePowers.f ppsZ
  by_cases h1 : n < 1
  · rw [if_neg (by omega)]; simp only [if_pos h1]; exact Ev.now _
  by_cases h2 : 24 < n
  · rw [if_neg (by omega)]; simp only [if_neg h1, gt_iff_lt, if_pos h2]; exact Ev.now _
  obtain ⟨m, rfl⟩ := Int.eq_ofNat_of_zero_le (show 0 ≤ n by omega)
  rw [if_pos (by omega)]
  simp only [if_neg h1, gt_iff_lt, if_neg h2, Int.toNat_natCast]
  exact Ev.bind (ev_primePowers m (by omega)) (Ev.now _)

theorem ev_iNamedRow (i : Nat) (h : i < 8) : Ev (fun k => impl_NamedRow.f k (i : Int)) (named i) := by
  have : i = 0 ∨ i = 1 ∨ i = 2 ∨ i = 3 ∨ i = 4 ∨ i = 5 ∨ i = 6 ∨ i = 7 := by omega
  rcases this with rfl | rfl | rfl | rfl | rfl | rfl | rfl | rfl <;> exact Ev.of (fun k => impl_NamedRow.mono _ k) (k := 200) (by decide +kernel)

theorem ev_sameInts_l (a b : List Int) (hl : a.length = b.length) (ha : a.length ≤ 1000000000000000) : ∀ (d i : Nat), i + d = a.length →
    Ev (fun k => laws_sameInts.l0 k a b (i : Int)) (decide (a.drop i = b.drop i)) := by
  intro d
  induction d with
  | zero =>
    intro i hi
    refine Ev.step (fun k => by rw [laws_sameInts.l0]) ?_
    have h1 : ¬ (i : Int) < (a.length : Int) := by omega
    simp only [if_neg h1]
    refine Ev.ret ?_
    rw [List.drop_eq_nil_of_le (by omega), List.drop_eq_nil_of_le (by omega)]; simp
  | succ d ih =>
    intro i hi
    refine Ev.step (fun k => by rw [laws_sameInts.l0]) ?_
    have h1 : (i : Int) < (a.length : Int) := by omega
    have h2 : (0 : Int) ≤ (i : Int) := by omega
    have h3 : (i : Int) < (b.length : Int) := by omega
    have ea := drop_step a i (by omega)
    have eb := drop_step b i (by omega)
    simp only [if_pos h1, if_pos h2, if_pos h3, rd_nat, w64 (x := (i : Int) + 1) (by omega)]
    by_cases e : a.getD i 0 = b.getD i 0
    · simp only [if_pos e]
      refine Ev.to (ih (i + 1) (by omega)) ?_
      rw [ea, eb, e]; simp
    · simp only [if_neg e]
      refine Ev.ret ?_
      rw [ea, eb]; simp only [List.cons.injEq, e, false_and, decide_false]
theorem ev_sameInts (a b : List Int) (ha : a.length ≤ 1000000000000000) : Ev (fun k => laws_sameInts.f k a b) (decide (a = b)) := by
  unfold laws_sameInts.f
  by_cases h : (a.length : Int) = (b.length : Int)
  · simp only [if_pos h]
    exact ev_sameInts_l a b (by omega) ha a.length 0 (by omega)
  · simp only [if_neg h]
    refine Ev.ret ?_
    symm; rw [decide_eq_false_iff_not]
    intro e; subst e; exact h rfl

theorem open_l (l : List Int) (h : ∀ x ∈ l, (Lit.int .u8 x).wf = true) : ∃ b, Bytes b ∧ spec_l20Open.f l = some (b, 0) := by
  unfold spec_l20Open.f
  by_cases c : (l.length : Int) > 2000
  · refine ⟨l.take 2000, ⟨by simp; omega, fun x hx => wf_u8 (h x (List.mem_of_mem_take hx))⟩, ?_⟩
    rw [if_pos c, if_pos (by omega)]
  · exact ⟨l, ⟨by omega, fun x hx => wf_u8 (h x hx)⟩, by rw [if_neg c]⟩

theorem numberOk_f (a : Int) : impl_numberOk.f a = some (decide (1 ≤ a ∧ a ≤ 10000)) := by
  unfold impl_numberOk.f
  by_cases h : a ≥ 1
  · rw [if_pos h]; simp [show 1 ≤ a from h]
  · rw [if_neg h]; simp [show ¬ 1 ≤ a from h]

theorem alive_f : laws_alive.f = some true := by
  unfold laws_alive.f impl_DividesOk.f
  simp only [numberOk_f, Option.bind_some]; simp

theorem atPows_self : atPowsZ (named 2) = ppsZ 24 := by decide +kernel
theorem FnAtPowers : laws_FnAtPowers.Pure := by
  intro l h1 h2 h3
  apply Ev.k
  unfold laws_FnAtPowers.f
  by_cases hl : (l.length : Int) > 1048576
  · simp only [if_pos hl]; exact Ev.now _
  simp only [if_neg hl]
  obtain ⟨b, hb, eo⟩ := open_l l h3
  obtain ⟨r, hr, er⟩ := ev_pick hb 0 6 (by omega) (by omega)
  obtain ⟨f, hf, ed⟩ : ∃ f, Drawn f ∧ Ev (fun k => spec_DrawAtPowers.f k l) f := by
    unfold spec_DrawAtPowers.f
    simp only [eo, Option.bind_some]
    by_cases r0 : r = 0
    · obtain ⟨f, q, hf, hq, ef⟩ := ev_row hb (0 + 1) 2 (by omega) (by omega)
      refine ⟨f, hf, Ev.bind er ?_⟩
      simp only [if_pos r0]
      exact Ev.bind ef (Ev.now _)
    · obtain ⟨f, q, hf, hq, ef⟩ := ev_mult hb (0 + 1) 9 (by omega) (by omega)
      refine ⟨f, hf, Ev.bind er ?_⟩
      simp only [if_neg r0]
      exact Ev.bind ef (Ev.now _)
  have lf := hf.1
  have z := atPowsZ_length f
  have z2 := atPowsZ_length (named 2)
  have nl := named_length 2
  refine Ev.bind ed (Ev.bind (ev_AtPowers f (by omega)) (Ev.bind (ev_sAtPowers f (by omega)) (Ev.bind (ev_sameInts (atPowsZ f) (atPowsZ f) (by omega)) ?_)))
  simp only [decide_true, if_true]
  refine Ev.bind (ev_iNamedRow 2 (by omega)) (Ev.bind (ev_AtPowers (named 2) (by omega)) (Ev.bind (ev_PrimePowers 24) (Ev.bind (ev_sameInts (atPowsZ (named 2)) (ppsZ 24) (by omega)) ?_)))
  simp only [decide_eq_true atPows_self, if_true]
  refine Ev.bind (ev_RowOk f (by omega)) ?_
  have c : ((((atPowsZ f).length : Int) == 0) == (!decide (InB f 1000000000 ∧ f.length = 24))) = true := by
    unfold atPowsZ
    by_cases h : InB f 1000000000 ∧ f.length = 24
    · rw [if_pos h, decide_eq_true h]
      have e : (atPows f).length = 13 := by unfold atPows; rw [pps_25]; rfl
      rw [e]; decide
    · rw [if_neg h, decide_eq_false h]; decide
  simp only [c, if_true, alive_f, Option.bind_some]
  exact Ev.now _

end Go.Proofs.Yteebmpbhhpmhbaa.Pure
namespace Go.Proofs.Yteebmpbhhpmhbaa.PrintWords
/-- The printed row's word, under the name by which that row calls it. -/
abbrev sized_ints := @Go.Proofs.YteebmpbhhpmhbaaW.PrintWords.sized_ints
end Go.Proofs.Yteebmpbhhpmhbaa.PrintWords
