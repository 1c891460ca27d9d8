/- The program and the reference tell the same of two drawn rows; a quotient of rows is a row, multiplied again it is what was divided, and a product divided by one of its rows is the other. -/
import Derived.Test.YteebmpbhhpmhbaaPFnDividedOfx0
import Derived.Test.YteebmpbhhpmhbaaPFnDividedOfx1
import Derived.Test.YteebmpbhhpmhbaaPFnDividedOfx2
import Derived.Test.YteebmpbhhpmhbaaPFnDividedOfx3
import Derived.Test.YteebmpbhhpmhbaaPFnDividedOfx4
import Derived.Test.YteebmpbhhpmhbaaQFnDividedOfx5
import Derived.Test.YteebmpbhhpmhbaaQFnDividedOfx6
import Derived.Test.YteebmpbhhpmhbaaQFnDividedOfx7
import Derived.Test.YteebmpbhhpmhbaaQFnDividedOfx8
import Derived.Test.YteebmpbhhpmhbaaQFnDividedOfx9
import Derived.Test.YteebmpbhhpmhbaaM1
import Derived.Test.YteebmpbhhpmhbaaM2
import Derived.Test.YteebmpbhhpmhbaaM3
import Derived.Test.YteebmpbhhpmhbaaWSized
namespace Go.Proofs.Yteebmpbhhpmhbaa.Pure
open Go.RowKit Go.Proofs.Yteebmpbhhpmhbaa.PFnDividedOf Go.Proofs.YteebmpbhhpmhbaaW.PrintWords Go.Proofs.YteebmpbhhpmhbaaW.PrintLast Go.Proofs.YteebmpbhhpmhbaaW.PrintMore Go.Proofs.Yteebmpbhhpmhbaa.Math
set_option linter.unusedVariables false
set_option linter.unusedSimpArgs false
theorem w64 {x : Int} (h : -9223372036854775808 ≤ x ∧ x ≤ 9223372036854775807) : wrap64 x = x := by unfold wrap64; omega
theorem Ev.k {α : Type} {g : Nat → Option α} {r : α} (h : Ev g r) : ∃ k, g k = some r := Ev.rounds h
theorem Ev.to {α : Type} {g : Nat → Option α} {r s : α} (h : Ev g r) (e : r = s) : Ev g s := e ▸ h
theorem Ev.ret {α : Type} {r s : α} (e : r = s) : Ev (fun _ => some r) s := e ▸ Ev.now r

theorem rd_nat (xs : List Int) (i : Nat) : rd xs (i : Int) = xs.getD i 0 := rfl
theorem drop_step (f : List Int) (i : Nat) (h : i < f.length) : f.drop i = f.getD i 0 :: f.drop (i + 1) := by
  rw [List.drop_eq_getElem_cons h]; simp [List.getD_eq_getElem?_getD, List.getElem?_eq_getElem h]
def InB (f : List Int) (m : Int) : Prop := ∀ x ∈ f, -m ≤ x ∧ x ≤ m
instance (f : List Int) (m : Int) : Decidable (InB f m) := by unfold InB; infer_instance
theorem InB_cons (x : Int) (f : List Int) (m : Int) : InB (x :: f) m ↔ (-m ≤ x ∧ x ≤ m) ∧ InB f m := by
  unfold InB; simp
theorem InB_nil (m : Int) : InB [] m := fun x h => by cases h
theorem InB.mono {f : List Int} {m n : Int} (h : InB f m) (hmn : m ≤ n) : InB f n := fun x hx => by have := h x hx; omega

/-- The rows with names. -/
def named : Nat → List Int
  | 0 => [1, 0, 0, 0, 0, 0, 0, 0, 0, 0, 0, 0, 0, 0, 0, 0, 0, 0, 0, 0, 0, 0, 0, 0]
  | 1 => [1, 1, 1, 1, 1, 1, 1, 1, 1, 1, 1, 1, 1, 1, 1, 1, 1, 1, 1, 1, 1, 1, 1, 1]
  | 2 => [1, 2, 3, 4, 5, 6, 7, 8, 9, 10, 11, 12, 13, 14, 15, 16, 17, 18, 19, 20, 21, 22, 23, 24]
  | 3 => [1, 2, 2, 3, 2, 4, 2, 4, 3, 4, 2, 6, 2, 4, 4, 5, 2, 6, 2, 6, 4, 4, 2, 8]
  | 4 => [1, 3, 4, 7, 6, 12, 8, 15, 13, 18, 12, 28, 14, 24, 24, 31, 18, 39, 20, 42, 32, 36, 24, 60]
  | 5 => [1, 1, 2, 2, 4, 2, 6, 4, 6, 4, 10, 4, 12, 6, 8, 8, 16, 6, 18, 8, 12, 10, 22, 8]
  | 6 => [1, -1, -1, 0, -1, 1, -1, 0, 0, 1, -1, 0, -1, 1, 1, 0, -1, 0, -1, 0, 1, 1, -1, 0]
  | _ => [1, -1, -1, 1, -1, 1, -1, -1, 1, 1, -1, -1, -1, 1, 1, 1, -1, -1, -1, -1, 1, 1, -1, 1]
theorem named_length (i : Nat) : (named i).length = 24 := by
  unfold named; split <;> rfl
theorem named_in (i : Nat) : InB (named i) 60 := by
  unfold named; split <;> decide

theorem ev_sNamedRow (i : Nat) (h : i < 8) : Ev (fun k => spec_NamedRow.f k (i : Int)) (named i) := by
  have : i = 0 ∨ i = 1 ∨ i = 2 ∨ i = 3 ∨ i = 4 ∨ i = 5 ∨ i = 6 ∨ i = 7 := by omega
  rcases this with rfl | rfl | rfl | rfl | rfl | rfl | rfl | rfl <;> exact Ev.of (fun k => spec_NamedRow.mono _ k) (k := 200) (by decide +kernel)

/-- What a row is at a number. -/
def At (f : List Int) (n : Nat) : Int := f.getD (n - 1) 0
theorem rd_at (f : List Int) (n : Nat) (h : 1 ≤ n) : rd f ((n : Int) - 1) = At f n := by
  rw [show (n : Int) - 1 = ((n - 1 : Nat) : Int) by omega]; rfl
theorem rd_at0 (f : List Int) : rd f 0 = At f 1 := rfl
theorem InB.at {f : List Int} {m : Int} (h : InB f m) (hm : 0 ≤ m) (n : Nat) : -m ≤ At f n ∧ At f n ≤ m := by
  unfold At; rw [List.getD_eq_getElem?_getD]
  by_cases c : n - 1 < f.length
  · rw [List.getElem?_eq_getElem c]; exact h _ (List.getElem_mem _)
  · rw [List.getElem?_eq_none (by omega)]; simp; omega
theorem mul_in {x y B : Int} (hx : -B ≤ x ∧ x ≤ B) (hy : -B ≤ y ∧ y ≤ B) (hB : 0 ≤ B) : -(B * B) ≤ x * y ∧ x * y ≤ B * B := by
  have h1 : x.natAbs ≤ B.toNat := by omega
  have h2 : y.natAbs ≤ B.toNat := by omega
  have h3 := Nat.mul_le_mul h1 h2
  rw [← Int.natAbs_mul] at h3
  have h4 : ((B.toNat * B.toNat : Nat) : Int) = B * B := by rw [Int.natCast_mul, Int.toNat_of_nonneg hB]
  omega
theorem w64_prod {f : List Int} (h : InB f 1000000000) (a b : Nat) : wrap64 (At f a * At f b) = At f a * At f b := by
  have := mul_in (h.at (by omega) a) (h.at (by omega) b) (by omega)
  exact w64 (by omega)
/-- A row is 1 at 1, and at each product of two numbers (that are apart, or all) the product. -/
def Mult (all : Bool) (f : List Int) : Prop := At f 1 = 1 ∧ ∀ a b, 1 ≤ a → 1 ≤ b → a * b ≤ 24 → (all = true ∨ Nat.gcd a b = 1) → At f (a * b) = At f a * At f b
/-- It is so at all pairs before one. -/
def MultTo (all : Bool) (f : List Int) (x y : Nat) : Prop := ∀ a b, (a < x ∨ a = x ∧ b < y) → 1 ≤ a → 1 ≤ b → a * b ≤ 24 → (all = true ∨ Nat.gcd a b = 1) → At f (a * b) = At f a * At f b
theorem MultTo.step {all : Bool} {f : List Int} {x y : Nat} (h : MultTo all f x y) (e : x * y ≤ 24 → (all = true ∨ Nat.gcd x y = 1) → At f (x * y) = At f x * At f y) : MultTo all f x (y + 1) := by
  intro a b hab h1 h2 h3 h4
  by_cases c : a = x ∧ b = y
  · obtain ⟨rfl, rfl⟩ := c; exact e h3 h4
  · exact h a b (by omega) h1 h2 h3 h4
theorem MultTo.next {all : Bool} {f : List Int} {x y : Nat} (h : MultTo all f x y) (hy : 24 < x * y) : MultTo all f (x + 1) 1 := by
  intro a b hab h1 h2 h3 h4
  refine h a b ?_ h1 h2 h3 h4
  by_cases c : a < x
  · exact Or.inl c
  · have e : a = x := by omega
    subst e
    refine Or.inr ⟨rfl, Nat.lt_of_not_le (fun hle => ?_)⟩
    have := Nat.mul_le_mul_left a hle; omega

/-- One term of a product over divisors. -/
def term (f g : List Int) (n d : Nat) : Int := At f d * At g (n / d)
/-- The product of two rows over divisors, at a number. -/
def conv (f g : List Int) (n : Nat) : Int := isum ((divs n).map (term f g n))
def times (f g : List Int) : List Int := (List.range 24).map (fun i => conv f g (i + 1))
theorem isum_bound {l : List Int} {B : Int} (hB : 0 ≤ B) (h : ∀ x ∈ l, -B ≤ x ∧ x ≤ B) : -((l.length : Int) * B) ≤ isum l ∧ isum l ≤ (l.length : Int) * B := by
  induction l with
  | nil => simp [isum]
  | cons x t ih =>
    have h1 := h x (by simp)
    have h2 := ih (fun y hy => h y (List.mem_cons_of_mem _ hy))
    simp only [isum, List.length_cons]
    rw [Int.natCast_add, Int.add_mul]
    omega
theorem term_in {f g : List Int} (hf : InB f 10000) (hg : InB g 10000) (n d : Nat) : -100000000 ≤ term f g n d ∧ term f g n d ≤ 100000000 := by
  have := mul_in (hf.at (by omega) d) (hg.at (by omega) (n / d)) (by omega)
  unfold term; omega
theorem isum_terms {f g : List Int} (hf : InB f 10000) (hg : InB g 10000) (n : Nat) (l : List Nat) (hl : l.length ≤ 1000) : -100000000000 ≤ isum (l.map (term f g n)) ∧ isum (l.map (term f g n)) ≤ 100000000000 := by
  have h := isum_bound (l := l.map (term f g n)) (B := 100000000) (by omega) (fun x hx => by
    obtain ⟨d, _, rfl⟩ := List.mem_map.1 hx; exact term_in hf hg n d)
  rw [List.length_map] at h
  omega
theorem times_length (f g : List Int) : (times f g).length = 24 := by simp [times]
theorem At_times (f g : List Int) (n : Nat) (h : 1 ≤ n ∧ n ≤ 24) : At (times f g) n = conv f g n := by
  unfold At times
  rw [List.getD_eq_getElem?_getD, List.getElem?_map, List.getElem?_range (by omega)]
  simp only [Option.map_some, Option.getD_some]
  rw [show n - 1 + 1 = n by omega]
theorem ext_At {a b : List Int} (ha : a.length = 24) (hb : b.length = 24) (h : ∀ n, 1 ≤ n → n ≤ 24 → At a n = At b n) : a = b := by
  refine List.ext_getElem (by omega) (fun t h1 h2 => ?_)
  have := h (t + 1) (by omega) (by omega)
  unfold At at this
  rw [show t + 1 - 1 = t by omega] at this
  simpa [List.getD_eq_getElem?_getD, List.getElem?_eq_getElem h1, List.getElem?_eq_getElem h2] using this
theorem At_set (a : List Int) (m : Nat) (x : Int) (n : Nat) (hm : 1 ≤ m) (hl : m ≤ a.length) (hn : 1 ≤ n) : At (a.set (m - 1) x) n = if n = m then x else At a n := by
  unfold At
  simp only [List.getD_eq_getElem?_getD, List.getElem?_set]
  by_cases e : n = m
  · subst e; simp [show n - 1 < a.length by omega]
  · rw [if_neg (by omega), if_neg e]

theorem l1In_f (a b c : Int) : spec_l1In.f a b c = some (decide (b ≤ a ∧ a ≤ c)) := by
  unfold spec_l1In.f
  by_cases h : a ≥ b
  · rw [if_pos h]; simp [show b ≤ a from h]
  · rw [if_neg h]; simp [show ¬ b ≤ a from h]

theorem ev_sRowOk_l (f : List Int) (hf : f.length ≤ 1000000000000000) : ∀ (d i : Nat), i + d = f.length →
    Ev (fun k => spec_RowOk.l0 k f (i : Int)) (decide (InB (f.drop i) 1000000000 ∧ f.length = 24)) := by
  intro d
  induction d with
  | zero =>
    intro i hi
    refine Ev.step (fun k => by rw [spec_RowOk.l0]) ?_
    have h1 : ¬ (i : Int) < (f.length : Int) := by omega
    simp only [if_neg h1]
    refine Ev.ret ?_
    rw [List.drop_eq_nil_of_le (by omega), Bool.eq_iff_iff]; simp [InB_nil]; omega
  | succ d ih =>
    intro i hi
    refine Ev.step (fun k => by rw [spec_RowOk.l0]) ?_
    have h1 : (i : Int) < (f.length : Int) := by omega
    have h2 : (0 : Int) ≤ (i : Int) := by omega
    simp only [if_pos h1, if_pos h2, rd_nat, l1In_f, Option.bind_some, decide_eq_true_eq]
    have e := drop_step f i (by omega)
    by_cases a : -1000000000 ≤ f.getD i 0 ∧ f.getD i 0 ≤ 1000000000
    · simp only [if_pos a, w64 (x := (i : Int) + 1) (by omega)]
      refine Ev.to (ih (i + 1) (by omega)) ?_
      rw [Bool.eq_iff_iff]; simp only [decide_eq_true_eq]; rw [e, InB_cons]
      constructor
      · rintro ⟨h, g⟩; exact ⟨⟨a, h⟩, g⟩
      · rintro ⟨⟨_, h⟩, g⟩; exact ⟨h, g⟩
    · simp only [if_neg a]
      refine Ev.ret ?_
      symm; rw [decide_eq_false_iff_not, e, InB_cons]; rintro ⟨⟨h, _⟩, _⟩; exact a h
theorem ev_sRowOk (f : List Int) (hf : f.length ≤ 1000000000000000) :
    Ev (fun k => spec_RowOk.f k f) (decide (InB f 1000000000 ∧ f.length = 24)) := by
  unfold spec_RowOk.f
  exact ev_sRowOk_l f hf f.length 0 (by omega)

/-- What the product of two rows tells: the row and true, or nothing and false. -/
def timesR (f g : List Int) : List Int × Bool := if (InB f 10000 ∧ f.length = 24) ∧ (InB g 10000 ∧ g.length = 24) then (times f g, true) else ([], false)
theorem InB_iff_At {f : List Int} (hl : f.length = 24) (m : Int) : InB f m ↔ ∀ n, 1 ≤ n → n ≤ 24 → -m ≤ At f n ∧ At f n ≤ m := by
  constructor
  · intro h n n1 n2
    unfold At
    rw [List.getD_eq_getElem?_getD, List.getElem?_eq_getElem (show n - 1 < f.length by omega)]
    exact h _ (List.getElem_mem _)
  · intro h x hx
    obtain ⟨i, hi, rfl⟩ := List.mem_iff_getElem.1 hx
    have := h (i + 1) (by omega) (by omega)
    unfold At at this
    rw [List.getD_eq_getElem?_getD, List.getElem?_eq_getElem (show i + 1 - 1 < f.length by omega)] at this
    simpa using this
theorem timesR_length (f g : List Int) : (timesR f g).1.length ≤ 24 := by
  unfold timesR; split
  · exact Nat.le_of_eq (times_length f g)
  · simp

theorem lowD_24 (n : Nat) (h : 1 ≤ n ∧ n ≤ 24) : lowD n 25 = divs n := by
  refine sorted_ext (lowD_sorted n 25) (divs_sorted n) (fun a => ?_)
  rw [mem_lowD, mem_divs]
  constructor
  · rintro ⟨x, y, z⟩; exact ⟨x, Nat.le_of_dvd (by omega) (Nat.dvd_of_mod_eq_zero z), z⟩
  · rintro ⟨x, y, z⟩; exact ⟨x, by omega, z⟩
/-- What the row of sums holds while the products are added. -/
def TimesAt (f g out : List Int) (a y : Nat) : Prop :=
  out.length = 24 ∧ ∀ n, 1 ≤ n → n ≤ 24 → At out n = isum ((lowD n a).map (term f g n)) + if n % a = 0 ∧ n / a < y then term f g n a else 0
theorem TimesAt.next {f g out : List Int} {a y : Nat} (h : TimesAt f g out a y) (ha : 1 ≤ a) (hy : 24 < a * y) : TimesAt f g out (a + 1) 1 := by
  refine ⟨h.1, fun n h1 h2 => ?_⟩
  rw [h.2 n h1 h2, lowD_succ n a ha, if_neg (show ¬ (n % (a + 1) = 0 ∧ n / (a + 1) < 1) from ?_)]
  · by_cases z : n % a = 0
    · have : n / a < y := by rw [Nat.div_lt_iff_lt_mul (by omega), Nat.mul_comm]; omega
      rw [if_pos ⟨z, this⟩, if_pos z, List.map_append, isum_append]
      simp [isum]
    · rw [if_neg (fun x => z x.1), if_neg z]
  · rintro ⟨z, q⟩
    have e := Nat.div_add_mod n (a + 1)
    generalize n / (a + 1) = q' at *
    have : q' = 0 := by omega
    subst this; omega
theorem ev_l2_l1 {f g : List Int} (hf : InB f 10000) (hg : InB g 10000) (lf : f.length = 24) (lg : g.length = 24) (a : Nat) (ha : 1 ≤ a ∧ a ≤ 24)
    (hN : ∀ out, TimesAt f g out (a + 1) 1 → Ev (fun k => spec_l2Times.l0 k f g out ((a + 1 : Nat) : Int)) (times f g)) : ∀ (m y : Nat) (out : List Int), y + m = 25 → 1 ≤ y → TimesAt f g out a y →
    Ev (fun k => spec_l2Times.l1 k f g out (a : Int) (y : Int)) (times f g) := by
  intro m
  induction m with
  | zero =>
    intro y out hy h1 hI
    have hb : 1 * 25 ≤ a * y := Nat.mul_le_mul ha.1 (by omega)
    have hb2 : a * y ≤ 24 * 25 := Nat.mul_le_mul ha.2 (by omega)
    refine Ev.step (fun k => by rw [spec_l2Times.l1]) ?_
    have e : (a : Int) * (y : Int) = ((a * y : Nat) : Int) := by simp
    have c : ¬ ((a * y : Nat) : Int) ≤ 24 := by omega
    simp only [e, w64 (x := ((a * y : Nat) : Int)) (by omega), if_neg c, w64 (x := (a : Int) + 1) (by omega)]
    exact hN out (hI.next ha.1 (by omega))
  | succ m ih =>
    intro y out hy h1 hI
    have hb2 : a * y ≤ 24 * 25 := Nat.mul_le_mul ha.2 (by omega)
    have hb1 : 1 * 1 ≤ a * y := Nat.mul_le_mul ha.1 h1
    refine Ev.step (fun k => by rw [spec_l2Times.l1]) ?_
    have e : (a : Int) * (y : Int) = ((a * y : Nat) : Int) := by simp
    by_cases hc : a * y ≤ 24
    · have c : ((a * y : Nat) : Int) ≤ 24 := by omega
      have c1 : 0 ≤ ((a * y : Nat) : Int) - 1 := by omega
      have c2 : ((a * y : Nat) : Int) - 1 < (out.length : Int) := by rw [hI.1]; omega
      have c3 : 0 ≤ (a : Int) - 1 := by omega
      have c4 : (a : Int) - 1 < (f.length : Int) := by omega
      have c5 : 0 ≤ (y : Int) - 1 := by omega
      have c6 : (y : Int) - 1 < (g.length : Int) := by
        have := Nat.mul_le_mul_right y ha.1; omega
      have yv : a * y / a = y := Nat.mul_div_cancel_left _ (by omega)
      have tm : At f a * At g y = term f g (a * y) a := by unfold term; rw [yv]
      have old : At out (a * y) = isum ((lowD (a * y) a).map (term f g (a * y))) := by
        rw [hI.2 (a * y) (by omega) hc, if_neg (fun x => by omega)]; omega
      have b1 := isum_terms hf hg (a * y) (lowD (a * y) a) (by have := length_lowD (a * y) a; omega)
      have b2 := term_in hf hg (a * y) a
      rw [← old] at b1
      have ti : (((a * y : Nat) : Int) - 1).toNat = a * y - 1 := by omega
      simp only [e, w64 (x := ((a * y : Nat) : Int)) (by omega), w64 (x := ((a * y : Nat) : Int) - 1) (by omega), w64 (x := (a : Int) - 1) (by omega), w64 (x := (y : Int) - 1) (by omega), w64 (x := (y : Int) + 1) (by omega),
        if_pos c, if_pos c1, if_pos c2, if_pos c3, if_pos c4, if_pos c5, if_pos c6, rd_at out (a * y) (by omega), rd_at f a (by omega), rd_at g y (by omega), tm, w64 (x := term f g (a * y) a) (by omega), w64 (x := At out (a * y) + term f g (a * y) a) (by omega), ti]
      refine ih (y + 1) _ (by omega) (by omega) ⟨by rw [List.length_set]; exact hI.1, fun n n1 n2 => ?_⟩
      rw [At_set out (a * y) _ n (by omega) (by rw [hI.1]; exact hc) n1]
      by_cases en : n = a * y
      · subst en
        rw [if_pos rfl, if_pos ⟨Nat.mul_mod_right _ _, by omega⟩, old]
      · rw [if_neg en, hI.2 n n1 n2]
        by_cases z : n % a = 0 ∧ n / a < y
        · rw [if_pos z, if_pos ⟨z.1, by omega⟩]
        · rw [if_neg z, if_neg (fun x => z ⟨x.1, ?_⟩)]
          have en2 := Nat.div_add_mod n a
          rw [x.1] at en2
          by_cases q : n / a = y
          · rw [q] at en2; omega
          · omega
    · have c : ¬ ((a * y : Nat) : Int) ≤ 24 := by omega
      simp only [e, w64 (x := ((a * y : Nat) : Int)) (by omega), if_neg c, w64 (x := (a : Int) + 1) (by omega)]
      exact hN out (hI.next ha.1 (by omega))
theorem ev_l2_l0 {f g : List Int} (hf : InB f 10000) (hg : InB g 10000) (lf : f.length = 24) (lg : g.length = 24) : ∀ (m a : Nat) (out : List Int), a + m = 25 → 1 ≤ a → TimesAt f g out a 1 →
    Ev (fun k => spec_l2Times.l0 k f g out (a : Int)) (times f g) := by
  intro m
  induction m with
  | zero =>
    intro a out ha h1 hI
    refine Ev.step (fun k => by rw [spec_l2Times.l0]) ?_
    have c : ¬ (a : Int) ≤ 24 := by omega
    simp only [if_neg c]
    have e : a = 25 := by omega
    subst e
    refine Ev.ret (ext_At hI.1 (times_length f g) (fun n n1 n2 => ?_))
    rw [hI.2 n n1 n2, At_times f g n ⟨n1, n2⟩, if_neg (fun x => by omega), lowD_24 n ⟨n1, n2⟩]
    unfold conv; omega
  | succ m ih =>
    intro a out ha h1 hI
    refine Ev.step (fun k => by rw [spec_l2Times.l0]) ?_
    have c : (a : Int) ≤ 24 := by omega
    simp only [if_pos c]
    exact ev_l2_l1 hf hg lf lg a (by omega) (fun out h => ih (a + 1) out (by omega) (by omega) h) 24 1 out (by omega) (by omega) hI
theorem ev_l2Times {f g : List Int} (hf : InB f 10000) (hg : InB g 10000) (lf : f.length = 24) (lg : g.length = 24) : Ev (fun k => spec_l2Times.f k f g) (times f g) := by
  unfold spec_l2Times.f
  have c : 24 ≤ 35184372088832 := by omega
  simp only [if_pos c]
  refine ev_l2_l0 hf hg lf lg 24 1 _ (by omega) (by omega) ⟨by simp, fun n n1 n2 => ?_⟩
  rw [if_neg (fun x => by
    have h := x.2
    rw [Nat.div_one] at h
    omega)]
  have e : lowD n 1 = [] := by unfold lowD; rfl
  rw [e]
  unfold At
  rw [List.getD_eq_getElem?_getD, List.getElem?_replicate]
  split <;> simp [isum]
theorem ev_sTimes_l {f g : List Int} (lf : f.length = 24) (lg : g.length = 24) : ∀ (m i : Nat), i + m = 24 → (∀ n, 1 ≤ n → n ≤ i → (-10000 ≤ At f n ∧ At f n ≤ 10000) ∧ (-10000 ≤ At g n ∧ At g n ≤ 10000)) →
    Ev (fun k => spec_TimesOf.l0 k f g (i : Int)) (timesR f g) := by
  intro m
  induction m with
  | zero =>
    intro i hi hI
    refine Ev.step (fun k => by rw [spec_TimesOf.l0]) ?_
    have c : ¬ (i : Int) < 24 := by omega
    have hf : InB f 10000 := (InB_iff_At lf 10000).2 (fun n n1 n2 => (hI n n1 (by omega)).1)
    have hg : InB g 10000 := (InB_iff_At lg 10000).2 (fun n n1 n2 => (hI n n1 (by omega)).2)
    simp only [if_neg c]
    unfold timesR
    rw [if_pos ⟨⟨hf, lf⟩, ⟨hg, lg⟩⟩]
    exact Ev.bind (ev_l2Times hf hg lf lg) (Ev.now _)
  | succ m ih =>
    intro i hi hI
    refine Ev.step (fun k => by rw [spec_TimesOf.l0]) ?_
    have c : (i : Int) < 24 := by omega
    have c1 : 0 ≤ (i : Int) := by omega
    have c2 : (i : Int) < (f.length : Int) := by omega
    have c3 : (i : Int) < (g.length : Int) := by omega
    have ef : rd f (i : Int) = At f (i + 1) := rfl
    have eg : rd g (i : Int) = At g (i + 1) := rfl
    simp only [if_pos c, if_pos c1, if_pos c2, if_pos c3, ef, eg, l1In_f, Option.bind_some, decide_eq_true_eq, w64 (x := (i : Int) + 1) (by omega)]
    have no : ¬ ((-10000 ≤ At f (i + 1) ∧ At f (i + 1) ≤ 10000) ∧ (-10000 ≤ At g (i + 1) ∧ At g (i + 1) ≤ 10000)) → timesR f g = ([], false) := fun h => by
      unfold timesR
      rw [if_neg]
      rintro ⟨⟨hf, _⟩, ⟨hg, _⟩⟩
      exact h ⟨hf.at (by omega) _, hg.at (by omega) _⟩
    by_cases h1 : -10000 ≤ At f (i + 1) ∧ At f (i + 1) ≤ 10000
    · by_cases h2 : -10000 ≤ At g (i + 1) ∧ At g (i + 1) ≤ 10000
      · simp only [if_pos h1, if_pos h2]
        refine ih (i + 1) (by omega) (fun n n1 n2 => ?_)
        by_cases e : n = i + 1
        · subst e; exact ⟨h1, h2⟩
        · exact hI n n1 (by omega)
      · simp only [if_pos h1, if_neg h2]
        exact Ev.ret (no (fun h => h2 h.2)).symm
    · simp only [if_neg h1]
      exact Ev.ret (no (fun h => h1 h.1)).symm
theorem ev_sTimesOf (f g : List Int) (hf : f.length ≤ 1000000000000000) (hg : g.length ≤ 1000000000000000) : Ev (fun k => spec_TimesOf.f k f g) (timesR f g) := by
  unfold spec_TimesOf.f
  have no : ¬ ((InB f 1000000000 ∧ f.length = 24) ∧ (InB g 1000000000 ∧ g.length = 24)) → Ev (fun k => spec_TimesOf.j0 k f g true) (timesR f g) := fun h => by
    refine Ev.step (fun k => by rw [spec_TimesOf.j0]) ?_
    simp only [if_true]
    refine Ev.ret ?_
    unfold timesR
    rw [if_neg (fun x => h ⟨⟨x.1.1.mono (by omega), x.1.2⟩, ⟨x.2.1.mono (by omega), x.2.2⟩⟩)]
  refine Ev.bind (ev_sRowOk f hf) ?_
  by_cases h1 : InB f 1000000000 ∧ f.length = 24
  · simp only [decide_eq_true h1, if_true]
    refine Ev.bind (ev_sRowOk g hg) ?_
    by_cases h2 : InB g 1000000000 ∧ g.length = 24
    · simp only [decide_eq_true h2, Bool.not_true]
      refine Ev.step (fun k => by rw [spec_TimesOf.j0]) ?_
      simp only [Bool.false_eq_true, if_false]
      exact ev_sTimes_l h1.2 h2.2 24 0 (by omega) (fun n n1 n2 => by omega)
    · simp only [decide_eq_false h2, Bool.not_false]
      exact no (fun x => h2 x.2)
  · simp only [decide_eq_false h1, Bool.false_eq_true, if_false]
    exact no (fun x => h1 x.1)

theorem wf_u8 {x : Int} (h : (Lit.int .u8 x).wf = true) : 0 ≤ x ∧ x ≤ 255 := by
  simp [Lit.wf, IntKind.wrap, IntKind.bits, IntKind.signed, IntKind.min, IntKind.max] at h; omega
theorem wf_i64 {x : Int} (h : (Lit.int .i64 x).wf = true) : -9223372036854775808 ≤ x ∧ x ≤ 9223372036854775807 := by
  simp [Lit.wf, IntKind.wrap, IntKind.bits, IntKind.signed, IntKind.min, IntKind.max] at h; omega
theorem xor_nonneg (x y : Int) (h0 : 0 ≤ x) (h1 : x < 4611686018427387904) (h2 : 0 ≤ y) (h3 : y < 4611686018427387904) : 0 ≤ Go.bits .xor .i64 x y := by
  obtain ⟨a, rfl⟩ := Int.eq_ofNat_of_zero_le h0
  obtain ⟨b, rfl⟩ := Int.eq_ofNat_of_zero_le h2
  have ha : a < 2 ^ 62 := by omega
  have hb : b < 2 ^ 62 := by omega
  have hx := Nat.xor_lt_two_pow ha hb
  have ha' : a % 2 ^ 64 = a := Nat.mod_eq_of_lt (by omega)
  have hb' : b % 2 ^ 64 = b := Nat.mod_eq_of_lt (by omega)
  have e : Go.bits .xor .i64 ((a : Nat) : Int) ((b : Nat) : Int) = IntKind.i64.wrap ((a ^^^ b : Nat) : Int) := by
    simp only [Go.bits, IntKind.bits, BitVec.ofInt_natCast]
    show IntKind.i64.wrap (((BitVec.ofNat 64 a ^^^ BitVec.ofNat 64 b).toNat : Nat) : Int) = _
    rw [BitVec.toNat_xor, BitVec.toNat_ofNat, BitVec.toNat_ofNat, ha', hb']
  rw [e]
  simp only [IntKind.wrap, IntKind.bits, IntKind.signed]
  simp
  omega
/-- The bytes of a draw. -/
def Bytes (b : List Int) : Prop := b.length ≤ 2000 ∧ ∀ x ∈ b, 0 ≤ x ∧ x ≤ 255
theorem Bytes.rd {b : List Int} (hb : Bytes b) (i : Int) : 0 ≤ rd b i ∧ rd b i ≤ 255 := by
  show 0 ≤ b.getD i.toNat 0 ∧ b.getD i.toNat 0 ≤ 255
  rw [List.getD_eq_getElem?_getD]
  by_cases h : i.toNat < b.length
  · rw [List.getElem?_eq_getElem h]; exact hb.2 _ (List.getElem_mem _)
  · rw [List.getElem?_eq_none (by omega)]; simp
theorem ev_pick {b : List Int} (hb : Bytes b) (p n : Int) (hp : 0 ≤ p ∧ p ≤ 1000000) (hn : 1 ≤ n ∧ n ≤ 1000000000000) :
    ∃ r, (0 ≤ r ∧ r < n) ∧ Ev (fun k => spec_l20Rd_pick.f k b p n) (r, p + 1) := by
  have g0 : ¬ n < 1 := by omega
  unfold spec_l20Rd_pick.f
  simp only [if_neg g0, w64 (x := p + 1) (by omega)]
  have e1 : p + 1 - 1 = p := by omega
  by_cases h0 : (b.length : Int) = 0
  · refine ⟨0, by omega, Ev.step (fun k => by rw [spec_l20Rd_pick.j0]) ?_⟩
    simp only [h0, beq_self_eq_true, if_true]; exact Ev.now _
  have hl := hb.1
  have n0 : ¬ n = 0 := by omega
  by_cases h1 : p < (b.length : Int)
  · have hr := hb.rd p
    refine ⟨Int.tmod (rd b p) n, ?_, Ev.step (fun k => by rw [spec_l20Rd_pick.j0]) ?_⟩
    · rw [Int.tmod_eq_emod_of_nonneg hr.1]; exact ⟨Int.emod_nonneg _ n0, Int.emod_lt_of_pos _ (by omega)⟩
    · simp only [e1, w64 (x := p) (by omega), beq_eq_false_iff_ne.2 h0, Bool.false_eq_true, if_false, if_pos h1, if_pos hp.1, if_neg n0, w64 (x := rd b p) (by omega)]
      exact Ev.now _
  · have L0 : (0 : Int) < (b.length : Int) := by omega
    have m1 : Int.tmod p (b.length : Int) = p % (b.length : Int) := Int.tmod_eq_emod_of_nonneg hp.1
    have m2 : Int.tmod (p * 7 + 3) (b.length : Int) = (p * 7 + 3) % (b.length : Int) := Int.tmod_eq_emod_of_nonneg (by omega)
    have q1 : Int.tdiv p (b.length : Int) = p / (b.length : Int) := Int.tdiv_eq_ediv_of_nonneg hp.1
    have a1 := Int.emod_nonneg p (show (b.length : Int) ≠ 0 from h0)
    have a2 := Int.emod_lt_of_pos p L0
    have a3 := Int.emod_nonneg (p * 7 + 3) (show (b.length : Int) ≠ 0 from h0)
    have a4 := Int.emod_lt_of_pos (p * 7 + 3) L0
    have a5 : 0 ≤ p / (b.length : Int) := Int.ediv_nonneg hp.1 (by omega)
    have a6 : p / (b.length : Int) ≤ p := Int.ediv_le_self _ hp.1
    have u := hb.rd (p % (b.length : Int))
    have v := hb.rd ((p * 7 + 3) % (b.length : Int))
    generalize hU : rd b (p % (b.length : Int)) = U at *
    generalize hV : rd b ((p * 7 + 3) % (b.length : Int)) = V at *
    generalize hQ : p / (b.length : Int) = Q at *
    generalize hM : p % (b.length : Int) = M at *
    generalize hM2 : (p * 7 + 3) % (b.length : Int) = M2 at *
    generalize hX : U * 131 + V * 1117 + p * 29 + Q * 53 = X at *
    have x0 : 0 ≤ X := by omega
    have x1 : X ≤ 1000000000000 := by omega
    have d1 : Int.tdiv X 64 = X / 64 := Int.tdiv_eq_ediv_of_nonneg x0
    have y := xor_nonneg X (X / 64) x0 (by omega) (by omega) (by omega)
    refine ⟨Int.tmod (Go.bits .xor .i64 X (X / 64)) n, ?_, Ev.step (fun k => by rw [spec_l20Rd_pick.j0]) ?_⟩
    · rw [Int.tmod_eq_emod_of_nonneg y]; exact ⟨Int.emod_nonneg _ n0, Int.emod_lt_of_pos _ (by omega)⟩
    · simp only [e1, w64 (x := p) (by omega), w64 (x := p * 7) (by omega), w64 (x := p * 7 + 3) (by omega), beq_eq_false_iff_ne.2 h0, Bool.false_eq_true, if_false, if_neg h1, if_neg h0, m1, m2, q1, if_pos a1, if_pos a2, if_pos a3, if_pos a4, if_neg n0, hU, hV, w64 (x := U) (by omega), w64 (x := V) (by omega), w64 (x := U * 131) (by omega), w64 (x := V * 1117) (by omega), w64 (x := U * 131 + V * 1117) (by omega), w64 (x := p * 29) (by omega), w64 (x := U * 131 + V * 1117 + p * 29) (by omega), w64 (x := Q) (by omega), w64 (x := Q * 53) (by omega), hX, w64 (x := X) (by omega), d1, w64 (x := X / 64) (by omega)]
      exact Ev.now _

theorem ev_odd {b : List Int} (hb : Bytes b) (p n : Int) (hp : 0 ≤ p ∧ p ≤ 1000000) (hn : 1 ≤ n ∧ n ≤ 1000000) :
    ∃ r, Ev (fun k => spec_l20Rd_odd.f k b p n) (r, p + 1) := by
  obtain ⟨r, hr, e⟩ := ev_pick hb p n hp (by omega)
  unfold spec_l20Rd_odd.f
  have c : n > 0 := by omega
  simp only [gt_iff_lt, if_pos (show 0 < n from c)]
  exact ⟨_, Ev.bind e (Ev.now _)⟩

/-- Numbers that a draw may put into a row. -/
def Drawn (x : List Int) : Prop := x.length ≤ 24 ∧ InB x 2000000000
theorem ev_row_j {b : List Int} (hb : Bytes b) (n : Int) (hn : 1 ≤ n ∧ n ≤ 1000000) (x : List Int) (hx : x.length = 24) (hx2 : InB x 2000000000) (p : Int) (hp : 0 ≤ p ∧ p ≤ 999990) :
    ∃ f q, Drawn f ∧ (p ≤ q ∧ q ≤ p + 10) ∧ Ev (fun k => spec_l20Row.j1 k n x b p) (f, q) := by
  obtain ⟨o, eo⟩ := ev_odd hb p n (by omega) hn
  have go : ∀ f q, Ev (fun k => if o = true then ((spec_l20Rd_pick.f k b (p + 1) 3).bind fun bt205 => (if bt205.1 = 0 then (if 1 ≤ (x.length : Int) then (some ((x.drop (1 : Int).toNat), bt205.2)) else (none)) else (if bt205.1 = 1 then ((spec_l20Rd_pick.f k b bt205.2 24).bind fun bt210 => (if 0 ≤ bt210.1 then (if bt210.1 < (x.length : Int) then (some ((x.set (bt210.1 : Int).toNat 20000), bt210.2)) else (none)) else (none))) else (if 0 < (x.length : Int) then (some ((x.set (0 : Int).toNat 2000000000), bt205.2)) else (none))))) else (some (x, p + 1))) (f, q) →
      Ev (fun k => spec_l20Row.j1 k n x b p) (f, q) := fun f q h => by
    refine Ev.step (fun k => by rw [spec_l20Row.j1]) ?_
    exact Ev.bind eo h
  cases o with
  | false => exact ⟨x, p + 1, ⟨by omega, hx2⟩, by omega, go _ _ (by simp only [Bool.false_eq_true, if_false]; exact Ev.now _)⟩
  | true =>
    obtain ⟨r, hr, er⟩ := ev_pick hb (p + 1) 3 (by omega) (by omega)
    have set_in : ∀ (i : Nat) (v : Int), (0 ≤ v ∧ v ≤ 2000000000) → InB (x.set i v) 2000000000 := fun i v hv y hy => by
      rcases List.mem_or_eq_of_mem_set hy with h | h
      · exact hx2 y h
      · omega
    by_cases r0 : r = 0
    · refine ⟨x.drop (1 : Int).toNat, p + 1 + 1, ⟨by rw [List.length_drop]; omega, fun y hy => hx2 y (List.mem_of_mem_drop hy)⟩, by omega, go _ _ ?_⟩
      simp only [if_true]
      refine Ev.bind er ?_
      have c : 1 ≤ (x.length : Int) := by omega
      simp only [if_pos r0, if_pos c]; exact Ev.now _
    · by_cases r1 : r = 1
      · obtain ⟨s, hs, es⟩ := ev_pick hb (p + 1 + 1) 24 (by omega) (by omega)
        refine ⟨x.set s.toNat 20000, p + 1 + 1 + 1, ⟨by rw [List.length_set]; omega, set_in _ _ (by omega)⟩, by omega, go _ _ ?_⟩
        simp only [if_true]
        refine Ev.bind er ?_
        simp only [if_neg r0, if_pos r1]
        refine Ev.bind es ?_
        have c : s < (x.length : Int) := by omega
        simp only [if_pos hs.1, if_pos c]; exact Ev.now _
      · refine ⟨x.set (0 : Int).toNat 2000000000, p + 1 + 1, ⟨by rw [List.length_set]; omega, set_in _ _ (by omega)⟩, by omega, go _ _ ?_⟩
        simp only [if_true]
        refine Ev.bind er ?_
        have c : 0 < (x.length : Int) := by omega
        simp only [if_neg r0, if_neg r1, if_pos c]; exact Ev.now _
theorem ev_row_l {b : List Int} (hb : Bytes b) (n : Int) (hn : 1 ≤ n ∧ n ≤ 1000000) : ∀ (m i : Nat) (x : List Int) (p : Int), i + m = 24 → x.length = i → InB x 2000000000 → (0 ≤ p ∧ p ≤ 999960 - m) →
    ∃ f q, Drawn f ∧ (p ≤ q ∧ q ≤ p + m + 10) ∧ Ev (fun k => spec_l20Row.l0 k n x (i : Int) b p) (f, q) := by
  intro m
  induction m with
  | zero =>
    intro i x p hi hx hx2 hp
    obtain ⟨f, q, hf, hq, e⟩ := ev_row_j hb n hn x (by omega) hx2 p (by omega)
    refine ⟨f, q, hf, by omega, Ev.step (fun k => by rw [spec_l20Row.l0]) ?_⟩
    have c : ¬ (i : Int) < 24 := by omega
    simp only [if_neg c]; exact e
  | succ m ih =>
    intro i x p hi hx hx2 hp
    obtain ⟨r, hr, er⟩ := ev_pick hb p 7 (by omega) (by omega)
    obtain ⟨f, q, hf, hq, e⟩ := ih (i + 1) (x ++ [r - 3]) (p + 1) (by omega) (by simp [hx]) (fun y hy => by
      rcases List.mem_append.1 hy with h | h
      · exact hx2 y h
      · have := List.mem_singleton.1 h; omega) (by omega)
    refine ⟨f, q, hf, by omega, Ev.step (fun k => by rw [spec_l20Row.l0]) ?_⟩
    have c : (i : Int) < 24 := by omega
    have c2 : x.length < 17592186044416 := by omega
    simp only [if_pos c, if_pos c2, w64 (x := (i : Int) + 1) (by omega)]
    refine Ev.bind er ?_
    simp only [w64 (x := r - 3) (by omega)]
    exact e
theorem ev_row {b : List Int} (hb : Bytes b) (p n : Int) (hp : 0 ≤ p ∧ p ≤ 999900) (hn : 1 ≤ n ∧ n ≤ 1000000) :
    ∃ f q, Drawn f ∧ (p ≤ q ∧ q ≤ p + 40) ∧ Ev (fun k => spec_l20Row.f k b p n) (f, q) := by
  obtain ⟨r1, b1, e1⟩ := ev_pick hb p 8 (by omega) (by omega)
  obtain ⟨i, rfl⟩ := Int.eq_ofNat_of_zero_le b1.1
  have en := ev_sNamedRow i (by omega)
  obtain ⟨r2, b2, e2⟩ := ev_pick hb (p + 1) 3 (by omega) (by omega)
  have li := named_length i
  have bi := named_in i
  by_cases z0 : r2 = 0
  · obtain ⟨f, q, hf, hq, e⟩ := ev_row_l hb n hn 24 0 [] (p + 1 + 1) (by omega) rfl (InB_nil _) (by omega)
    refine ⟨f, q, hf, by omega, ?_⟩
    unfold spec_l20Row.f
    refine Ev.bind e1 (Ev.bind en (Ev.bind e2 ?_))
    simp only [if_pos z0]; exact e
  · by_cases z1 : r2 = 1
    · obtain ⟨r3, b3, e3⟩ := ev_pick hb (p + 1 + 1) 8 (by omega) (by omega)
      obtain ⟨j, rfl⟩ := Int.eq_ofNat_of_zero_le b3.1
      have ej := ev_sNamedRow j (by omega)
      have lj := named_length j
      have bj := named_in j
      have hr : timesR (named i) (named j) = (times (named i) (named j), true) := by
        unfold timesR; rw [if_pos ⟨⟨bi.mono (by omega), li⟩, ⟨bj.mono (by omega), lj⟩⟩]
      have ht : InB (times (named i) (named j)) 2000000000 := by
        rw [InB_iff_At (times_length _ _)]
        intro m m1 m2
        rw [At_times _ _ m ⟨m1, m2⟩]
        have h := isum_bound (l := (divs m).map (term (named i) (named j) m)) (B := 3600) (by omega) (fun x hx => by
          obtain ⟨d, _, rfl⟩ := List.mem_map.1 hx
          have := mul_in (bi.at (by omega) d) (bj.at (by omega) (m / d)) (by omega)
          unfold term; omega)
        rw [List.length_map] at h
        have := length_divs_le m
        unfold conv
        omega
      obtain ⟨f, q, hf, hq, e⟩ := ev_row_j hb n hn (times (named i) (named j)) (times_length _ _) ht (p + 1 + 1 + 1) (by omega)
      refine ⟨f, q, hf, by omega, ?_⟩
      unfold spec_l20Row.f
      refine Ev.bind e1 (Ev.bind en (Ev.bind e2 ?_))
      simp only [if_neg z0, if_pos z1]
      refine Ev.bind e3 (Ev.bind ej (Ev.bind (Ev.to (ev_sTimesOf (named i) (named j) (by omega) (by omega)) hr) ?_))
      exact e
    · obtain ⟨f, q, hf, hq, e⟩ := ev_row_j hb n hn (named i) li (bi.mono (by omega)) (p + 1 + 1) (by omega)
      refine ⟨f, q, hf, by omega, ?_⟩
      unfold spec_l20Row.f
      refine Ev.bind e1 (Ev.bind en (Ev.bind e2 ?_))
      simp only [if_neg z0, if_neg z1]; exact e

theorem ev_unit {b : List Int} (hb : Bytes b) (p n : Int) (hp : 0 ≤ p ∧ p ≤ 999800) (hn : 1 ≤ n ∧ n ≤ 1000000) :
    ∃ f q, Drawn f ∧ (p ≤ q ∧ q ≤ p + 50) ∧ Ev (fun k => spec_l20Unit.f k b p n) (f, q) := by
  obtain ⟨f, q, hf, hq, ef⟩ := ev_row hb p n (by omega) hn
  unfold spec_l20Unit.f
  by_cases h0 : (f.length : Int) > 0
  · obtain ⟨o, eo⟩ := ev_odd hb q 8 (by omega) (by omega)
    obtain ⟨r, hr, er⟩ := ev_pick hb (q + 1) 2 (by omega) (by omega)
    have h0' : 0 < (f.length : Int) := h0
    by_cases ho : o = true
    · refine ⟨f, q + 1, hf, by omega, Ev.bind ef ?_⟩
      simp only [if_pos h0]
      refine Ev.bind eo ?_
      simp only [if_pos ho]; exact Ev.now _
    · by_cases hi : -10000 ≤ rd f 0 ∧ rd f 0 ≤ 10000
      · refine ⟨f.set (0 : Int).toNat (1 - 2 * r), q + 1 + 1, ⟨by rw [List.length_set]; exact hf.1, fun y hy => ?_⟩, by omega, Ev.bind ef ?_⟩
        · rcases List.mem_or_eq_of_mem_set hy with h | h
          · exact hf.2 y h
          · omega
        · simp only [if_pos h0]
          refine Ev.bind eo ?_
          simp only [if_neg ho, if_pos h0', l1In_f, Option.bind_some, decide_eq_true hi, if_true]
          refine Ev.bind er ?_
          simp only [w64 (x := 2 * r) (by omega), w64 (x := 1 - 2 * r) (by omega)]
          exact Ev.now _
      · refine ⟨f, q + 1, hf, by omega, Ev.bind ef ?_⟩
        simp only [if_pos h0]
        refine Ev.bind eo ?_
        simp only [if_neg ho, if_pos h0', l1In_f, Option.bind_some, decide_eq_false hi, Bool.false_eq_true, if_false]
        exact Ev.now _
  · refine ⟨f, q, hf, by omega, Ev.bind ef ?_⟩
    simp only [if_neg h0]; exact Ev.now _

/-- What is left of a row at a number, when the products over the lesser divisors are taken away. -/
def dvLeft (f g out : List Int) (n : Nat) : Int := At g n - isum (((divs n).filter (fun d => decide (d < n))).map (fun d => At out d * At f (n / d)))
def dvV (f g out : List Int) (n : Nat) : Int := dvLeft f g out n * At f 1
/-- The row, number by number; nothing as soon as one is no number of a row. -/
def dvF : Nat → List Int → List Int → List Int → Nat → List Int × Bool
  | 0, _, _, out, _ => (out, true)
  | m + 1, f, g, out, n => if -1000000000 ≤ dvV f g out n ∧ dvV f g out n ≤ 1000000000 then dvF m f g (out.set (n - 1) (dvV f g out n)) (n + 1) else ([], false)
def unitB' (f : List Int) : Prop := At f 1 = 1 ∨ At f 1 = -1
instance (f : List Int) : Decidable (unitB' f) := by unfold unitB'; infer_instance
/-- What DividedOf tells. -/
def dvR (g f : List Int) : List Int × Bool :=
  if ((InB f 10000 ∧ f.length = 24) ∧ unitB' f) ∧ (InB g 10000 ∧ g.length = 24) then dvF 24 f g (List.replicate 24 0) 1 else ([], false)
theorem dvF_length : ∀ (m : Nat) (f g out : List Int) (n : Nat), out.length = 24 → (dvF m f g out n).1.length ≤ 24 ∧ ((dvF m f g out n).2 = true → (dvF m f g out n).1.length = 24) ∧ ((dvF m f g out n).2 = false → (dvF m f g out n).1 = []) := by
  intro m
  induction m with
  | zero => intro f g out n h; exact ⟨Nat.le_of_eq h, fun _ => h, fun x => by cases x⟩
  | succ m ih =>
    intro f g out n h
    unfold dvF
    split
    · exact ih f g _ (n + 1) (by rw [List.length_set]; exact h)
    · exact ⟨by simp, (fun x => by cases x), fun _ => rfl⟩
theorem dvR_length (g f : List Int) : (dvR g f).1.length ≤ 24 ∧ ((dvR g f).2 = true → (dvR g f).1.length = 24) ∧ ((dvR g f).2 = false → (dvR g f).1 = []) := by
  unfold dvR
  split
  · exact dvF_length 24 f g _ 1 (by simp)
  · exact ⟨by simp, (fun x => by cases x), fun _ => rfl⟩
theorem dv_term_in {f out : List Int} (hf : InB f 10000) (ho : InB out 1000000000) (a b : Nat) : -10000000000000 ≤ At out a * At f b ∧ At out a * At f b ≤ 10000000000000 := by
  have h1 := ho.at (by omega) a
  have h2 := hf.at (by omega) b
  have a1 : (At out a).natAbs ≤ 1000000000 := by omega
  have a2 : (At f b).natAbs ≤ 10000 := by omega
  have a3 := Nat.mul_le_mul a1 a2
  rw [← Int.natAbs_mul] at a3
  omega
theorem dv_sum_in {f out : List Int} (hf : InB f 10000) (ho : InB out 1000000000) (l : List Nat) (hl : l.length ≤ 1000) (u v : Nat → Nat) : -10000000000000000 ≤ isum (l.map (fun d => At out (u d) * At f (v d))) ∧ isum (l.map (fun d => At out (u d) * At f (v d))) ≤ 10000000000000000 := by
  have h := isum_bound (l := l.map (fun d => At out (u d) * At f (v d))) (B := 10000000000000) (by omega) (fun x hx => by
    obtain ⟨d, _, rfl⟩ := List.mem_map.1 hx; exact dv_term_in hf ho _ _)
  rw [List.length_map] at h
  omega
theorem mul_unit {x u : Int} (h : u = 1 ∨ u = -1) : x * u = x ∨ x * u = -x := by
  rcases h with h | h <;> rw [h] <;> simp
theorem isum_take (l : List Nat) (t : Nat → Int) (p : Nat → Bool) (i : Nat) (h : i < l.length) :
    isum (((l.take (i + 1)).filter p).map t) = isum (((l.take i).filter p).map t) + if p (l.getD i 0) = true then t (l.getD i 0) else 0 := by
  rw [List.take_succ_eq_append_getElem h, List.filter_append, List.map_append, isum_append]
  have e : l[i] = l.getD i 0 := by rw [List.getD_eq_getElem?_getD, List.getElem?_eq_getElem h]; rfl
  rw [e, List.filter_cons, List.filter_nil]
  by_cases z : p (l.getD i 0) = true
  · rw [if_pos z, if_pos z]; simp [isum]
  · rw [if_neg z, if_neg z]; simp [isum]
theorem getL_mem (l : List Nat) (i : Nat) (h : i < l.length) : l.getD i 0 ∈ l := by
  rw [List.getD_eq_getElem?_getD, List.getElem?_eq_getElem h]; exact List.getElem_mem _
theorem ints_get (l : List Nat) (i : Nat) : rd (l.map (fun x : Nat => (x : Int))) (i : Int) = ((l.getD i 0 : Nat) : Int) := by
  show (l.map (fun x : Nat => (x : Int))).getD i 0 = _
  simp only [List.getD_eq_getElem?_getD, List.getElem?_map]
  cases l[i]? <;> simp

theorem conv_1 (f g : List Int) : conv f g 1 = At f 1 * At g 1 := by
  have e : divs 1 = [1] := by decide +kernel
  unfold conv; rw [e]; simp only [List.map_cons, List.map_nil, term, isum, Int.add_zero, Nat.reduceDiv]
theorem conv_2 (f g : List Int) : conv f g 2 = At f 1 * At g 2 + (At f 2 * At g 1) := by
  have e : divs 2 = [1, 2] := by decide +kernel
  unfold conv; rw [e]; simp only [List.map_cons, List.map_nil, term, isum, Int.add_zero, Nat.reduceDiv]
theorem conv_3 (f g : List Int) : conv f g 3 = At f 1 * At g 3 + (At f 3 * At g 1) := by
  have e : divs 3 = [1, 3] := by decide +kernel
  unfold conv; rw [e]; simp only [List.map_cons, List.map_nil, term, isum, Int.add_zero, Nat.reduceDiv]
theorem conv_4 (f g : List Int) : conv f g 4 = At f 1 * At g 4 + (At f 2 * At g 2 + (At f 4 * At g 1)) := by
  have e : divs 4 = [1, 2, 4] := by decide +kernel
  unfold conv; rw [e]; simp only [List.map_cons, List.map_nil, term, isum, Int.add_zero, Nat.reduceDiv]
theorem conv_5 (f g : List Int) : conv f g 5 = At f 1 * At g 5 + (At f 5 * At g 1) := by
  have e : divs 5 = [1, 5] := by decide +kernel
  unfold conv; rw [e]; simp only [List.map_cons, List.map_nil, term, isum, Int.add_zero, Nat.reduceDiv]
theorem conv_6 (f g : List Int) : conv f g 6 = At f 1 * At g 6 + (At f 2 * At g 3 + (At f 3 * At g 2 + (At f 6 * At g 1))) := by
  have e : divs 6 = [1, 2, 3, 6] := by decide +kernel
  unfold conv; rw [e]; simp only [List.map_cons, List.map_nil, term, isum, Int.add_zero, Nat.reduceDiv]
theorem conv_7 (f g : List Int) : conv f g 7 = At f 1 * At g 7 + (At f 7 * At g 1) := by
  have e : divs 7 = [1, 7] := by decide +kernel
  unfold conv; rw [e]; simp only [List.map_cons, List.map_nil, term, isum, Int.add_zero, Nat.reduceDiv]
theorem conv_8 (f g : List Int) : conv f g 8 = At f 1 * At g 8 + (At f 2 * At g 4 + (At f 4 * At g 2 + (At f 8 * At g 1))) := by
  have e : divs 8 = [1, 2, 4, 8] := by decide +kernel
  unfold conv; rw [e]; simp only [List.map_cons, List.map_nil, term, isum, Int.add_zero, Nat.reduceDiv]
theorem conv_9 (f g : List Int) : conv f g 9 = At f 1 * At g 9 + (At f 3 * At g 3 + (At f 9 * At g 1)) := by
  have e : divs 9 = [1, 3, 9] := by decide +kernel
  unfold conv; rw [e]; simp only [List.map_cons, List.map_nil, term, isum, Int.add_zero, Nat.reduceDiv]
theorem conv_10 (f g : List Int) : conv f g 10 = At f 1 * At g 10 + (At f 2 * At g 5 + (At f 5 * At g 2 + (At f 10 * At g 1))) := by
  have e : divs 10 = [1, 2, 5, 10] := by decide +kernel
  unfold conv; rw [e]; simp only [List.map_cons, List.map_nil, term, isum, Int.add_zero, Nat.reduceDiv]
theorem conv_11 (f g : List Int) : conv f g 11 = At f 1 * At g 11 + (At f 11 * At g 1) := by
  have e : divs 11 = [1, 11] := by decide +kernel
  unfold conv; rw [e]; simp only [List.map_cons, List.map_nil, term, isum, Int.add_zero, Nat.reduceDiv]
theorem conv_12 (f g : List Int) : conv f g 12 = At f 1 * At g 12 + (At f 2 * At g 6 + (At f 3 * At g 4 + (At f 4 * At g 3 + (At f 6 * At g 2 + (At f 12 * At g 1))))) := by
  have e : divs 12 = [1, 2, 3, 4, 6, 12] := by decide +kernel
  unfold conv; rw [e]; simp only [List.map_cons, List.map_nil, term, isum, Int.add_zero, Nat.reduceDiv]
theorem conv_13 (f g : List Int) : conv f g 13 = At f 1 * At g 13 + (At f 13 * At g 1) := by
  have e : divs 13 = [1, 13] := by decide +kernel
  unfold conv; rw [e]; simp only [List.map_cons, List.map_nil, term, isum, Int.add_zero, Nat.reduceDiv]
theorem conv_14 (f g : List Int) : conv f g 14 = At f 1 * At g 14 + (At f 2 * At g 7 + (At f 7 * At g 2 + (At f 14 * At g 1))) := by
  have e : divs 14 = [1, 2, 7, 14] := by decide +kernel
  unfold conv; rw [e]; simp only [List.map_cons, List.map_nil, term, isum, Int.add_zero, Nat.reduceDiv]
theorem conv_15 (f g : List Int) : conv f g 15 = At f 1 * At g 15 + (At f 3 * At g 5 + (At f 5 * At g 3 + (At f 15 * At g 1))) := by
  have e : divs 15 = [1, 3, 5, 15] := by decide +kernel
  unfold conv; rw [e]; simp only [List.map_cons, List.map_nil, term, isum, Int.add_zero, Nat.reduceDiv]
theorem conv_16 (f g : List Int) : conv f g 16 = At f 1 * At g 16 + (At f 2 * At g 8 + (At f 4 * At g 4 + (At f 8 * At g 2 + (At f 16 * At g 1)))) := by
  have e : divs 16 = [1, 2, 4, 8, 16] := by decide +kernel
  unfold conv; rw [e]; simp only [List.map_cons, List.map_nil, term, isum, Int.add_zero, Nat.reduceDiv]
theorem conv_17 (f g : List Int) : conv f g 17 = At f 1 * At g 17 + (At f 17 * At g 1) := by
  have e : divs 17 = [1, 17] := by decide +kernel
  unfold conv; rw [e]; simp only [List.map_cons, List.map_nil, term, isum, Int.add_zero, Nat.reduceDiv]
theorem conv_18 (f g : List Int) : conv f g 18 = At f 1 * At g 18 + (At f 2 * At g 9 + (At f 3 * At g 6 + (At f 6 * At g 3 + (At f 9 * At g 2 + (At f 18 * At g 1))))) := by
  have e : divs 18 = [1, 2, 3, 6, 9, 18] := by decide +kernel
  unfold conv; rw [e]; simp only [List.map_cons, List.map_nil, term, isum, Int.add_zero, Nat.reduceDiv]
theorem conv_19 (f g : List Int) : conv f g 19 = At f 1 * At g 19 + (At f 19 * At g 1) := by
  have e : divs 19 = [1, 19] := by decide +kernel
  unfold conv; rw [e]; simp only [List.map_cons, List.map_nil, term, isum, Int.add_zero, Nat.reduceDiv]
theorem conv_20 (f g : List Int) : conv f g 20 = At f 1 * At g 20 + (At f 2 * At g 10 + (At f 4 * At g 5 + (At f 5 * At g 4 + (At f 10 * At g 2 + (At f 20 * At g 1))))) := by
  have e : divs 20 = [1, 2, 4, 5, 10, 20] := by decide +kernel
  unfold conv; rw [e]; simp only [List.map_cons, List.map_nil, term, isum, Int.add_zero, Nat.reduceDiv]
theorem conv_21 (f g : List Int) : conv f g 21 = At f 1 * At g 21 + (At f 3 * At g 7 + (At f 7 * At g 3 + (At f 21 * At g 1))) := by
  have e : divs 21 = [1, 3, 7, 21] := by decide +kernel
  unfold conv; rw [e]; simp only [List.map_cons, List.map_nil, term, isum, Int.add_zero, Nat.reduceDiv]
theorem conv_22 (f g : List Int) : conv f g 22 = At f 1 * At g 22 + (At f 2 * At g 11 + (At f 11 * At g 2 + (At f 22 * At g 1))) := by
  have e : divs 22 = [1, 2, 11, 22] := by decide +kernel
  unfold conv; rw [e]; simp only [List.map_cons, List.map_nil, term, isum, Int.add_zero, Nat.reduceDiv]
theorem conv_23 (f g : List Int) : conv f g 23 = At f 1 * At g 23 + (At f 23 * At g 1) := by
  have e : divs 23 = [1, 23] := by decide +kernel
  unfold conv; rw [e]; simp only [List.map_cons, List.map_nil, term, isum, Int.add_zero, Nat.reduceDiv]
theorem conv_24 (f g : List Int) : conv f g 24 = At f 1 * At g 24 + (At f 2 * At g 12 + (At f 3 * At g 8 + (At f 4 * At g 6 + (At f 6 * At g 4 + (At f 8 * At g 3 + (At f 12 * At g 2 + (At f 24 * At g 1))))))) := by
  have e : divs 24 = [1, 2, 3, 4, 6, 8, 12, 24] := by decide +kernel
  unfold conv; rw [e]; simp only [List.map_cons, List.map_nil, term, isum, Int.add_zero, Nat.reduceDiv]
theorem At_times_1 (f g : List Int) : At (times f g) 1 = conv f g 1 := At_times f g 1 (by omega)
theorem At_times_2 (f g : List Int) : At (times f g) 2 = conv f g 2 := At_times f g 2 (by omega)
theorem At_times_3 (f g : List Int) : At (times f g) 3 = conv f g 3 := At_times f g 3 (by omega)
theorem At_times_4 (f g : List Int) : At (times f g) 4 = conv f g 4 := At_times f g 4 (by omega)
theorem At_times_5 (f g : List Int) : At (times f g) 5 = conv f g 5 := At_times f g 5 (by omega)
theorem At_times_6 (f g : List Int) : At (times f g) 6 = conv f g 6 := At_times f g 6 (by omega)
theorem At_times_7 (f g : List Int) : At (times f g) 7 = conv f g 7 := At_times f g 7 (by omega)
theorem At_times_8 (f g : List Int) : At (times f g) 8 = conv f g 8 := At_times f g 8 (by omega)
theorem At_times_9 (f g : List Int) : At (times f g) 9 = conv f g 9 := At_times f g 9 (by omega)
theorem At_times_10 (f g : List Int) : At (times f g) 10 = conv f g 10 := At_times f g 10 (by omega)
theorem At_times_11 (f g : List Int) : At (times f g) 11 = conv f g 11 := At_times f g 11 (by omega)
theorem At_times_12 (f g : List Int) : At (times f g) 12 = conv f g 12 := At_times f g 12 (by omega)
theorem At_times_13 (f g : List Int) : At (times f g) 13 = conv f g 13 := At_times f g 13 (by omega)
theorem At_times_14 (f g : List Int) : At (times f g) 14 = conv f g 14 := At_times f g 14 (by omega)
theorem At_times_15 (f g : List Int) : At (times f g) 15 = conv f g 15 := At_times f g 15 (by omega)
theorem At_times_16 (f g : List Int) : At (times f g) 16 = conv f g 16 := At_times f g 16 (by omega)
theorem At_times_17 (f g : List Int) : At (times f g) 17 = conv f g 17 := At_times f g 17 (by omega)
theorem At_times_18 (f g : List Int) : At (times f g) 18 = conv f g 18 := At_times f g 18 (by omega)
theorem At_times_19 (f g : List Int) : At (times f g) 19 = conv f g 19 := At_times f g 19 (by omega)
theorem At_times_20 (f g : List Int) : At (times f g) 20 = conv f g 20 := At_times f g 20 (by omega)
theorem At_times_21 (f g : List Int) : At (times f g) 21 = conv f g 21 := At_times f g 21 (by omega)
theorem At_times_22 (f g : List Int) : At (times f g) 22 = conv f g 22 := At_times f g 22 (by omega)
theorem At_times_23 (f g : List Int) : At (times f g) 23 = conv f g 23 := At_times f g 23 (by omega)
theorem At_times_24 (f g : List Int) : At (times f g) 24 = conv f g 24 := At_times f g 24 (by omega)
theorem upTo24 {P : Nat → Prop} (h1 : P 1) (h2 : P 2) (h3 : P 3) (h4 : P 4) (h5 : P 5) (h6 : P 6) (h7 : P 7) (h8 : P 8) (h9 : P 9) (h10 : P 10) (h11 : P 11) (h12 : P 12) (h13 : P 13) (h14 : P 14) (h15 : P 15) (h16 : P 16) (h17 : P 17) (h18 : P 18) (h19 : P 19) (h20 : P 20) (h21 : P 21) (h22 : P 22) (h23 : P 23) (h24 : P 24) : ∀ n, 1 ≤ n → n ≤ 24 → P n := by
  intro n n1 n2
  have : n = 1 ∨ n = 2 ∨ n = 3 ∨ n = 4 ∨ n = 5 ∨ n = 6 ∨ n = 7 ∨ n = 8 ∨ n = 9 ∨ n = 10 ∨ n = 11 ∨ n = 12 ∨ n = 13 ∨ n = 14 ∨ n = 15 ∨ n = 16 ∨ n = 17 ∨ n = 18 ∨ n = 19 ∨ n = 20 ∨ n = 21 ∨ n = 22 ∨ n = 23 ∨ n = 24 := by omega
  rcases this with rfl | rfl | rfl | rfl | rfl | rfl | rfl | rfl | rfl | rfl | rfl | rfl | rfl | rfl | rfl | rfl | rfl | rfl | rfl | rfl | rfl | rfl | rfl | rfl <;> assumption
theorem times_comm (f g : List Int) : times f g = times g f := by
  refine ext_At (times_length f g) (times_length g f) ?_
  refine upTo24 ?_ ?_ ?_ ?_ ?_ ?_ ?_ ?_ ?_ ?_ ?_ ?_ ?_ ?_ ?_ ?_ ?_ ?_ ?_ ?_ ?_ ?_ ?_ ?_ <;> simp only [At_times_1, At_times_2, At_times_3, At_times_4, At_times_5, At_times_6, At_times_7, At_times_8, At_times_9, At_times_10, At_times_11, At_times_12, At_times_13, At_times_14, At_times_15, At_times_16, At_times_17, At_times_18, At_times_19, At_times_20, At_times_21, At_times_22, At_times_23, At_times_24, conv_1, conv_2, conv_3, conv_4, conv_5, conv_6, conv_7, conv_8, conv_9, conv_10, conv_11, conv_12, conv_13, conv_14, conv_15, conv_16, conv_17, conv_18, conv_19, conv_20, conv_21, conv_22, conv_23, conv_24] <;> grind
theorem times_assoc (f g h : List Int) : times (times f g) h = times f (times g h) := by
  refine ext_At (times_length _ _) (times_length _ _) ?_
  refine upTo24 ?_ ?_ ?_ ?_ ?_ ?_ ?_ ?_ ?_ ?_ ?_ ?_ ?_ ?_ ?_ ?_ ?_ ?_ ?_ ?_ ?_ ?_ ?_ ?_ <;> simp only [At_times_1, At_times_2, At_times_3, At_times_4, At_times_5, At_times_6, At_times_7, At_times_8, At_times_9, At_times_10, At_times_11, At_times_12, At_times_13, At_times_14, At_times_15, At_times_16, At_times_17, At_times_18, At_times_19, At_times_20, At_times_21, At_times_22, At_times_23, At_times_24, conv_1, conv_2, conv_3, conv_4, conv_5, conv_6, conv_7, conv_8, conv_9, conv_10, conv_11, conv_12, conv_13, conv_14, conv_15, conv_16, conv_17, conv_18, conv_19, conv_20, conv_21, conv_22, conv_23, conv_24] <;> grind

theorem divs_len8 : ∀ n : Nat, n < 25 → (divs n).length ≤ 8 := by decide +kernel
/-- A product of two rows is a row. -/
theorem times_in {f g : List Int} (hf : InB f 10000) (hg : InB g 10000) : InB (times f g) 1000000000 := by
  rw [InB_iff_At (times_length f g)]
  intro n n1 n2
  rw [At_times f g n ⟨n1, n2⟩]
  unfold conv
  have h := isum_bound (l := (divs n).map (term f g n)) (B := 100000000) (by omega) (fun x hx => by
    obtain ⟨d, _, rfl⟩ := List.mem_map.1 hx; exact term_in hf hg n d)
  rw [List.length_map] at h
  have := divs_len8 n (by omega)
  omega
theorem conv_one (f g : List Int) : conv f g 1 = At f 1 * At g 1 := by
  have e : divs 1 = [1] := by decide
  unfold conv
  rw [e]
  simp [term, isum]
theorem At_times_one (f g : List Int) : At (times f g) 1 = At f 1 * At g 1 := by
  rw [At_times f g 1 (by omega), conv_one]
theorem timesR_told {f g : List Int} (h : (timesR f g).2 = true) : ((InB f 10000 ∧ f.length = 24) ∧ (InB g 10000 ∧ g.length = 24)) ∧ (timesR f g).1 = times f g := by
  unfold timesR at *
  by_cases c : (InB f 10000 ∧ f.length = 24) ∧ (InB g 10000 ∧ g.length = 24)
  · rw [if_pos c]; exact ⟨c, rfl⟩
  · rw [if_neg c] at h; cases h
theorem timesR_none {f g : List Int} (h : (timesR f g).2 = false) : timesR f g = ([], false) := by
  unfold timesR at *
  by_cases c : (InB f 10000 ∧ f.length = 24) ∧ (InB g 10000 ∧ g.length = 24)
  · rw [if_pos c] at h; cases h
  · rw [if_neg c]

theorem conv_split (q f : List Int) (n : Nat) (hn : 1 ≤ n) : conv q f n = isum (((divs n).filter (fun d => decide (d < n))).map (fun d => At q d * At f (n / d))) + At q n * At f 1 := by
  have e : divs n = lowD n n ++ [n] := by
    have h := lowD_succ n n hn
    rw [if_pos (Nat.mod_self n)] at h
    exact h
  have e1 : (lowD n n).filter (fun d => decide (d < n)) = lowD n n := by
    rw [List.filter_eq_self]
    intro a ha
    have := (mem_lowD.1 ha)
    simp; omega
  have e2 : (divs n).filter (fun d => decide (d < n)) = lowD n n := by
    rw [e, List.filter_append, e1]; simp
  rw [e2]
  unfold conv
  rw [e, List.map_append, isum_append]
  have e3 : n / n = 1 := Nat.div_self (by omega)
  simp only [List.map_cons, List.map_nil, isum, term, e3, Int.add_zero]
  rfl
theorem dvLeft_congr {f g a b : List Int} {n : Nat} (h : ∀ j, 1 ≤ j → j < n → At a j = At b j) : dvLeft f g a n = dvLeft f g b n := by
  unfold dvLeft
  congr 1
  refine isum_congr (fun d hd => ?_)
  have hm := List.mem_filter.1 hd
  rw [h d (mem_divs.1 hm.1).1 (by simpa using hm.2)]
theorem dvF_spec {f g : List Int} : ∀ (m n : Nat) (out : List Int), n + m = 25 → 1 ≤ n → out.length = 24 → (dvF m f g out n).2 = true →
    (∀ j, 1 ≤ j → j < n → At (dvF m f g out n).1 j = At out j) ∧ (∀ j, n ≤ j → j ≤ 24 → At (dvF m f g out n).1 j = dvV f g (dvF m f g out n).1 j ∧ (-1000000000 ≤ At (dvF m f g out n).1 j ∧ At (dvF m f g out n).1 j ≤ 1000000000)) := by
  intro m
  induction m with
  | zero => intro n out hn h1 lo h; exact ⟨fun j _ _ => rfl, fun j a b => by omega⟩
  | succ m ih =>
    intro n out hn h1 lo h
    have e : dvF (m + 1) f g out n = if -1000000000 ≤ dvV f g out n ∧ dvV f g out n ≤ 1000000000 then dvF m f g (out.set (n - 1) (dvV f g out n)) (n + 1) else ([], false) := rfl
    rw [e] at h ⊢
    by_cases c : -1000000000 ≤ dvV f g out n ∧ dvV f g out n ≤ 1000000000
    · rw [if_pos c] at h ⊢
      have z := ih (n + 1) (out.set (n - 1) (dvV f g out n)) (by omega) (by omega) (by rw [List.length_set]; exact lo) h
      generalize (dvF m f g (out.set (n - 1) (dvV f g out n)) (n + 1)).1 = q at *
      have low : ∀ j, 1 ≤ j → j < n → At q j = At out j := fun j j1 j2 => by
        rw [z.1 j j1 (by omega), At_set out n _ j (by omega) (by omega) j1, if_neg (by omega)]
      refine ⟨low, fun j j1 j2 => ?_⟩
      by_cases e : j = n
      · subst e
        have eq : At q j = dvV f g out j := by rw [z.1 j h1 (by omega), At_set out j _ j (by omega) (by omega) h1, if_pos rfl]
        rw [eq]
        refine ⟨?_, c⟩
        unfold dvV
        rw [dvLeft_congr low]
      · exact z.2 j (by omega) j2
    · rw [if_neg c] at h; cases h
theorem dvR_told {f g : List Int} (h : (dvR g f).2 = true) : (((InB f 10000 ∧ f.length = 24) ∧ unitB' f) ∧ (InB g 10000 ∧ g.length = 24)) ∧ (dvR g f).1.length = 24 ∧ InB (dvR g f).1 1000000000 ∧ ∀ n, 1 ≤ n → n ≤ 24 → At (dvR g f).1 n = dvV f g (dvR g f).1 n := by
  have hl := (dvR_length g f).2.1 h
  by_cases c : ((InB f 10000 ∧ f.length = 24) ∧ unitB' f) ∧ (InB g 10000 ∧ g.length = 24)
  · refine ⟨c, hl, ?_⟩
    have e : dvR g f = dvF 24 f g (List.replicate 24 0) 1 := by unfold dvR; rw [if_pos c]
    rw [e] at h hl ⊢
    have z := dvF_spec 24 1 (List.replicate 24 0) (by omega) (by omega) (by simp) h
    exact ⟨(InB_iff_At hl _).2 (fun n n1 n2 => (z.2 n n1 n2).2), fun n n1 n2 => (z.2 n n1 n2).1⟩
  · unfold dvR at h; rw [if_neg c] at h; cases h
theorem unit_sq {f : List Int} (h : unitB' f) : At f 1 * At f 1 = 1 := by
  rcases h with h | h <;> rw [h] <;> decide
/-- The quotient, multiplied again, is what was divided. -/
theorem dvR_times {f g : List Int} (h : (dvR g f).2 = true) : times (dvR g f).1 f = g := by
  obtain ⟨c, lq, iq, e⟩ := dvR_told h
  refine ext_At (times_length _ _) c.2.2 (fun n n1 n2 => ?_)
  rw [At_times _ _ n ⟨n1, n2⟩, conv_split _ _ n n1, e n n1 n2]
  unfold dvV
  rw [Int.mul_assoc, unit_sq c.1.2, Int.mul_one]
  unfold dvLeft
  omega
/-- A row whose product is the one that is divided is the quotient. -/
theorem dvR_unique {f g p : List Int} (h : (dvR g f).2 = true) (lp : p.length = 24) (hp : times p f = g) : (dvR g f).1 = p := by
  obtain ⟨c, lq, iq, e⟩ := dvR_told h
  refine ext_At lq lp (fun n => ?_)
  induction n using Nat.strongRecOn with
  | _ n ih =>
    intro n1 n2
    rw [e n n1 n2]
    unfold dvV
    rw [dvLeft_congr (b := p) (fun j j1 j2 => ih j j2 j1 (by omega))]
    have z := conv_split p f n n1
    rw [← At_times p f n ⟨n1, n2⟩, hp] at z
    have w : dvLeft f g p n = At p n * At f 1 := by unfold dvLeft; omega
    rw [w, Int.mul_assoc, unit_sq c.1.2, Int.mul_one]

theorem ext_getD {a b : List Int} (h : a.length = b.length) (e : ∀ t, t < a.length → a.getD t 0 = b.getD t 0) : a = b := by
  refine List.ext_getElem h (fun t h1 h2 => ?_)
  have := e t h1
  simpa [List.getD_eq_getElem?_getD, List.getElem?_eq_getElem h1, List.getElem?_eq_getElem h2] using this
theorem getD_set (a : List Int) (i : Nat) (x : Int) (t : Nat) (h : i < a.length) : (a.set i x).getD t 0 = if t = i then x else a.getD t 0 := by
  simp only [List.getD_eq_getElem?_getD, List.getElem?_set]
  by_cases e : i = t
  · subst e; simp [h]
  · simp [e, Ne.symm e]
def RevAt (l xs : List Int) (i : Nat) : Prop := xs.length = l.length ∧ ∀ t, t < l.length → xs.getD t 0 = if t < i ∨ l.length - i ≤ t then l.getD (l.length - 1 - t) 0 else l.getD t 0
theorem ev_Reverse_l (l : List Int) (hn : l.length ≤ 1000000000000) : ∀ (d i : Nat) (xs : List Int), RevAt l xs i → l.length ≤ 2 * i + d →
    Ev (fun k => slices_Reverse_int_int.l0 k xs (i : Int) ((l.length : Int) - 1 - (i : Int))) l.reverse := by
  intro d
  induction d with
  | zero =>
    intro i xs ⟨hl, hx⟩ hd
    refine Ev.step (fun k => by rw [slices_Reverse_int_int.l0]) ?_
    have h1 : ¬ (i : Int) < (l.length : Int) - 1 - (i : Int) := by omega
    simp only [if_neg h1]
    refine Ev.ret (ext_getD (by simp [hl]) (fun t ht => ?_))
    rw [hx t (by omega)]
    simp only [List.getD_eq_getElem?_getD]
    rw [List.getElem?_reverse (by omega), if_pos (by omega)]
  | succ d ih =>
    intro i xs ⟨hl, hx⟩ hd
    refine Ev.step (fun k => by rw [slices_Reverse_int_int.l0]) ?_
    by_cases h1 : (i : Int) < (l.length : Int) - 1 - (i : Int)
    · have a1 : (0 : Int) ≤ (l.length : Int) - 1 - (i : Int) := by omega
      have a2 : (l.length : Int) - 1 - (i : Int) < (xs.length : Int) := by omega
      have a3 : (0 : Int) ≤ (i : Int) := by omega
      have a4 : (i : Int) < (xs.length : Int) := by omega
      have ej : (l.length : Int) - 1 - (i : Int) = ((l.length - 1 - i : Nat) : Int) := by omega
      simp only [if_pos h1, if_pos a1, if_pos a2, if_pos a3, if_pos a4, w64 (x := (i : Int) + 1) (by omega), w64 (x := (l.length : Int) - 1 - (i : Int) - 1) (by omega)]
      rw [show (l.length : Int) - 1 - (i : Int) - 1 = (l.length : Int) - 1 - ((i + 1 : Nat) : Int) by omega, show (i : Int) + 1 = ((i + 1 : Nat) : Int) by omega]
      refine ih (i + 1) _ ⟨by simp [hl], fun t ht => ?_⟩ (by omega)
      rw [ej]
      simp only [Int.toNat_natCast, rd_nat]
      rw [getD_set _ _ _ _ (by simp; omega), getD_set _ _ _ _ (by omega)]
      by_cases e1 : t = l.length - 1 - i
      · rw [if_pos e1, if_pos (by omega), hx i (by omega), if_neg (by omega), e1]; congr 1; omega
      · rw [if_neg e1]
        by_cases e2 : t = i
        · rw [if_pos e2, if_pos (by omega), hx _ (by omega), if_neg (by omega), e2]
        · rw [if_neg e2, hx t ht]
          by_cases e3 : t < i ∨ l.length - i ≤ t
          · rw [if_pos e3, if_pos (by omega)]
          · rw [if_neg e3, if_neg (by omega)]
    · simp only [if_neg h1]
      refine Ev.ret (ext_getD (by simp [hl]) (fun t ht => ?_))
      rw [hx t (by omega)]
      simp only [List.getD_eq_getElem?_getD]
      rw [List.getElem?_reverse (by omega)]
      by_cases e3 : t < i ∨ l.length - i ≤ t
      · rw [if_pos e3]
      · rw [if_neg e3]; congr 2; omega
theorem ev_Reverse (l : List Int) (hn : l.length ≤ 1000000000000) : Ev (fun k => slices_Reverse_int_int.f k l) l.reverse := by
  unfold slices_Reverse_int_int.f
  rw [w64 (by omega)]
  have := ev_Reverse_l l hn l.length 0 l ⟨rfl, fun t ht => by rw [if_neg (by omega)]⟩ (by omega)
  simpa using this

/-- Natural numbers as the program's numbers. -/
def ints (l : List Nat) : List Int := l.map (fun x : Nat => (x : Int))
theorem ints_length (l : List Nat) : (ints l).length = l.length := by simp [ints]
theorem ints_append (l m : List Nat) : ints (l ++ m) = ints l ++ ints m := by simp [ints]
theorem ints_reverse (l : List Nat) : (ints l).reverse = ints l.reverse := by simp [ints]

theorem sq_le {d n : Nat} (h : d * d ≤ n) (hn : n ≤ 10000) : d ≤ 100 := by
  refine Nat.le_of_not_lt (fun hl => ?_)
  have := Nat.mul_le_mul (show 101 ≤ d from hl) (show 101 ≤ d from hl)
  omega
theorem ev_divisors_l (n : Nat) (h1 : 1 ≤ n) (hn : n ≤ 10000) : ∀ (m d : Nat), 1 ≤ d → d + m = 102 → (∀ x, x < d → x * x ≤ n) →
    Ev (fun k => impl_divisors.l0 k (n : Int) (ints (lowD n d)) (ints ((lowS n d).map (fun x => n / x))) (d : Int)) (ints (divs n)) := by
  intro m
  induction m with
  | zero =>
    intro d hd hm hlow
    have := hlow 101 (by omega)
    omega
  | succ m ih =>
    intro d hd hm hlow
    refine Ev.step (fun k => by rw [impl_divisors.l0]) ?_
    have dd : ((d * d : Nat) : Int) = (d : Int) * (d : Int) := by simp
    have hb : d * d ≤ 101 * 101 := Nat.mul_le_mul (by omega) (by omega)
    simp only [w64 (x := (d : Int) * (d : Int)) (by omega), w64 (x := (d : Int) + 1) (by omega)]
    by_cases hc : d * d ≤ n
    · have c1 : (d : Int) * (d : Int) ≤ (n : Int) := by omega
      have c2 : ¬ (d : Int) = 0 := by omega
      have low' : ∀ x, x < d + 1 → x * x ≤ n := fun x hx => by
        by_cases e : x = d
        · subst e; exact hc
        · exact hlow x (by omega)
      simp only [if_pos c1, if_neg c2, ← Int.ofNat_tmod, ← Int.ofNat_tdiv]
      have l1 : (ints (lowD n d)).length < 17592186044416 := by rw [ints_length]; have := length_lowD n d; omega
      have l2 : (ints ((lowS n d).map (fun x => n / x))).length < 17592186044416 := by rw [ints_length, List.length_map]; have := length_lowS n d; omega
      have ih' := ih (d + 1) (by omega) (by omega) low'
      by_cases hz : n % d = 0
      · have z1 : ((n % d : Nat) : Int) = 0 := by omega
        simp only [if_pos z1, if_pos l1, Option.bind_some]
        have eD : ints (lowD n (d + 1)) = ints (lowD n d) ++ [(d : Int)] := by rw [lowD_succ n d hd, if_pos hz, ints_append]; rfl
        by_cases hs : d * d < n
        · have s1 : (d : Int) * (d : Int) < (n : Int) := by omega
          have nb : n / d ≤ 10000 := Nat.le_trans (Nat.div_le_self _ _) hn
          have q0 : (0 : Int) ≤ ((n / d : Nat) : Int) := Int.natCast_nonneg _
          simp only [if_pos s1, if_pos l2, w64 (x := ((n / d : Nat) : Int)) (by omega)]
          rw [lowS_succ n d hd, if_pos ⟨hz, hs⟩, List.map_append, ints_append, eD] at ih'
          exact ih'
        · have s1 : ¬ (d : Int) * (d : Int) < (n : Int) := by omega
          simp only [if_neg s1]
          rw [lowS_succ n d hd, if_neg (fun h => hs h.2), eD] at ih'
          exact ih'
      · have z1 : ¬ ((n % d : Nat) : Int) = 0 := by omega
        simp only [if_neg z1]
        rw [lowD_succ n d hd, if_neg hz, lowS_succ n d hd, if_neg (fun h => hz h.1)] at ih'
        exact ih'
    · have c1 : ¬ (d : Int) * (d : Int) ≤ (n : Int) := by omega
      simp only [if_neg c1]
      have l2 : (ints ((lowS n d).map (fun x => n / x))).length ≤ 1000 := by rw [ints_length, List.length_map]; have := length_lowS n d; omega
      refine Ev.bind (ev_Reverse _ (by omega)) ?_
      have l3 : (ints (lowD n d)).length + (ints ((lowS n d).map (fun x => n / x))).reverse.length < 17592186044416 := by
        rw [List.length_reverse, ints_length]; have := length_lowD n d; omega
      simp only [if_pos l3]
      refine Ev.ret ?_
      rw [ints_reverse, ← ints_append, divs_parts n d h1 (by omega) hlow]
theorem ev_divisors (n : Nat) (h1 : 1 ≤ n) (hn : n ≤ 10000) : Ev (fun k => impl_divisors.f k (n : Int)) (ints (divs n)) := by
  unfold impl_divisors.f
  exact ev_divisors_l n h1 hn 101 1 (by omega) (by omega) (fun x hx => by
    have : x = 0 := by omega
    subst this; omega)

theorem ev_within_l (f : List Int) (m : Int) (hm : 0 ≤ m ∧ m ≤ 1000000000000) (hf : f.length ≤ 1000000000000000) : ∀ (d i : Nat), i + d = f.length →
    Ev (fun k => impl_within.l0 k f m f (f.length : Int) (i : Int)) (decide (InB (f.drop i) m ∧ f.length = 24)) := by
  intro d
  induction d with
  | zero =>
    intro i hi
    refine Ev.step (fun k => by rw [impl_within.l0]) ?_
    have h1 : ¬ (i : Int) < (f.length : Int) := by omega
    simp only [if_neg h1]
    refine Ev.ret ?_
    rw [List.drop_eq_nil_of_le (by omega), Bool.eq_iff_iff]; simp [InB_nil]; omega
  | succ d ih =>
    intro i hi
    refine Ev.step (fun k => by rw [impl_within.l0]) ?_
    have h1 : (i : Int) < (f.length : Int) := by omega
    have h2 : (0 : Int) ≤ (i : Int) := by omega
    simp only [if_pos h1, if_pos h2, rd_nat, w64 (x := -m) (by omega)]
    have e := drop_step f i (by omega)
    by_cases a : f.getD i 0 < -m
    · simp only [if_pos a]
      refine Ev.ret ?_
      symm; rw [decide_eq_false_iff_not, e, InB_cons]; omega
    · by_cases b : f.getD i 0 > m
      · simp only [if_neg a, gt_iff_lt, if_pos (show m < f.getD i 0 from b)]
        refine Ev.ret ?_
        symm; rw [decide_eq_false_iff_not, e, InB_cons]; omega
      · simp only [if_neg a, if_neg b, w64 (x := (i : Int) + 1) (by omega)]
        refine Ev.to (ih (i + 1) (by omega)) ?_
        rw [Bool.eq_iff_iff]; simp only [decide_eq_true_eq]; rw [e, InB_cons]
        constructor
        · rintro ⟨h, g⟩; exact ⟨⟨by omega, h⟩, g⟩
        · rintro ⟨⟨_, h⟩, g⟩; exact ⟨h, g⟩
theorem ev_within (f : List Int) (m : Int) (hm : 0 ≤ m ∧ m ≤ 1000000000000) (hf : f.length ≤ 1000000000000000) :
    Ev (fun k => impl_within.f k f m) (decide (InB f m ∧ f.length = 24)) := by
  unfold impl_within.f
  exact ev_within_l f m hm hf f.length 0 (by omega)

theorem ev_RowOk (f : List Int) (hf : f.length ≤ 1000000000000000) : Ev (fun k => impl_RowOk.f k f) (decide (InB f 1000000000 ∧ f.length = 24)) := by
  unfold impl_RowOk.f
  exact Ev.bind (ev_within f 1000000000 (by omega) hf) (Ev.now _)

def unitB (f : List Int) : Bool := decide ((InB f 1000000000 ∧ f.length = 24) ∧ (f.getD 0 0 = 1 ∨ f.getD 0 0 = -1))
theorem ev_UnitOk (f : List Int) (hf : f.length ≤ 1000000000000000) : Ev (fun k => impl_UnitOk.f k f) (unitB f) := by
  unfold impl_UnitOk.f unitB
  refine Ev.bind (ev_RowOk f hf) ?_
  simp only [decide_eq_true_eq]
  by_cases h : InB f 1000000000 ∧ f.length = 24
  · have h1 : 0 < (f.length : Int) := by omega
    have e0 : rd f 0 = f.getD 0 0 := rfl
    simp only [if_pos h, if_pos h1, e0]
    by_cases e : f.getD 0 0 = 1
    · simp only [if_pos e]; exact Ev.ret (decide_eq_true ⟨h, Or.inl e⟩).symm
    · simp only [if_neg e]; refine Ev.ret ?_; rw [Bool.eq_iff_iff]; simp only [beq_iff_eq, decide_eq_true_eq]
      constructor
      · intro x; exact ⟨h, Or.inr x⟩
      · rintro ⟨_, x | x⟩
        · exact absurd x e
        · exact x
  · simp only [if_neg h]; refine Ev.ret ?_; symm; rw [decide_eq_false_iff_not]; rintro ⟨a, _⟩; exact h a

theorem ev_small (f : List Int) (hf : f.length ≤ 1000000000000000) : Ev (fun k => impl_small.f k f) (decide (InB f 10000 ∧ f.length = 24)) := by
  unfold impl_small.f
  exact Ev.bind (ev_within f 10000 (by omega) hf) (Ev.now _)

theorem ev_iDiv_l1 {f g : List Int} (hf : InB f 10000) (hg : InB g 10000) (lf : f.length = 24) (lg : g.length = 24) (hu : unitB' f) (n : Nat) (hn : 1 ≤ n ∧ n ≤ 24) (out : List Int) (ho : InB out 1000000000) (lo : out.length = 24) (r : List Int × Bool)
    (hN : (-1000000000 ≤ dvV f g out n ∧ dvV f g out n ≤ 1000000000) → Ev (fun k => impl_DividedOf.l0 k g f (out.set (n - 1) (dvV f g out n)) ((n + 1 : Nat) : Int)) r)
    (hF : ¬ (-1000000000 ≤ dvV f g out n ∧ dvV f g out n ≤ 1000000000) → r = ([], false)) : ∀ (d i : Nat), i + d = (divs n).length →
    Ev (fun k => impl_DividedOf.l1 k g f out (n : Int) (At g n - isum ((((divs n).take i).filter (fun d => decide (d < n))).map (fun d => At out d * At f (n / d)))) (ints (divs n)) ((divs n).length : Int) (i : Int)) r := by
  intro d
  have hdl := length_divs_le n
  have gb := hg.at (by omega) n
  induction d with
  | zero =>
    intro i hi
    refine Ev.step (fun k => by rw [impl_DividedOf.l1]) ?_
    have c : ¬ (i : Int) < ((divs n).length : Int) := by omega
    have c1 : 0 < (f.length : Int) := by omega
    have c2 : 0 ≤ (n : Int) - 1 := by omega
    have c3 : (n : Int) - 1 < (out.length : Int) := by omega
    rw [List.take_of_length_le (by omega)]
    have sb := dv_sum_in hf ho ((divs n).filter (fun d => decide (d < n))) (Nat.le_trans (List.length_filter_le _ _) (by omega)) (fun d => d) (fun d => n / d)
    have eL : At g n - isum (((divs n).filter (fun d => decide (d < n))).map (fun d => At out d * At f (n / d))) = dvLeft f g out n := rfl
    have lb : -10000000000010000 ≤ dvLeft f g out n ∧ dvLeft f g out n ≤ 10000000000010000 := by unfold dvLeft; omega
    have vb := mul_unit (x := dvLeft f g out n) hu
    have eV : dvLeft f g out n * At f 1 = dvV f g out n := rfl
    rw [eV] at vb
    have ti : ((n : Int) - 1).toNat = n - 1 := by omega
    have es : rd (out.set (n - 1) (dvV f g out n)) ((n : Int) - 1) = dvV f g out n := by
      rw [rd_at _ n hn.1, At_set out n _ n hn.1 (by omega) hn.1, if_pos rfl]
    simp only [if_neg c, if_pos c1, w64 (x := (n : Int) - 1) (by omega), if_pos c2, if_pos c3, rd_at0, eL, eV, w64 (x := dvV f g out n) (by omega), ti, Option.bind_some, es, w64 (x := (n : Int) + 1) (by omega)]
    by_cases h1 : dvV f g out n < -1000000000
    · simp only [if_pos h1]
      exact Ev.ret (hF (by omega)).symm
    · by_cases h2 : 1000000000 < dvV f g out n
      · simp only [if_neg h1, gt_iff_lt, if_pos h2]
        exact Ev.ret (hF (by omega)).symm
      · simp only [if_neg h1, gt_iff_lt, if_neg h2]
        exact hN (by omega)
  | succ d ih =>
    intro i hi
    refine Ev.step (fun k => by rw [impl_DividedOf.l1]) ?_
    have c : (i : Int) < ((divs n).length : Int) := by omega
    have c1 : 0 ≤ (i : Int) := by omega
    have hm := mem_divs.1 (getL_mem (divs n) i (by omega))
    have st := isum_take (divs n) (fun d => At out d * At f (n / d)) (fun d => decide (d < n)) i (by omega)
    have sb := dv_sum_in hf ho (((divs n).take i).filter (fun d => decide (d < n))) (Nat.le_trans (List.length_filter_le _ _) (by rw [List.length_take]; omega)) (fun d => d) (fun d => n / d)
    have ih' := ih (i + 1) (by omega)
    rw [st] at ih'
    have ei : rd (ints (divs n)) (i : Int) = (((divs n).getD i 0 : Nat) : Int) := ints_get (divs n) i
    generalize hx : (divs n).getD i 0 = x at *
    simp only [ints_length, if_pos c, if_pos c1, ei, w64 (x := (i : Int) + 1) (by omega)]
    have q1 : 1 ≤ n / x := Nat.div_pos hm.2.1 (by omega)
    have q2 : n / x ≤ n := Nat.div_le_self _ _
    by_cases h : x < n
    · have h1 : (x : Int) < (n : Int) := by omega
      have c2 : 0 ≤ (x : Int) - 1 := by omega
      have c3 : (x : Int) - 1 < (out.length : Int) := by omega
      have c4 : ¬ (x : Int) = 0 := by omega
      have q0 : (0 : Int) ≤ ((n / x : Nat) : Int) := Int.natCast_nonneg _
      have tb := dv_term_in hf ho x (n / x)
      generalize hq : n / x = q at *
      have c5 : 0 ≤ (q : Int) - 1 := by omega
      have c6 : (q : Int) - 1 < (f.length : Int) := by omega
      rw [if_pos (decide_eq_true h)] at ih'
      simp only [if_pos h1, w64 (x := (x : Int) - 1) (by omega), if_pos c2, if_pos c3, if_neg c4, ← Int.ofNat_tdiv, hq, w64 (x := (q : Int)) (by omega), w64 (x := (q : Int) - 1) (by omega), if_pos c5, if_pos c6, rd_at out x hm.1, rd_at f q q1, w64 (x := At out x * At f q) (by omega)]
      rw [w64 (by omega)]
      rw [← Int.sub_sub] at ih'
      exact ih'
    · have h1 : ¬ (x : Int) < (n : Int) := by omega
      rw [if_neg (by simpa using h), Int.add_zero] at ih'
      simp only [if_neg h1]
      exact ih'
theorem ev_iDiv_l0 {f g : List Int} (hf : InB f 10000) (hg : InB g 10000) (lf : f.length = 24) (lg : g.length = 24) (hu : unitB' f) : ∀ (m n : Nat) (out : List Int), n + m = 25 → 1 ≤ n → InB out 1000000000 → out.length = 24 →
    Ev (fun k => impl_DividedOf.l0 k g f out (n : Int)) (dvF m f g out n) := by
  intro m
  induction m with
  | zero =>
    intro n out hn h1 ho lo
    refine Ev.step (fun k => by rw [impl_DividedOf.l0]) ?_
    have c : ¬ (n : Int) ≤ 24 := by omega
    simp only [if_neg c]
    exact Ev.now _
  | succ m ih =>
    intro n out hn h1 ho lo
    refine Ev.step (fun k => by rw [impl_DividedOf.l0]) ?_
    have c : (n : Int) ≤ 24 := by omega
    have c2 : 0 ≤ (n : Int) - 1 := by omega
    have c3 : (n : Int) - 1 < (g.length : Int) := by omega
    simp only [if_pos c, w64 (x := (n : Int) - 1) (by omega), if_pos c2, if_pos c3, rd_at g n h1]
    refine Ev.bind (ev_divisors n h1 (by omega)) ?_
    rw [ints_length]
    have main := ev_iDiv_l1 hf hg lf lg hu n (by omega) out ho lo (dvF (m + 1) f g out n) (fun h => by
      conv => rhs; unfold dvF
      rw [if_pos h]
      refine ih (n + 1) _ (by omega) (by omega) (fun y hy => ?_) (by rw [List.length_set]; exact lo)
      rcases List.mem_or_eq_of_mem_set hy with z | z
      · exact ho y z
      · omega) (fun h => by unfold dvF; rw [if_neg h]) (divs n).length 0 (by omega)
    simpa [isum] using main
theorem ev_iDividedOf (g f : List Int) (hg : g.length ≤ 1000000000000000) (hf : f.length ≤ 1000000000000000) : Ev (fun k => impl_DividedOf.f k g f) (dvR g f) := by
  unfold impl_DividedOf.f
  have no : ¬ (((InB f 10000 ∧ f.length = 24) ∧ unitB' f) ∧ (InB g 10000 ∧ g.length = 24)) → Ev (fun k => impl_DividedOf.j0 k g f true) (dvR g f) := fun h => by
    refine Ev.step (fun k => by rw [impl_DividedOf.j0]) ?_
    simp only [if_true]
    exact Ev.ret (by unfold dvR; rw [if_neg h])
  refine Ev.bind (ev_UnitOk f hf) ?_
  by_cases h1 : unitB f = true
  · have u := of_decide_eq_true h1
    simp only [h1, if_true]
    refine Ev.bind (ev_small f hf) ?_
    by_cases h2 : InB f 10000 ∧ f.length = 24
    · simp only [decide_eq_true h2, if_true]
      refine Ev.bind (ev_small g hg) ?_
      by_cases h3 : InB g 10000 ∧ g.length = 24
      · simp only [decide_eq_true h3, Bool.not_true]
        refine Ev.step (fun k => by rw [impl_DividedOf.j0]) ?_
        have c : 24 ≤ 35184372088832 := by omega
        simp only [Bool.false_eq_true, if_false, if_pos c]
        have hu : unitB' f := u.2
        unfold dvR
        rw [if_pos ⟨⟨h2, hu⟩, h3⟩]
        exact ev_iDiv_l0 h2.1 h3.1 h2.2 h3.2 hu 24 1 _ (by omega) (by omega) (fun y hy => by
          have := List.eq_of_mem_replicate hy; omega) (by simp)
      · simp only [decide_eq_false h3, Bool.not_false]
        exact no (fun x => h3 x.2)
    · simp only [decide_eq_false h2, Bool.false_eq_true, if_false]
      exact no (fun x => h2 x.1.1)
  · have h1' : unitB f = false := by simpa using h1
    simp only [h1', Bool.false_eq_true, if_false]
    refine no (fun x => h1 (decide_eq_true ⟨⟨x.1.1.1.mono (by omega), x.1.1.2⟩, x.1.2⟩))

theorem ev_sUnitOk (f : List Int) (hf : f.length ≤ 1000000000000000) : Ev (fun k => spec_UnitOk.f k f) (unitB f) := by
  unfold spec_UnitOk.f unitB
  refine Ev.bind (ev_sRowOk f hf) ?_
  simp only [decide_eq_true_eq]
  by_cases h : InB f 1000000000 ∧ f.length = 24
  · have h1 : 0 < (f.length : Int) := by omega
    have e0 : rd f 0 = f.getD 0 0 := rfl
    simp only [if_pos h, if_pos h1, e0]
    by_cases e : f.getD 0 0 = 1
    · simp only [if_pos e]; exact Ev.ret (decide_eq_true ⟨h, Or.inl e⟩).symm
    · simp only [if_neg e]; refine Ev.ret ?_; rw [Bool.eq_iff_iff]; simp only [beq_iff_eq, decide_eq_true_eq]
      constructor
      · intro x; exact ⟨h, Or.inr x⟩
      · rintro ⟨_, x | x⟩
        · exact absurd x e
        · exact x
  · simp only [if_neg h]; refine Ev.ret ?_; symm; rw [decide_eq_false_iff_not]; rintro ⟨a, _⟩; exact h a

/-- The same sum, told by the greater divisors. -/
theorem dvLeft_other (f g out : List Int) (n : Nat) (hn : 1 ≤ n) : dvLeft f g out n = At g n - isum (((divs n).filter (fun d => decide (2 ≤ d))).map (fun d => At f d * At out (n / d))) := by
  unfold dvLeft
  congr 1
  have e : isum (((divs n).filter (fun d => decide (d < n))).map (fun d => At out d * At f (n / d))) = isum ((((divs n).filter (fun d => decide (d < n))).map (fun d => n / d)).map (fun d => At f d * At out (n / d))) := by
    rw [List.map_map]
    refine isum_congr (fun d hd => ?_)
    have hm := mem_divs.1 (List.mem_filter.1 hd).1
    simp only [Function.comp_apply]
    rw [Nat.div_div_self (Nat.dvd_of_mod_eq_zero hm.2.2) (by omega), Int.mul_comm]
  rw [e]
  refine isum_perm (List.Perm.map _ ?_)
  have nd : (((divs n).filter (fun d => decide (d < n))).map (fun d => n / d)).Nodup := by
    show List.Pairwise _ _
    rw [List.pairwise_map]
    refine List.Pairwise.imp_of_mem ?_ (List.Pairwise.filter _ (divs_sorted n))
    intro a b ha hb h
    have := div_lt_div_of hn (mem_divs.1 (List.mem_filter.1 ha).1).2.2 (mem_divs.1 (List.mem_filter.1 hb).1).2.2 h
    omega
  rw [List.perm_ext_iff_of_nodup nd (List.Pairwise.filter _ (divs_nodup n))]
  intro a
  rw [List.mem_map, List.mem_filter, mem_divs, decide_eq_true_eq]
  constructor
  · rintro ⟨d, hd, rfl⟩
    rw [List.mem_filter, mem_divs, decide_eq_true_eq] at hd
    obtain ⟨⟨d1, d2, d3⟩, d4⟩ := hd
    have dv := Nat.div_dvd_of_dvd (Nat.dvd_of_mod_eq_zero d3)
    have e2 := Nat.div_add_mod n d
    rw [d3] at e2
    refine ⟨⟨Nat.div_pos d2 (by omega), Nat.le_of_dvd (by omega) dv, Nat.mod_eq_zero_of_dvd dv⟩, Nat.le_of_not_lt (fun h => ?_)⟩
    generalize n / d = q at *
    have : q = 0 ∨ q = 1 := by omega
    rcases this with h0 | h0 <;> subst h0 <;> omega
  · rintro ⟨⟨a1, a2, a3⟩, a4⟩
    have da := Nat.dvd_of_mod_eq_zero a3
    have dv := Nat.div_dvd_of_dvd da
    refine ⟨n / a, ?_, Nat.div_div_self da (by omega)⟩
    rw [List.mem_filter, mem_divs, decide_eq_true_eq]
    exact ⟨⟨Nat.div_pos a2 (by omega), Nat.le_of_dvd (by omega) dv, Nat.mod_eq_zero_of_dvd dv⟩, Nat.div_lt_self (by omega) (by omega)⟩
theorem filter_low_succ (n d : Nat) (h : 2 ≤ d) : (lowD n (d + 1)).filter (fun x => decide (2 ≤ x)) = if n % d = 0 then (lowD n d).filter (fun x => decide (2 ≤ x)) ++ [d] else (lowD n d).filter (fun x => decide (2 ≤ x)) := by
  rw [lowD_succ n d (by omega)]
  by_cases z : n % d = 0
  · rw [if_pos z, if_pos z, List.filter_append]; simp [h]
  · rw [if_neg z, if_neg z]
theorem lowD_all (n : Nat) : lowD n (n + 1) = divs n := by unfold lowD divs; rfl
theorem ev_sDiv_l1 {f g : List Int} (hf : InB f 10000) (hg : InB g 10000) (lf : f.length = 24) (lg : g.length = 24) (hu : unitB' f) (n : Nat) (hn : 1 ≤ n ∧ n ≤ 24) (out : List Int) (ho : InB out 1000000000) (lo : out.length = 24) (r : List Int)
    (hN : (-1000000000 ≤ dvV f g out n ∧ dvV f g out n ≤ 1000000000) → Ev (fun k => spec_l3Divided.l0 k g f (out.set (n - 1) (dvV f g out n)) ((n + 1 : Nat) : Int)) r)
    (hF : ¬ (-1000000000 ≤ dvV f g out n ∧ dvV f g out n ≤ 1000000000) → r = []) : ∀ (m d : Nat), d + m = max 2 (n + 1) → 2 ≤ d →
    Ev (fun k => spec_l3Divided.l1 k g f out (n : Int) (At g n - isum (((lowD n d).filter (fun x => decide (2 ≤ x))).map (fun d => At f d * At out (n / d)))) (d : Int)) r := by
  intro m
  have gb := hg.at (by omega) n
  have sums : ∀ l : List Nat, l.length ≤ 1000 → -10000000000000000 ≤ isum (l.map (fun d => At f d * At out (n / d))) ∧ isum (l.map (fun d => At f d * At out (n / d))) ≤ 10000000000000000 := by
    intro l hl
    have := dv_sum_in hf ho l hl (fun d => n / d) (fun d => d)
    have e : l.map (fun d => At out (n / d) * At f d) = l.map (fun d => At f d * At out (n / d)) := List.map_congr_left (fun d _ => Int.mul_comm _ _)
    rwa [e] at this
  induction m with
  | zero =>
    intro d hd h2
    refine Ev.step (fun k => by rw [spec_l3Divided.l1]) ?_
    have c : ¬ (d : Int) ≤ (n : Int) := by omega
    have c1 : 0 < (f.length : Int) := by omega
    have c2 : 0 ≤ (n : Int) - 1 := by omega
    have c3 : (n : Int) - 1 < (out.length : Int) := by omega
    have el : (lowD n d).filter (fun x => decide (2 ≤ x)) = (divs n).filter (fun x => decide (2 ≤ x)) := by
      by_cases z : n = 1
      · subst z
        have : d = 2 := by omega
        subst this; decide
      · rw [show d = n + 1 by omega, lowD_all]
    have hdl := length_divs_le n
    have sb := sums ((divs n).filter (fun x => decide (2 ≤ x))) (Nat.le_trans (List.length_filter_le _ _) (by omega))
    rw [el, ← dvLeft_other f g out n hn.1]
    have lb : -10000000000010000 ≤ dvLeft f g out n ∧ dvLeft f g out n ≤ 10000000000010000 := by rw [dvLeft_other f g out n hn.1]; omega
    have vb := mul_unit (x := dvLeft f g out n) hu
    have eV : dvLeft f g out n * At f 1 = dvV f g out n := rfl
    rw [eV] at vb
    have ti : ((n : Int) - 1).toNat = n - 1 := by omega
    have es : rd (out.set (n - 1) (dvV f g out n)) ((n : Int) - 1) = dvV f g out n := by
      rw [rd_at _ n hn.1, At_set out n _ n hn.1 (by omega) hn.1, if_pos rfl]
    simp only [if_neg c, if_pos c1, w64 (x := (n : Int) - 1) (by omega), if_pos c2, if_pos c3, rd_at0, eV, w64 (x := dvV f g out n) (by omega), ti, Option.bind_some, es, w64 (x := (n : Int) + 1) (by omega), l1In_f, decide_eq_true_eq]
    by_cases h1 : -1000000000 ≤ dvV f g out n ∧ dvV f g out n ≤ 1000000000
    · simp only [if_pos h1]; exact hN h1
    · simp only [if_neg h1]; exact Ev.ret (hF h1).symm
  | succ m ih =>
    intro d hd h2
    refine Ev.step (fun k => by rw [spec_l3Divided.l1]) ?_
    have c : (d : Int) ≤ (n : Int) := by omega
    have c0 : ¬ (d : Int) = 0 := by omega
    have ih' := ih (d + 1) (by omega) (by omega)
    rw [filter_low_succ n d h2] at ih'
    have sb := sums ((lowD n d).filter (fun x => decide (2 ≤ x))) (Nat.le_trans (List.length_filter_le _ _) (by have := length_lowD n d; omega))
    simp only [if_pos c, if_neg c0, ← Int.ofNat_tmod, ← Int.ofNat_tdiv, w64 (x := (d : Int) + 1) (by omega)]
    by_cases z : n % d = 0
    · have z1 : ((n % d : Nat) : Int) = 0 := by omega
      rw [if_pos z, List.map_append, isum_append] at ih'
      have q1 : 1 ≤ n / d := Nat.div_pos (by omega) (by omega)
      have q2 : n / d ≤ n := Nat.div_le_self _ _
      have tb := dv_term_in hf ho (n / d) d
      rw [Int.mul_comm] at tb
      have q0 : (0 : Int) ≤ ((n / d : Nat) : Int) := Int.natCast_nonneg _
      have c1 : 0 ≤ (d : Int) - 1 := by omega
      have c2 : (d : Int) - 1 < (f.length : Int) := by omega
      simp only [List.map_cons, List.map_nil, isum, Int.add_zero] at ih'
      generalize hq : n / d = q at *
      have c3 : 0 ≤ (q : Int) - 1 := by omega
      have c4 : (q : Int) - 1 < (out.length : Int) := by omega
      simp only [if_pos z1, w64 (x := (d : Int) - 1) (by omega), if_pos c1, if_pos c2, w64 (x := (q : Int)) (by omega), w64 (x := (q : Int) - 1) (by omega), if_pos c3, if_pos c4, rd_at f d (by omega), rd_at out q q1, w64 (x := At f d * At out q) (by omega)]
      rw [w64 (by omega)]
      rw [← Int.sub_sub] at ih'
      exact ih'
    · have z1 : ¬ ((n % d : Nat) : Int) = 0 := by omega
      rw [if_neg z] at ih'
      simp only [if_neg z1]
      exact ih'
theorem ev_sDiv_l0 {f g : List Int} (hf : InB f 10000) (hg : InB g 10000) (lf : f.length = 24) (lg : g.length = 24) (hu : unitB' f) : ∀ (m n : Nat) (out : List Int), n + m = 25 → 1 ≤ n → InB out 1000000000 → out.length = 24 →
    Ev (fun k => spec_l3Divided.l0 k g f out (n : Int)) (dvF m f g out n).1 := by
  intro m
  induction m with
  | zero =>
    intro n out hn h1 ho lo
    refine Ev.step (fun k => by rw [spec_l3Divided.l0]) ?_
    have c : ¬ (n : Int) ≤ 24 := by omega
    simp only [if_neg c]
    exact Ev.now _
  | succ m ih =>
    intro n out hn h1 ho lo
    refine Ev.step (fun k => by rw [spec_l3Divided.l0]) ?_
    have c : (n : Int) ≤ 24 := by omega
    have c2 : 0 ≤ (n : Int) - 1 := by omega
    have c3 : (n : Int) - 1 < (g.length : Int) := by omega
    simp only [if_pos c, w64 (x := (n : Int) - 1) (by omega), if_pos c2, if_pos c3, rd_at g n h1]
    have main := ev_sDiv_l1 hf hg lf lg hu n (by omega) out ho lo (dvF (m + 1) f g out n).1 (fun h => by
      conv => rhs; unfold dvF
      rw [if_pos h]
      refine ih (n + 1) _ (by omega) (by omega) (fun y hy => ?_) (by rw [List.length_set]; exact lo)
      rcases List.mem_or_eq_of_mem_set hy with z | z
      · exact ho y z
      · omega) (fun h => by unfold dvF; rw [if_neg h]) (max 2 (n + 1) - 2) 2 (by omega) (by omega)
    have e : (lowD n 2).filter (fun x => decide (2 ≤ x)) = [] := by
      rw [List.filter_eq_nil_iff]
      intro a ha
      have := mem_lowD.1 ha
      simp; omega
    rw [e] at main
    simpa [isum] using main
theorem ev_sDividedOf (g f : List Int) (hg : g.length ≤ 1000000000000000) (hf : f.length ≤ 1000000000000000) : Ev (fun k => spec_DividedOf.f k g f) (dvR g f) := by
  unfold spec_DividedOf.f
  refine Ev.bind (ev_sTimesOf f g hf hg) ?_
  unfold timesR
  by_cases h : (InB f 10000 ∧ f.length = 24) ∧ (InB g 10000 ∧ g.length = 24)
  · rw [if_pos h]
    simp only [if_true]
    refine Ev.bind (ev_sUnitOk f hf) ?_
    by_cases h1 : unitB f = true
    · have u := (of_decide_eq_true h1).2
      have hu : unitB' f := u
      simp only [h1, if_true]
      unfold spec_l3Divided.f dvR
      rw [if_pos ⟨⟨h.1, hu⟩, h.2⟩]
      have c : 24 ≤ 35184372088832 := by omega
      simp only [if_pos c]
      refine Ev.bind (ev_sDiv_l0 h.1.1 h.2.1 h.1.2 h.2.2 hu 24 1 _ (by omega) (by omega) (fun y hy => by
          have := List.eq_of_mem_replicate hy; omega) (by simp)) (Ev.ret ?_)
      have hd := dvF_length 24 f g (List.replicate 24 0) 1 (by simp)
      generalize dvF 24 f g (List.replicate 24 0) 1 = z at *
      obtain ⟨a, b⟩ := z
      cases b with
      | true => have := hd.2.1 rfl; simp at this; simp [this]
      | false => have := hd.2.2 rfl; simp at this; subst this; rfl
    · have h1' : unitB f = false := by simpa using h1
      simp only [h1', Bool.false_eq_true, if_false]
      refine Ev.ret ?_
      unfold dvR
      rw [if_neg]
      exact fun x => h1 (decide_eq_true ⟨⟨x.1.1.1.mono (by omega), x.1.1.2⟩, x.1.2⟩)
  · rw [if_neg h]
    simp only [Bool.false_eq_true, if_false]
    refine Ev.ret ?_
    unfold dvR
    rw [if_neg (fun x => h ⟨x.1.1, x.2⟩)]

/-- The row that is at each number as told. -/
def rowOf (g : Nat → Int) : List Int := (List.range 24).map (fun i => g (i + 1))
theorem rowOf_length (g : Nat → Int) : (rowOf g).length = 24 := by simp [rowOf]
theorem At_rowOf (g : Nat → Int) (n : Nat) (h : 1 ≤ n ∧ n ≤ 24) : At (rowOf g) n = g n := by
  unfold At rowOf
  rw [List.getD_eq_getElem?_getD, List.getElem?_map, List.getElem?_range (by omega)]
  simp only [Option.map_some, Option.getD_some]
  rw [show n - 1 + 1 = n by omega]
theorem times_rowOf (f g : List Int) : times f g = rowOf (conv f g) := rfl
theorem ev_rowBy_l (GF : Nat → Int → Option Int) (g : Nat → Int) (h : ∀ n : Nat, 1 ≤ n → n ≤ 24 → Ev (fun k => GF k (n : Int)) (g n)) : ∀ (d i : Nat) (out : List Int), i + d = 24 → out.length = 24 → (∀ n, 1 ≤ n → n ≤ i → At out n = g n) →
    Ev (fun k => impl_rowBy.l0 GF k out 24 (i : Int)) (rowOf g) := by
  intro d
  induction d with
  | zero =>
    intro i out hi hl ho
    refine Ev.step (fun k => by rw [impl_rowBy.l0]) ?_
    have c : ¬ (i : Int) < 24 := by omega
    simp only [if_neg c]
    exact Ev.ret (ext_At hl (rowOf_length g) (fun n n1 n2 => by rw [ho n n1 (by omega), At_rowOf g n ⟨n1, n2⟩]))
  | succ d ih =>
    intro i out hi hl ho
    refine Ev.step (fun k => by rw [impl_rowBy.l0]) ?_
    have c : (i : Int) < 24 := by omega
    have c1 : 0 ≤ (i : Int) := by omega
    have c2 : (i : Int) < (out.length : Int) := by omega
    simp only [if_pos c, w64 (x := (i : Int) + 1) (by omega), if_pos c1, if_pos c2, Int.toNat_natCast]
    refine Ev.bind (h (i + 1) (by omega) (by omega)) ?_
    refine ih (i + 1) _ (by omega) (by rw [List.length_set]; exact hl) (fun n n1 n2 => ?_)
    have := At_set out (i + 1) (g (i + 1)) n (by omega) (by omega) n1
    rw [show i + 1 - 1 = i by omega] at this
    rw [this]
    by_cases e : n = i + 1
    · rw [if_pos e, e]
    · rw [if_neg e]; exact ho n n1 (by omega)
theorem ev_rowBy (GF : Nat → Int → Option Int) (g : Nat → Int) (h : ∀ n : Nat, 1 ≤ n → n ≤ 24 → Ev (fun k => GF k (n : Int)) (g n)) : Ev (fun k => impl_rowBy.f GF k) (rowOf g) := by
  unfold impl_rowBy.f
  have c : 24 ≤ 35184372088832 := by omega
  simp only [if_pos c, Option.bind_some, List.length_replicate]
  exact ev_rowBy_l GF g h 24 0 _ (by omega) (by simp) (fun n n1 n2 => by omega)

theorem getL_m (l : List Nat) (i : Nat) (h : i < l.length) : l.getD i 0 ∈ l := by
  rw [List.getD_eq_getElem?_getD, List.getElem?_eq_getElem h]; exact List.getElem_mem _
theorem ints_g (l : List Nat) (i : Nat) : rd (ints l) (i : Int) = ((l.getD i 0 : Nat) : Int) := by
  show (ints l).getD i 0 = _
  unfold ints
  simp only [List.getD_eq_getElem?_getD, List.getElem?_map]
  cases l[i]? <;> simp
theorem isum_tk (l : List Nat) (t : Nat → Int) (i : Nat) (h : i < l.length) : isum ((l.take (i + 1)).map t) = isum ((l.take i).map t) + t (l.getD i 0) := by
  rw [List.take_succ_eq_append_getElem h, List.map_append, isum_append]
  have e : l[i] = l.getD i 0 := by rw [List.getD_eq_getElem?_getD, List.getElem?_eq_getElem h]; rfl
  rw [e]; simp [isum]
theorem ev_iTimes_l {f g : List Int} (hf : InB f 10000) (hg : InB g 10000) (lf : f.length = 24) (lg : g.length = 24) (n : Nat) (hn : 1 ≤ n ∧ n ≤ 24) : ∀ (d i : Nat), i + d = (divs n).length →
    Ev (fun k => impl_TimesOf_1.l0 k (n : Int) f g (isum (((divs n).take i).map (term f g n))) (ints (divs n)) ((divs n).length : Int) (i : Int)) (conv f g n) := by
  intro d
  have hdl := length_divs_le n
  induction d with
  | zero =>
    intro i hi
    refine Ev.step (fun k => by rw [impl_TimesOf_1.l0]) ?_
    have c : ¬ (i : Int) < ((divs n).length : Int) := by omega
    simp only [if_neg c]
    exact Ev.ret (by rw [List.take_of_length_le (by omega)]; rfl)
  | succ d ih =>
    intro i hi
    refine Ev.step (fun k => by rw [impl_TimesOf_1.l0]) ?_
    have c : (i : Int) < ((divs n).length : Int) := by omega
    have c1 : 0 ≤ (i : Int) := by omega
    have hm := mem_divs.1 (getL_m (divs n) i (by omega))
    have st := isum_tk (divs n) (term f g n) i (by omega)
    have sb := isum_terms hf hg n ((divs n).take i) (by rw [List.length_take]; omega)
    have ih' := ih (i + 1) (by omega)
    rw [st] at ih'
    have ei := ints_g (divs n) i
    generalize hx : (divs n).getD i 0 = x at *
    have q1 : 1 ≤ n / x := Nat.div_pos hm.2.1 (by omega)
    have q2 : n / x ≤ n := Nat.div_le_self _ _
    have q0 : (0 : Int) ≤ ((n / x : Nat) : Int) := Int.natCast_nonneg _
    have tb := term_in hf hg n x
    have et : At f x * At g (n / x) = term f g n x := rfl
    generalize hq : n / x = q at *
    have c2 : 0 ≤ (x : Int) - 1 := by omega
    have c3 : (x : Int) - 1 < (f.length : Int) := by omega
    have c4 : ¬ (x : Int) = 0 := by omega
    have c5 : 0 ≤ (q : Int) - 1 := by omega
    have c6 : (q : Int) - 1 < (g.length : Int) := by omega
    simp only [ints_length, if_pos c, if_pos c1, ei, w64 (x := (i : Int) + 1) (by omega), w64 (x := (x : Int) - 1) (by omega), if_pos c2, if_pos c3, if_neg c4, ← Int.ofNat_tdiv, hq, w64 (x := (q : Int)) (by omega), w64 (x := (q : Int) - 1) (by omega), if_pos c5, if_pos c6, rd_at f x hm.1, rd_at g q q1, et, w64 (x := term f g n x) (by omega)]
    rw [w64 (by omega)]
    exact ih'
theorem ev_iTimes_1 {f g : List Int} (hf : InB f 10000) (hg : InB g 10000) (lf : f.length = 24) (lg : g.length = 24) (n : Nat) (h1 : 1 ≤ n) (h2 : n ≤ 24) : Ev (fun k => impl_TimesOf_1.f k (n : Int) f g) (conv f g n) := by
  unfold impl_TimesOf_1.f
  refine Ev.bind (ev_divisors n h1 (by omega)) ?_
  rw [ints_length]
  exact ev_iTimes_l hf hg lf lg n ⟨h1, h2⟩ (divs n).length 0 (by omega)
theorem ev_iTimesOf (f g : List Int) (hf : f.length ≤ 1000000000000000) (hg : g.length ≤ 1000000000000000) : Ev (fun k => impl_TimesOf.f k f g) (timesR f g) := by
  unfold impl_TimesOf.f
  refine Ev.bind (ev_small f hf) ?_
  by_cases h1 : InB f 10000 ∧ f.length = 24
  · simp only [decide_eq_true h1, if_true]
    refine Ev.bind (ev_small g hg) ?_
    by_cases h2 : InB g 10000 ∧ g.length = 24
    · simp only [decide_eq_true h2, if_true]
      refine Ev.bind (Ev.to (ev_rowBy _ (conv f g) (fun n n1 n2 => ev_iTimes_1 h1.1 h2.1 h1.2 h2.2 n n1 n2)) (times_rowOf f g).symm) ?_
      exact Ev.ret (by unfold timesR; rw [if_pos ⟨h1, h2⟩])
    · simp only [decide_eq_false h2, Bool.false_eq_true, if_false]
      exact Ev.ret (by unfold timesR; rw [if_neg (fun x => h2 x.2)])
  · simp only [decide_eq_false h1, Bool.false_eq_true, if_false]
    exact Ev.ret (by unfold timesR; rw [if_neg (fun x => h1 x.1)])

theorem ev_sameInts_l (a b : List Int) (hl : a.length = b.length) (ha : a.length ≤ 1000000000000000) : ∀ (d i : Nat), i + d = a.length →
    Ev (fun k => laws_sameInts.l0 k a b (i : Int)) (decide (a.drop i = b.drop i)) := by
  intro d
  induction d with
  | zero =>
    intro i hi
    refine Ev.step (fun k => by rw [laws_sameInts.l0]) ?_
    have h1 : ¬ (i : Int) < (a.length : Int) := by omega
    simp only [if_neg h1]
    refine Ev.ret ?_
    rw [List.drop_eq_nil_of_le (by omega), List.drop_eq_nil_of_le (by omega)]; simp
  | succ d ih =>
    intro i hi
    refine Ev.step (fun k => by rw [laws_sameInts.l0]) ?_
    have h1 : (i : Int) < (a.length : Int) := by omega
    have h2 : (0 : Int) ≤ (i : Int) := by omega
    have h3 : (i : Int) < (b.length : Int) := by omega
    have ea := drop_step a i (by omega)
    have eb := drop_step b i (by omega)
    simp only [if_pos h1, if_pos h2, if_pos h3, rd_nat, w64 (x := (i : Int) + 1) (by omega)]
    by_cases e : a.getD i 0 = b.getD i 0
    · simp only [if_pos e]
      refine Ev.to (ih (i + 1) (by omega)) ?_
      rw [ea, eb, e]; simp
    · simp only [if_neg e]
      refine Ev.ret ?_
      rw [ea, eb]; simp only [List.cons.injEq, e, false_and, decide_false]
theorem ev_sameInts (a b : List Int) (ha : a.length ≤ 1000000000000000) : Ev (fun k => laws_sameInts.f k a b) (decide (a = b)) := by
  unfold laws_sameInts.f
  by_cases h : (a.length : Int) = (b.length : Int)
  · simp only [if_pos h]
    exact ev_sameInts_l a b (by omega) ha a.length 0 (by omega)
  · simp only [if_neg h]
    refine Ev.ret ?_
    symm; rw [decide_eq_false_iff_not]
    intro e; subst e; exact h rfl

theorem open_l (l : List Int) (h : ∀ x ∈ l, (Lit.int .u8 x).wf = true) : ∃ b, Bytes b ∧ spec_l20Open.f l = some (b, 0) := by
  unfold spec_l20Open.f
  by_cases c : (l.length : Int) > 2000
  · refine ⟨l.take 2000, ⟨by simp; omega, fun x hx => wf_u8 (h x (List.mem_of_mem_take hx))⟩, ?_⟩
    rw [if_pos c, if_pos (by omega)]
  · exact ⟨l, ⟨by omega, fun x hx => wf_u8 (h x hx)⟩, by rw [if_neg c]⟩

theorem numberOk_f (a : Int) : impl_numberOk.f a = some (decide (1 ≤ a ∧ a ≤ 10000)) := by
  unfold impl_numberOk.f
  by_cases h : a ≥ 1
  · rw [if_pos h]; simp [show 1 ≤ a from h]
  · rw [if_neg h]; simp [show ¬ 1 ≤ a from h]

theorem alive_f : laws_alive.f = some true := by
  unfold laws_alive.f impl_DividesOk.f
  simp only [numberOk_f, Option.bind_some]; simp

theorem dvO_j2 (g f : List Int) (lg : g.length ≤ 24) (lf : f.length ≤ 24) : Ev (fun k => laws_FnDividedOf.j2 k g f (dvR g f).1 (dvR g f).2) true := by
  refine Ev.step (fun k => by rw [laws_FnDividedOf.j2]) ?_
  have z := dvR_length g f
  by_cases h : (dvR g f).2 = true
  · have a := dvR_told h
    have tl := timesR_length (dvR g f).1 f
    simp only [if_pos h]
    refine Ev.bind (ev_iTimesOf (dvR g f).1 f (by omega) (by omega)) (Ev.bind (ev_RowOk (dvR g f).1 (by omega)) ?_)
    simp only [decide_eq_true (show InB (dvR g f).1 1000000000 ∧ (dvR g f).1.length = 24 from ⟨a.2.2.1, a.2.1⟩), if_true]
    by_cases t : (timesR (dvR g f).1 f).2 = true
    · simp only [if_pos t]
      refine Ev.bind (ev_sameInts (timesR (dvR g f).1 f).1 g (by omega)) ?_
      simp only [decide_eq_true (show (timesR (dvR g f).1 f).1 = g by rw [(timesR_told t).2, dvR_times h])]
      exact Ev.now _
    · simp only [if_neg t]; exact Ev.now _
  · have e := z.2.2 (by simpa using h)
    simp only [if_neg h, e, List.length_nil, Int.natCast_zero, if_true, alive_f, Option.bind_some]
    exact Ev.now _
theorem FnDividedOf : laws_FnDividedOf.Pure := by
  intro l h1 h2 h3
  apply Ev.k
  unfold laws_FnDividedOf.f
  by_cases hl : (l.length : Int) > 1048576
  · simp only [if_pos hl]; exact Ev.now _
  simp only [if_neg hl]
  obtain ⟨b, hb, eo⟩ := open_l l h3
  obtain ⟨g, q, hg, hq, eg⟩ := ev_row hb 0 14 (by omega) (by omega)
  obtain ⟨f, q', hf, hq', ef⟩ := ev_unit hb q 14 (by omega) (by omega)
  have ed : Ev (fun k => spec_DrawDividedOf.f k l) (g, f) := by
    unfold spec_DrawDividedOf.f
    simp only [eo, Option.bind_some]
    exact Ev.bind eg (Ev.bind ef (Ev.now _))
  have lf := hf.1
  have lg := hg.1
  have z := dvR_length g f
  have tl := timesR_length f g
  have zl := dvR_length (timesR f g).1 f
  refine Ev.bind ed (Ev.bind (ev_iDividedOf g f (by omega) (by omega)) (Ev.bind (ev_sDividedOf g f (by omega) (by omega)) (Ev.bind (ev_sameInts (dvR g f).1 (dvR g f).1 (by omega)) ?_)))
  simp only [decide_true, if_true, bne_self_eq_false]
  have tail := dvO_j2 g f lg lf
  have mid : ∀ t, (t = true → (timesR f g).2 = true ∧ unitB f = true) → Ev (fun k => laws_FnDividedOf.j1 k g f (dvR g f).1 (dvR g f).2 (timesR f g).1 t) true := fun t ht => by
    refine Ev.step (fun k => by rw [laws_FnDividedOf.j1]) ?_
    by_cases h : t = true
    · have a := ht h
      have tt := timesR_told a.1
      simp only [if_pos h]
      refine Ev.bind (ev_iDividedOf (timesR f g).1 f (by omega) (by omega)) ?_
      by_cases c : (dvR (timesR f g).1 f).2 = true
      · simp only [if_pos c]
        refine Ev.bind (ev_sameInts _ g (by omega)) ?_
        simp only [decide_eq_true (dvR_unique c tt.1.2.2 (by rw [tt.2, times_comm])), if_true]
        exact tail
      · simp only [if_neg c]; exact tail
    · simp only [if_neg h]; exact tail
  refine Ev.step (fun k => by rw [laws_FnDividedOf.j0]) ?_
  simp only [Bool.false_eq_true, if_false]
  refine Ev.bind (ev_iTimesOf f g (by omega) (by omega)) ?_
  by_cases ht : (timesR f g).2 = true
  · simp only [if_pos ht]
    refine Ev.bind (ev_UnitOk f (by omega)) ?_
    exact mid _ (fun h => ⟨ht, h⟩)
  · simp only [if_neg ht]
    exact mid _ (fun h => by cases h)

end Go.Proofs.Yteebmpbhhpmhbaa.Pure
namespace Go.Proofs.Yteebmpbhhpmhbaa.PrintWords
/-- The printed row's word, under the name by which that row calls it. -/
abbrev sized_ints := @Go.Proofs.YteebmpbhhpmhbaaW.PrintWords.sized_ints
end Go.Proofs.Yteebmpbhhpmhbaa.PrintWords
