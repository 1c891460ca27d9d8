/- The program and the reference tell the same of a drawn row and number; a power of the row of ones counts at primes what it is a power to, and the next power is the product of a power with the row. -/
import Derived.Test.YteebmpbhhpmhbaaPFnPowerOfx0
import Derived.Test.YteebmpbhhpmhbaaPFnPowerOfx1
import Derived.Test.YteebmpbhhpmhbaaPFnPowerOfx2
import Derived.Test.YteebmpbhhpmhbaaPFnPowerOfx3
import Derived.Test.YteebmpbhhpmhbaaPFnPowerOfx4
import Derived.Test.YteebmpbhhpmhbaaPFnPowerOfx5
import Derived.Test.YteebmpbhhpmhbaaPFnPowerOfx6
import Derived.Test.YteebmpbhhpmhbaaPFnPowerOfx7
import Derived.Test.YteebmpbhhpmhbaaPFnPowerOfx8
import Derived.Test.YteebmpbhhpmhbaaPFnPowerOfx9
import Derived.Test.YteebmpbhhpmhbaaM1
import Derived.Test.YteebmpbhhpmhbaaM2
import Derived.Test.YteebmpbhhpmhbaaM3
import Derived.Test.YteebmpbhhpmhbaaWSized
namespace Go.Proofs.Yteebmpbhhpmhbaa.Pure
open Go.RowKit Go.Proofs.Yteebmpbhhpmhbaa.PFnPowerOf Go.Proofs.YteebmpbhhpmhbaaW.PrintWords Go.Proofs.YteebmpbhhpmhbaaW.PrintLast Go.Proofs.YteebmpbhhpmhbaaW.PrintMore Go.Proofs.Yteebmpbhhpmhbaa.Math
set_option linter.unusedVariables false
set_option linter.unusedSimpArgs false
theorem w64 {x : Int} (h : -9223372036854775808 ≤ x ∧ x ≤ 9223372036854775807) : wrap64 x = x := by unfold wrap64; omega
theorem Ev.k {α : Type} {g : Nat → Option α} {r : α} (h : Ev g r) : ∃ k, g k = some r := Ev.rounds h
theorem Ev.to {α : Type} {g : Nat → Option α} {r s : α} (h : Ev g r) (e : r = s) : Ev g s := e ▸ h
theorem Ev.ret {α : Type} {r s : α} (e : r = s) : Ev (fun _ => some r) s := e ▸ Ev.now r

theorem rd_nat (xs : List Int) (i : Nat) : rd xs (i : Int) = xs.getD i 0 := rfl
theorem drop_step (f : List Int) (i : Nat) (h : i < f.length) : f.drop i = f.getD i 0 :: f.drop (i + 1) := by
  rw [List.drop_eq_getElem_cons h]; simp [List.getD_eq_getElem?_getD, List.getElem?_eq_getElem h]
def InB (f : List Int) (m : Int) : Prop := ∀ x ∈ f, -m ≤ x ∧ x ≤ m
instance (f : List Int) (m : Int) : Decidable (InB f m) := by unfold InB; infer_instance
theorem InB_cons (x : Int) (f : List Int) (m : Int) : InB (x :: f) m ↔ (-m ≤ x ∧ x ≤ m) ∧ InB f m := by
  unfold InB; simp
theorem InB_nil (m : Int) : InB [] m := fun x h => by cases h
theorem InB.mono {f : List Int} {m n : Int} (h : InB f m) (hmn : m ≤ n) : InB f n := fun x hx => by have := h x hx; omega

/-- What a row is at a number. -/
def At (f : List Int) (n : Nat) : Int := f.getD (n - 1) 0
theorem rd_at (f : List Int) (n : Nat) (h : 1 ≤ n) : rd f ((n : Int) - 1) = At f n := by
  rw [show (n : Int) - 1 = ((n - 1 : Nat) : Int) by omega]; rfl
theorem rd_at0 (f : List Int) : rd f 0 = At f 1 := rfl
theorem InB.at {f : List Int} {m : Int} (h : InB f m) (hm : 0 ≤ m) (n : Nat) : -m ≤ At f n ∧ At f n ≤ m := by
  unfold At; rw [List.getD_eq_getElem?_getD]
  by_cases c : n - 1 < f.length
  · rw [List.getElem?_eq_getElem c]; exact h _ (List.getElem_mem _)
  · rw [List.getElem?_eq_none (by omega)]; simp; omega
theorem mul_in {x y B : Int} (hx : -B ≤ x ∧ x ≤ B) (hy : -B ≤ y ∧ y ≤ B) (hB : 0 ≤ B) : -(B * B) ≤ x * y ∧ x * y ≤ B * B := by
  have h1 : x.natAbs ≤ B.toNat := by omega
  have h2 : y.natAbs ≤ B.toNat := by omega
  have h3 := Nat.mul_le_mul h1 h2
  rw [← Int.natAbs_mul] at h3
  have h4 : ((B.toNat * B.toNat : Nat) : Int) = B * B := by rw [Int.natCast_mul, Int.toNat_of_nonneg hB]
  omega
theorem w64_prod {f : List Int} (h : InB f 1000000000) (a b : Nat) : wrap64 (At f a * At f b) = At f a * At f b := by
  have := mul_in (h.at (by omega) a) (h.at (by omega) b) (by omega)
  exact w64 (by omega)
/-- A row is 1 at 1, and at each product of two numbers (that are apart, or all) the product. -/
def Mult (all : Bool) (f : List Int) : Prop := At f 1 = 1 ∧ ∀ a b, 1 ≤ a → 1 ≤ b → a * b ≤ 24 → (all = true ∨ Nat.gcd a b = 1) → At f (a * b) = At f a * At f b
/-- It is so at all pairs before one. -/
def MultTo (all : Bool) (f : List Int) (x y : Nat) : Prop := ∀ a b, (a < x ∨ a = x ∧ b < y) → 1 ≤ a → 1 ≤ b → a * b ≤ 24 → (all = true ∨ Nat.gcd a b = 1) → At f (a * b) = At f a * At f b
theorem MultTo.step {all : Bool} {f : List Int} {x y : Nat} (h : MultTo all f x y) (e : x * y ≤ 24 → (all = true ∨ Nat.gcd x y = 1) → At f (x * y) = At f x * At f y) : MultTo all f x (y + 1) := by
  intro a b hab h1 h2 h3 h4
  by_cases c : a = x ∧ b = y
  · obtain ⟨rfl, rfl⟩ := c; exact e h3 h4
  · exact h a b (by omega) h1 h2 h3 h4
theorem MultTo.next {all : Bool} {f : List Int} {x y : Nat} (h : MultTo all f x y) (hy : 24 < x * y) : MultTo all f (x + 1) 1 := by
  intro a b hab h1 h2 h3 h4
  refine h a b ?_ h1 h2 h3 h4
  by_cases c : a < x
  · exact Or.inl c
  · have e : a = x := by omega
    subst e
    refine Or.inr ⟨rfl, Nat.lt_of_not_le (fun hle => ?_)⟩
    have := Nat.mul_le_mul_left a hle; omega

/-- One term of a product over divisors. -/
def term (f g : List Int) (n d : Nat) : Int := At f d * At g (n / d)
/-- The product of two rows over divisors, at a number. -/
def conv (f g : List Int) (n : Nat) : Int := isum ((divs n).map (term f g n))
def times (f g : List Int) : List Int := (List.range 24).map (fun i => conv f g (i + 1))
theorem isum_bound {l : List Int} {B : Int} (hB : 0 ≤ B) (h : ∀ x ∈ l, -B ≤ x ∧ x ≤ B) : -((l.length : Int) * B) ≤ isum l ∧ isum l ≤ (l.length : Int) * B := by
  induction l with
  | nil => simp [isum]
  | cons x t ih =>
    have h1 := h x (by simp)
    have h2 := ih (fun y hy => h y (List.mem_cons_of_mem _ hy))
    simp only [isum, List.length_cons]
    rw [Int.natCast_add, Int.add_mul]
    omega
theorem term_in {f g : List Int} (hf : InB f 10000) (hg : InB g 10000) (n d : Nat) : -100000000 ≤ term f g n d ∧ term f g n d ≤ 100000000 := by
  have := mul_in (hf.at (by omega) d) (hg.at (by omega) (n / d)) (by omega)
  unfold term; omega
theorem isum_terms {f g : List Int} (hf : InB f 10000) (hg : InB g 10000) (n : Nat) (l : List Nat) (hl : l.length ≤ 1000) : -100000000000 ≤ isum (l.map (term f g n)) ∧ isum (l.map (term f g n)) ≤ 100000000000 := by
  have h := isum_bound (l := l.map (term f g n)) (B := 100000000) (by omega) (fun x hx => by
    obtain ⟨d, _, rfl⟩ := List.mem_map.1 hx; exact term_in hf hg n d)
  rw [List.length_map] at h
  omega
theorem times_length (f g : List Int) : (times f g).length = 24 := by simp [times]
theorem At_times (f g : List Int) (n : Nat) (h : 1 ≤ n ∧ n ≤ 24) : At (times f g) n = conv f g n := by
  unfold At times
  rw [List.getD_eq_getElem?_getD, List.getElem?_map, List.getElem?_range (by omega)]
  simp only [Option.map_some, Option.getD_some]
  rw [show n - 1 + 1 = n by omega]
theorem ext_At {a b : List Int} (ha : a.length = 24) (hb : b.length = 24) (h : ∀ n, 1 ≤ n → n ≤ 24 → At a n = At b n) : a = b := by
  refine List.ext_getElem (by omega) (fun t h1 h2 => ?_)
  have := h (t + 1) (by omega) (by omega)
  unfold At at this
  rw [show t + 1 - 1 = t by omega] at this
  simpa [List.getD_eq_getElem?_getD, List.getElem?_eq_getElem h1, List.getElem?_eq_getElem h2] using this
theorem At_set (a : List Int) (m : Nat) (x : Int) (n : Nat) (hm : 1 ≤ m) (hl : m ≤ a.length) (hn : 1 ≤ n) : At (a.set (m - 1) x) n = if n = m then x else At a n := by
  unfold At
  simp only [List.getD_eq_getElem?_getD, List.getElem?_set]
  by_cases e : n = m
  · subst e; simp [show n - 1 < a.length by omega]
  · rw [if_neg (by omega), if_neg e]

/-- What the product of two rows tells: the row and true, or nothing and false. -/
def timesR (f g : List Int) : List Int × Bool := if (InB f 10000 ∧ f.length = 24) ∧ (InB g 10000 ∧ g.length = 24) then (times f g, true) else ([], false)
theorem InB_iff_At {f : List Int} (hl : f.length = 24) (m : Int) : InB f m ↔ ∀ n, 1 ≤ n → n ≤ 24 → -m ≤ At f n ∧ At f n ≤ m := by
  constructor
  · intro h n n1 n2
    unfold At
    rw [List.getD_eq_getElem?_getD, List.getElem?_eq_getElem (show n - 1 < f.length by omega)]
    exact h _ (List.getElem_mem _)
  · intro h x hx
    obtain ⟨i, hi, rfl⟩ := List.mem_iff_getElem.1 hx
    have := h (i + 1) (by omega) (by omega)
    unfold At at this
    rw [List.getD_eq_getElem?_getD, List.getElem?_eq_getElem (show i + 1 - 1 < f.length by omega)] at this
    simpa using this
theorem timesR_length (f g : List Int) : (timesR f g).1.length ≤ 24 := by
  unfold timesR; split
  · exact Nat.le_of_eq (times_length f g)
  · simp

/-- The rows with names. -/
def named : Nat → List Int
  | 0 => [1, 0, 0, 0, 0, 0, 0, 0, 0, 0, 0, 0, 0, 0, 0, 0, 0, 0, 0, 0, 0, 0, 0, 0]
  | 1 => [1, 1, 1, 1, 1, 1, 1, 1, 1, 1, 1, 1, 1, 1, 1, 1, 1, 1, 1, 1, 1, 1, 1, 1]
  | 2 => [1, 2, 3, 4, 5, 6, 7, 8, 9, 10, 11, 12, 13, 14, 15, 16, 17, 18, 19, 20, 21, 22, 23, 24]
  | 3 => [1, 2, 2, 3, 2, 4, 2, 4, 3, 4, 2, 6, 2, 4, 4, 5, 2, 6, 2, 6, 4, 4, 2, 8]
  | 4 => [1, 3, 4, 7, 6, 12, 8, 15, 13, 18, 12, 28, 14, 24, 24, 31, 18, 39, 20, 42, 32, 36, 24, 60]
  | 5 => [1, 1, 2, 2, 4, 2, 6, 4, 6, 4, 10, 4, 12, 6, 8, 8, 16, 6, 18, 8, 12, 10, 22, 8]
  | 6 => [1, -1, -1, 0, -1, 1, -1, 0, 0, 1, -1, 0, -1, 1, 1, 0, -1, 0, -1, 0, 1, 1, -1, 0]
  | _ => [1, -1, -1, 1, -1, 1, -1, -1, 1, 1, -1, -1, -1, 1, 1, 1, -1, -1, -1, -1, 1, 1, -1, 1]
theorem named_length (i : Nat) : (named i).length = 24 := by
  unfold named; split <;> rfl
theorem named_in (i : Nat) : InB (named i) 60 := by
  unfold named; split <;> decide

/-- A row multiplied so many times with another one. -/
def powF : Nat → List Int → List Int → List Int × Bool
  | 0, _, out => (out, true)
  | m + 1, f, out => if (timesR out f).2 = true then powF m f (timesR out f).1 else ([], false)
/-- What PowerOf tells. -/
def powR (f : List Int) (t : Int) : List Int × Bool := if (InB f 1000000000 ∧ f.length = 24) ∧ (0 ≤ t ∧ t ≤ 6) then powF t.toNat f (named 0) else ([], false)
theorem powF_length : ∀ (m : Nat) (f out : List Int), out.length ≤ 24 → (powF m f out).1.length ≤ 24 := by
  intro m
  induction m with
  | zero => intro f out h; exact h
  | succ m ih =>
    intro f out h
    unfold powF
    split
    · exact ih f _ (timesR_length out f)
    · simp
theorem powR_length (f : List Int) (t : Int) : (powR f t).1.length ≤ 24 := by
  unfold powR; split
  · exact powF_length _ _ _ (by rw [named_length]; omega)
  · simp

/-- The row that is at each number as told. -/
def rowOf (g : Nat → Int) : List Int := (List.range 24).map (fun i => g (i + 1))
theorem rowOf_length (g : Nat → Int) : (rowOf g).length = 24 := by simp [rowOf]
theorem At_rowOf (g : Nat → Int) (n : Nat) (h : 1 ≤ n ∧ n ≤ 24) : At (rowOf g) n = g n := by
  unfold At rowOf
  rw [List.getD_eq_getElem?_getD, List.getElem?_map, List.getElem?_range (by omega)]
  simp only [Option.map_some, Option.getD_some]
  rw [show n - 1 + 1 = n by omega]
theorem times_rowOf (f g : List Int) : times f g = rowOf (conv f g) := rfl
theorem ev_rowBy_l (GF : Nat → Int → Option Int) (g : Nat → Int) (h : ∀ n : Nat, 1 ≤ n → n ≤ 24 → Ev (fun k => GF k (n : Int)) (g n)) : ∀ (d i : Nat) (out : List Int), i + d = 24 → out.length = 24 → (∀ n, 1 ≤ n → n ≤ i → At out n = g n) →
    Ev (fun k => impl_rowBy.l0 GF k out 24 (i : Int)) (rowOf g) := by
  intro d
  induction d with
  | zero =>
    intro i out hi hl ho
    refine Ev.step (fun k => by rw [impl_rowBy.l0]) ?_
    have c : ¬ (i : Int) < 24 := by omega
    simp only [if_neg c]
    exact Ev.ret (ext_At hl (rowOf_length g) (fun n n1 n2 => by rw [ho n n1 (by omega), At_rowOf g n ⟨n1, n2⟩]))
  | succ d ih =>
    intro i out hi hl ho
    refine Ev.step (fun k => by rw [impl_rowBy.l0]) ?_
    have c : (i : Int) < 24 := by omega
    have c1 : 0 ≤ (i : Int) := by omega
    have c2 : (i : Int) < (out.length : Int) := by omega
    simp only [if_pos c, w64 (x := (i : Int) + 1) (by omega), if_pos c1, if_pos c2, Int.toNat_natCast]
    refine Ev.bind (h (i + 1) (by omega) (by omega)) ?_
    refine ih (i + 1) _ (by omega) (by rw [List.length_set]; exact hl) (fun n n1 n2 => ?_)
    have := At_set out (i + 1) (g (i + 1)) n (by omega) (by omega) n1
    rw [show i + 1 - 1 = i by omega] at this
    rw [this]
    by_cases e : n = i + 1
    · rw [if_pos e, e]
    · rw [if_neg e]; exact ho n n1 (by omega)
theorem ev_rowBy (GF : Nat → Int → Option Int) (g : Nat → Int) (h : ∀ n : Nat, 1 ≤ n → n ≤ 24 → Ev (fun k => GF k (n : Int)) (g n)) : Ev (fun k => impl_rowBy.f GF k) (rowOf g) := by
  unfold impl_rowBy.f
  have c : 24 ≤ 35184372088832 := by omega
  simp only [if_pos c, Option.bind_some, List.length_replicate]
  exact ev_rowBy_l GF g h 24 0 _ (by omega) (by simp) (fun n n1 n2 => by omega)

theorem ev_within_l (f : List Int) (m : Int) (hm : 0 ≤ m ∧ m ≤ 1000000000000) (hf : f.length ≤ 1000000000000000) : ∀ (d i : Nat), i + d = f.length →
    Ev (fun k => impl_within.l0 k f m f (f.length : Int) (i : Int)) (decide (InB (f.drop i) m ∧ f.length = 24)) := by
  intro d
  induction d with
  | zero =>
    intro i hi
    refine Ev.step (fun k => by rw [impl_within.l0]) ?_
    have h1 : ¬ (i : Int) < (f.length : Int) := by omega
    simp only [if_neg h1]
    refine Ev.ret ?_
    rw [List.drop_eq_nil_of_le (by omega), Bool.eq_iff_iff]; simp [InB_nil]; omega
  | succ d ih =>
    intro i hi
    refine Ev.step (fun k => by rw [impl_within.l0]) ?_
    have h1 : (i : Int) < (f.length : Int) := by omega
    have h2 : (0 : Int) ≤ (i : Int) := by omega
    simp only [if_pos h1, if_pos h2, rd_nat, w64 (x := -m) (by omega)]
    have e := drop_step f i (by omega)
    by_cases a : f.getD i 0 < -m
    · simp only [if_pos a]
      refine Ev.ret ?_
      symm; rw [decide_eq_false_iff_not, e, InB_cons]; omega
    · by_cases b : f.getD i 0 > m
      · simp only [if_neg a, gt_iff_lt, if_pos (show m < f.getD i 0 from b)]
        refine Ev.ret ?_
        symm; rw [decide_eq_false_iff_not, e, InB_cons]; omega
      · simp only [if_neg a, if_neg b, w64 (x := (i : Int) + 1) (by omega)]
        refine Ev.to (ih (i + 1) (by omega)) ?_
        rw [Bool.eq_iff_iff]; simp only [decide_eq_true_eq]; rw [e, InB_cons]
        constructor
        · rintro ⟨h, g⟩; exact ⟨⟨by omega, h⟩, g⟩
        · rintro ⟨⟨_, h⟩, g⟩; exact ⟨h, g⟩
theorem ev_within (f : List Int) (m : Int) (hm : 0 ≤ m ∧ m ≤ 1000000000000) (hf : f.length ≤ 1000000000000000) :
    Ev (fun k => impl_within.f k f m) (decide (InB f m ∧ f.length = 24)) := by
  unfold impl_within.f
  exact ev_within_l f m hm hf f.length 0 (by omega)

theorem ev_small (f : List Int) (hf : f.length ≤ 1000000000000000) : Ev (fun k => impl_small.f k f) (decide (InB f 10000 ∧ f.length = 24)) := by
  unfold impl_small.f
  exact Ev.bind (ev_within f 10000 (by omega) hf) (Ev.now _)

theorem ext_getD {a b : List Int} (h : a.length = b.length) (e : ∀ t, t < a.length → a.getD t 0 = b.getD t 0) : a = b := by
  refine List.ext_getElem h (fun t h1 h2 => ?_)
  have := e t h1
  simpa [List.getD_eq_getElem?_getD, List.getElem?_eq_getElem h1, List.getElem?_eq_getElem h2] using this
theorem getD_set (a : List Int) (i : Nat) (x : Int) (t : Nat) (h : i < a.length) : (a.set i x).getD t 0 = if t = i then x else a.getD t 0 := by
  simp only [List.getD_eq_getElem?_getD, List.getElem?_set]
  by_cases e : i = t
  · subst e; simp [h]
  · simp [e, Ne.symm e]
def RevAt (l xs : List Int) (i : Nat) : Prop := xs.length = l.length ∧ ∀ t, t < l.length → xs.getD t 0 = if t < i ∨ l.length - i ≤ t then l.getD (l.length - 1 - t) 0 else l.getD t 0
theorem ev_Reverse_l (l : List Int) (hn : l.length ≤ 1000000000000) : ∀ (d i : Nat) (xs : List Int), RevAt l xs i → l.length ≤ 2 * i + d →
    Ev (fun k => slices_Reverse_int_int.l0 k xs (i : Int) ((l.length : Int) - 1 - (i : Int))) l.reverse := by
  intro d
  induction d with
  | zero =>
    intro i xs ⟨hl, hx⟩ hd
    refine Ev.step (fun k => by rw [slices_Reverse_int_int.l0]) ?_
    have h1 : ¬ (i : Int) < (l.length : Int) - 1 - (i : Int) := by omega
    simp only [if_neg h1]
    refine Ev.ret (ext_getD (by simp [hl]) (fun t ht => ?_))
    rw [hx t (by omega)]
    simp only [List.getD_eq_getElem?_getD]
    rw [List.getElem?_reverse (by omega), if_pos (by omega)]
  | succ d ih =>
    intro i xs ⟨hl, hx⟩ hd
    refine Ev.step (fun k => by rw [slices_Reverse_int_int.l0]) ?_
    by_cases h1 : (i : Int) < (l.length : Int) - 1 - (i : Int)
    · have a1 : (0 : Int) ≤ (l.length : Int) - 1 - (i : Int) := by omega
      have a2 : (l.length : Int) - 1 - (i : Int) < (xs.length : Int) := by omega
      have a3 : (0 : Int) ≤ (i : Int) := by omega
      have a4 : (i : Int) < (xs.length : Int) := by omega
      have ej : (l.length : Int) - 1 - (i : Int) = ((l.length - 1 - i : Nat) : Int) := by omega
      simp only [if_pos h1, if_pos a1, if_pos a2, if_pos a3, if_pos a4, w64 (x := (i : Int) + 1) (by omega), w64 (x := (l.length : Int) - 1 - (i : Int) - 1) (by omega)]
      rw [show (l.length : Int) - 1 - (i : Int) - 1 = (l.length : Int) - 1 - ((i + 1 : Nat) : Int) by omega, show (i : Int) + 1 = ((i + 1 : Nat) : Int) by omega]
      refine ih (i + 1) _ ⟨by simp [hl], fun t ht => ?_⟩ (by omega)
      rw [ej]
      simp only [Int.toNat_natCast, rd_nat]
      rw [getD_set _ _ _ _ (by simp; omega), getD_set _ _ _ _ (by omega)]
      by_cases e1 : t = l.length - 1 - i
      · rw [if_pos e1, if_pos (by omega), hx i (by omega), if_neg (by omega), e1]; congr 1; omega
      · rw [if_neg e1]
        by_cases e2 : t = i
        · rw [if_pos e2, if_pos (by omega), hx _ (by omega), if_neg (by omega), e2]
        · rw [if_neg e2, hx t ht]
          by_cases e3 : t < i ∨ l.length - i ≤ t
          · rw [if_pos e3, if_pos (by omega)]
          · rw [if_neg e3, if_neg (by omega)]
    · simp only [if_neg h1]
      refine Ev.ret (ext_getD (by simp [hl]) (fun t ht => ?_))
      rw [hx t (by omega)]
      simp only [List.getD_eq_getElem?_getD]
      rw [List.getElem?_reverse (by omega)]
      by_cases e3 : t < i ∨ l.length - i ≤ t
      · rw [if_pos e3]
      · rw [if_neg e3]; congr 2; omega
theorem ev_Reverse (l : List Int) (hn : l.length ≤ 1000000000000) : Ev (fun k => slices_Reverse_int_int.f k l) l.reverse := by
  unfold slices_Reverse_int_int.f
  rw [w64 (by omega)]
  have := ev_Reverse_l l hn l.length 0 l ⟨rfl, fun t ht => by rw [if_neg (by omega)]⟩ (by omega)
  simpa using this

/-- Natural numbers as the program's numbers. -/
def ints (l : List Nat) : List Int := l.map (fun x : Nat => (x : Int))
theorem ints_length (l : List Nat) : (ints l).length = l.length := by simp [ints]
theorem ints_append (l m : List Nat) : ints (l ++ m) = ints l ++ ints m := by simp [ints]
theorem ints_reverse (l : List Nat) : (ints l).reverse = ints l.reverse := by simp [ints]

theorem sq_le {d n : Nat} (h : d * d ≤ n) (hn : n ≤ 10000) : d ≤ 100 := by
  refine Nat.le_of_not_lt (fun hl => ?_)
  have := Nat.mul_le_mul (show 101 ≤ d from hl) (show 101 ≤ d from hl)
  omega
theorem ev_divisors_l (n : Nat) (h1 : 1 ≤ n) (hn : n ≤ 10000) : ∀ (m d : Nat), 1 ≤ d → d + m = 102 → (∀ x, x < d → x * x ≤ n) →
    Ev (fun k => impl_divisors.l0 k (n : Int) (ints (lowD n d)) (ints ((lowS n d).map (fun x => n / x))) (d : Int)) (ints (divs n)) := by
  intro m
  induction m with
  | zero =>
    intro d hd hm hlow
    have := hlow 101 (by omega)
    omega
  | succ m ih =>
    intro d hd hm hlow
    refine Ev.step (fun k => by rw [impl_divisors.l0]) ?_
    have dd : ((d * d : Nat) : Int) = (d : Int) * (d : Int) := by simp
    have hb : d * d ≤ 101 * 101 := Nat.mul_le_mul (by omega) (by omega)
    simp only [w64 (x := (d : Int) * (d : Int)) (by omega), w64 (x := (d : Int) + 1) (by omega)]
    by_cases hc : d * d ≤ n
    · have c1 : (d : Int) * (d : Int) ≤ (n : Int) := by omega
      have c2 : ¬ (d : Int) = 0 := by omega
      have low' : ∀ x, x < d + 1 → x * x ≤ n := fun x hx => by
        by_cases e : x = d
        · subst e; exact hc
        · exact hlow x (by omega)
      simp only [if_pos c1, if_neg c2, ← Int.ofNat_tmod, ← Int.ofNat_tdiv]
      have l1 : (ints (lowD n d)).length < 17592186044416 := by rw [ints_length]; have := length_lowD n d; omega
      have l2 : (ints ((lowS n d).map (fun x => n / x))).length < 17592186044416 := by rw [ints_length, List.length_map]; have := length_lowS n d; omega
      have ih' := ih (d + 1) (by omega) (by omega) low'
      by_cases hz : n % d = 0
      · have z1 : ((n % d : Nat) : Int) = 0 := by omega
        simp only [if_pos z1, if_pos l1, Option.bind_some]
        have eD : ints (lowD n (d + 1)) = ints (lowD n d) ++ [(d : Int)] := by rw [lowD_succ n d hd, if_pos hz, ints_append]; rfl
        by_cases hs : d * d < n
        · have s1 : (d : Int) * (d : Int) < (n : Int) := by omega
          have nb : n / d ≤ 10000 := Nat.le_trans (Nat.div_le_self _ _) hn
          have q0 : (0 : Int) ≤ ((n / d : Nat) : Int) := Int.natCast_nonneg _
          simp only [if_pos s1, if_pos l2, w64 (x := ((n / d : Nat) : Int)) (by omega)]
          rw [lowS_succ n d hd, if_pos ⟨hz, hs⟩, List.map_append, ints_append, eD] at ih'
          exact ih'
        · have s1 : ¬ (d : Int) * (d : Int) < (n : Int) := by omega
          simp only [if_neg s1]
          rw [lowS_succ n d hd, if_neg (fun h => hs h.2), eD] at ih'
          exact ih'
      · have z1 : ¬ ((n % d : Nat) : Int) = 0 := by omega
        simp only [if_neg z1]
        rw [lowD_succ n d hd, if_neg hz, lowS_succ n d hd, if_neg (fun h => hz h.1)] at ih'
        exact ih'
    · have c1 : ¬ (d : Int) * (d : Int) ≤ (n : Int) := by omega
      simp only [if_neg c1]
      have l2 : (ints ((lowS n d).map (fun x => n / x))).length ≤ 1000 := by rw [ints_length, List.length_map]; have := length_lowS n d; omega
      refine Ev.bind (ev_Reverse _ (by omega)) ?_
      have l3 : (ints (lowD n d)).length + (ints ((lowS n d).map (fun x => n / x))).reverse.length < 17592186044416 := by
        rw [List.length_reverse, ints_length]; have := length_lowD n d; omega
      simp only [if_pos l3]
      refine Ev.ret ?_
      rw [ints_reverse, ← ints_append, divs_parts n d h1 (by omega) hlow]
theorem ev_divisors (n : Nat) (h1 : 1 ≤ n) (hn : n ≤ 10000) : Ev (fun k => impl_divisors.f k (n : Int)) (ints (divs n)) := by
  unfold impl_divisors.f
  exact ev_divisors_l n h1 hn 101 1 (by omega) (by omega) (fun x hx => by
    have : x = 0 := by omega
    subst this; omega)

theorem getL_m (l : List Nat) (i : Nat) (h : i < l.length) : l.getD i 0 ∈ l := by
  rw [List.getD_eq_getElem?_getD, List.getElem?_eq_getElem h]; exact List.getElem_mem _
theorem ints_g (l : List Nat) (i : Nat) : rd (ints l) (i : Int) = ((l.getD i 0 : Nat) : Int) := by
  show (ints l).getD i 0 = _
  unfold ints
  simp only [List.getD_eq_getElem?_getD, List.getElem?_map]
  cases l[i]? <;> simp
theorem isum_tk (l : List Nat) (t : Nat → Int) (i : Nat) (h : i < l.length) : isum ((l.take (i + 1)).map t) = isum ((l.take i).map t) + t (l.getD i 0) := by
  rw [List.take_succ_eq_append_getElem h, List.map_append, isum_append]
  have e : l[i] = l.getD i 0 := by rw [List.getD_eq_getElem?_getD, List.getElem?_eq_getElem h]; rfl
  rw [e]; simp [isum]
theorem ev_iTimes_l {f g : List Int} (hf : InB f 10000) (hg : InB g 10000) (lf : f.length = 24) (lg : g.length = 24) (n : Nat) (hn : 1 ≤ n ∧ n ≤ 24) : ∀ (d i : Nat), i + d = (divs n).length →
    Ev (fun k => impl_TimesOf_1.l0 k (n : Int) f g (isum (((divs n).take i).map (term f g n))) (ints (divs n)) ((divs n).length : Int) (i : Int)) (conv f g n) := by
  intro d
  have hdl := length_divs_le n
  induction d with
  | zero =>
    intro i hi
    refine Ev.step (fun k => by rw [impl_TimesOf_1.l0]) ?_
    have c : ¬ (i : Int) < ((divs n).length : Int) := by omega
    simp only [if_neg c]
    exact Ev.ret (by rw [List.take_of_length_le (by omega)]; rfl)
  | succ d ih =>
    intro i hi
    refine Ev.step (fun k => by rw [impl_TimesOf_1.l0]) ?_
    have c : (i : Int) < ((divs n).length : Int) := by omega
    have c1 : 0 ≤ (i : Int) := by omega
    have hm := mem_divs.1 (getL_m (divs n) i (by omega))
    have st := isum_tk (divs n) (term f g n) i (by omega)
    have sb := isum_terms hf hg n ((divs n).take i) (by rw [List.length_take]; omega)
    have ih' := ih (i + 1) (by omega)
    rw [st] at ih'
    have ei := ints_g (divs n) i
    generalize hx : (divs n).getD i 0 = x at *
    have q1 : 1 ≤ n / x := Nat.div_pos hm.2.1 (by omega)
    have q2 : n / x ≤ n := Nat.div_le_self _ _
    have q0 : (0 : Int) ≤ ((n / x : Nat) : Int) := Int.natCast_nonneg _
    have tb := term_in hf hg n x
    have et : At f x * At g (n / x) = term f g n x := rfl
    generalize hq : n / x = q at *
    have c2 : 0 ≤ (x : Int) - 1 := by omega
    have c3 : (x : Int) - 1 < (f.length : Int) := by omega
    have c4 : ¬ (x : Int) = 0 := by omega
    have c5 : 0 ≤ (q : Int) - 1 := by omega
    have c6 : (q : Int) - 1 < (g.length : Int) := by omega
    simp only [ints_length, if_pos c, if_pos c1, ei, w64 (x := (i : Int) + 1) (by omega), w64 (x := (x : Int) - 1) (by omega), if_pos c2, if_pos c3, if_neg c4, ← Int.ofNat_tdiv, hq, w64 (x := (q : Int)) (by omega), w64 (x := (q : Int) - 1) (by omega), if_pos c5, if_pos c6, rd_at f x hm.1, rd_at g q q1, et, w64 (x := term f g n x) (by omega)]
    rw [w64 (by omega)]
    exact ih'
theorem ev_iTimes_1 {f g : List Int} (hf : InB f 10000) (hg : InB g 10000) (lf : f.length = 24) (lg : g.length = 24) (n : Nat) (h1 : 1 ≤ n) (h2 : n ≤ 24) : Ev (fun k => impl_TimesOf_1.f k (n : Int) f g) (conv f g n) := by
  unfold impl_TimesOf_1.f
  refine Ev.bind (ev_divisors n h1 (by omega)) ?_
  rw [ints_length]
  exact ev_iTimes_l hf hg lf lg n ⟨h1, h2⟩ (divs n).length 0 (by omega)
theorem ev_iTimesOf (f g : List Int) (hf : f.length ≤ 1000000000000000) (hg : g.length ≤ 1000000000000000) : Ev (fun k => impl_TimesOf.f k f g) (timesR f g) := by
  unfold impl_TimesOf.f
  refine Ev.bind (ev_small f hf) ?_
  by_cases h1 : InB f 10000 ∧ f.length = 24
  · simp only [decide_eq_true h1, if_true]
    refine Ev.bind (ev_small g hg) ?_
    by_cases h2 : InB g 10000 ∧ g.length = 24
    · simp only [decide_eq_true h2, if_true]
      refine Ev.bind (Ev.to (ev_rowBy _ (conv f g) (fun n n1 n2 => ev_iTimes_1 h1.1 h2.1 h1.2 h2.2 n n1 n2)) (times_rowOf f g).symm) ?_
      exact Ev.ret (by unfold timesR; rw [if_pos ⟨h1, h2⟩])
    · simp only [decide_eq_false h2, Bool.false_eq_true, if_false]
      exact Ev.ret (by unfold timesR; rw [if_neg (fun x => h2 x.2)])
  · simp only [decide_eq_false h1, Bool.false_eq_true, if_false]
    exact Ev.ret (by unfold timesR; rw [if_neg (fun x => h1 x.1)])

theorem ev_iNamedRow (i : Nat) (h : i < 8) : Ev (fun k => impl_NamedRow.f k (i : Int)) (named i) := by
  have : i = 0 ∨ i = 1 ∨ i = 2 ∨ i = 3 ∨ i = 4 ∨ i = 5 ∨ i = 6 ∨ i = 7 := by omega
  rcases this with rfl | rfl | rfl | rfl | rfl | rfl | rfl | rfl <;> exact Ev.of (fun k => impl_NamedRow.mono _ k) (k := 200) (by decide +kernel)

theorem ev_RowOk (f : List Int) (hf : f.length ≤ 1000000000000000) : Ev (fun k => impl_RowOk.f k f) (decide (InB f 1000000000 ∧ f.length = 24)) := by
  unfold impl_RowOk.f
  exact Ev.bind (ev_within f 1000000000 (by omega) hf) (Ev.now _)

theorem ev_iPow_l (f : List Int) (hf : f.length ≤ 1000000000000000) (t : Nat) (ht : t ≤ 6) : ∀ (m i : Nat) (out : List Int), i + m = t → out.length ≤ 24 →
    Ev (fun k => impl_PowerOf.l0 k f out (t : Int) (i : Int)) (powF m f out) := by
  intro m
  induction m with
  | zero =>
    intro i out hi ho
    refine Ev.step (fun k => by rw [impl_PowerOf.l0]) ?_
    have c : ¬ (i : Int) < (t : Int) := by omega
    simp only [if_neg c]
    exact Ev.now _
  | succ m ih =>
    intro i out hi ho
    refine Ev.step (fun k => by rw [impl_PowerOf.l0]) ?_
    have c : (i : Int) < (t : Int) := by omega
    simp only [if_pos c, w64 (x := (i : Int) + 1) (by omega)]
    refine Ev.bind (ev_iTimesOf out f (by omega) hf) ?_
    unfold powF
    by_cases h : (timesR out f).2 = true
    · simp only [if_pos h]
      exact ih (i + 1) _ (by omega) (timesR_length out f)
    · simp only [if_neg h]; exact Ev.now _
theorem ev_iPowerOf (f : List Int) (t : Int) (hf : f.length ≤ 1000000000000000) : Ev (fun k => impl_PowerOf.f k f t) (powR f t) := by
  unfold impl_PowerOf.f
  have no : ¬ ((InB f 1000000000 ∧ f.length = 24) ∧ (0 ≤ t ∧ t ≤ 6)) → Ev (fun k => impl_PowerOf.j0 k f t true) (powR f t) := fun h => by
    refine Ev.step (fun k => by rw [impl_PowerOf.j0]) ?_
    simp only [if_true]
    exact Ev.ret (by unfold powR; rw [if_neg h])
  refine Ev.bind (ev_RowOk f hf) ?_
  by_cases h1 : InB f 1000000000 ∧ f.length = 24
  · simp only [decide_eq_true h1, if_true]
    by_cases h2 : t < 0
    · simp only [if_pos h2]; exact no (fun x => by omega)
    · simp only [if_neg h2]
      by_cases h3 : t > 6
      · simp only [decide_eq_true h3]; exact no (fun x => by omega)
      · simp only [decide_eq_false h3]
        refine Ev.step (fun k => by rw [impl_PowerOf.j0]) ?_
        simp only [Bool.false_eq_true, if_false]
        refine Ev.bind (ev_iNamedRow 0 (by omega)) ?_
        obtain ⟨n, rfl⟩ := Int.eq_ofNat_of_zero_le (show 0 ≤ t by omega)
        refine Ev.to (ev_iPow_l f hf n (by omega) n 0 (named 0) (by omega) (by rw [named_length]; omega)) ?_
        unfold powR
        rw [if_pos ⟨h1, by omega⟩, Int.toNat_natCast]
  · simp only [decide_eq_false h1, Bool.false_eq_true, if_false]
    exact no (fun x => h1 x.1)

theorem l1In_f (a b c : Int) : spec_l1In.f a b c = some (decide (b ≤ a ∧ a ≤ c)) := by
  unfold spec_l1In.f
  by_cases h : a ≥ b
  · rw [if_pos h]; simp [show b ≤ a from h]
  · rw [if_neg h]; simp [show ¬ b ≤ a from h]

theorem ev_sRowOk_l (f : List Int) (hf : f.length ≤ 1000000000000000) : ∀ (d i : Nat), i + d = f.length →
    Ev (fun k => spec_RowOk.l0 k f (i : Int)) (decide (InB (f.drop i) 1000000000 ∧ f.length = 24)) := by
  intro d
  induction d with
  | zero =>
    intro i hi
    refine Ev.step (fun k => by rw [spec_RowOk.l0]) ?_
    have h1 : ¬ (i : Int) < (f.length : Int) := by omega
    simp only [if_neg h1]
    refine Ev.ret ?_
    rw [List.drop_eq_nil_of_le (by omega), Bool.eq_iff_iff]; simp [InB_nil]; omega
  | succ d ih =>
    intro i hi
    refine Ev.step (fun k => by rw [spec_RowOk.l0]) ?_
    have h1 : (i : Int) < (f.length : Int) := by omega
    have h2 : (0 : Int) ≤ (i : Int) := by omega
    simp only [if_pos h1, if_pos h2, rd_nat, l1In_f, Option.bind_some, decide_eq_true_eq]
    have e := drop_step f i (by omega)
    by_cases a : -1000000000 ≤ f.getD i 0 ∧ f.getD i 0 ≤ 1000000000
    · simp only [if_pos a, w64 (x := (i : Int) + 1) (by omega)]
      refine Ev.to (ih (i + 1) (by omega)) ?_
      rw [Bool.eq_iff_iff]; simp only [decide_eq_true_eq]; rw [e, InB_cons]
      constructor
      · rintro ⟨h, g⟩; exact ⟨⟨a, h⟩, g⟩
      · rintro ⟨⟨_, h⟩, g⟩; exact ⟨h, g⟩
    · simp only [if_neg a]
      refine Ev.ret ?_
      symm; rw [decide_eq_false_iff_not, e, InB_cons]; rintro ⟨⟨h, _⟩, _⟩; exact a h
theorem ev_sRowOk (f : List Int) (hf : f.length ≤ 1000000000000000) :
    Ev (fun k => spec_RowOk.f k f) (decide (InB f 1000000000 ∧ f.length = 24)) := by
  unfold spec_RowOk.f
  exact ev_sRowOk_l f hf f.length 0 (by omega)

theorem lowD_24 (n : Nat) (h : 1 ≤ n ∧ n ≤ 24) : lowD n 25 = divs n := by
  refine sorted_ext (lowD_sorted n 25) (divs_sorted n) (fun a => ?_)
  rw [mem_lowD, mem_divs]
  constructor
  · rintro ⟨x, y, z⟩; exact ⟨x, Nat.le_of_dvd (by omega) (Nat.dvd_of_mod_eq_zero z), z⟩
  · rintro ⟨x, y, z⟩; exact ⟨x, by omega, z⟩
/-- What the row of sums holds while the products are added. -/
def TimesAt (f g out : List Int) (a y : Nat) : Prop :=
  out.length = 24 ∧ ∀ n, 1 ≤ n → n ≤ 24 → At out n = isum ((lowD n a).map (term f g n)) + if n % a = 0 ∧ n / a < y then term f g n a else 0
theorem TimesAt.next {f g out : List Int} {a y : Nat} (h : TimesAt f g out a y) (ha : 1 ≤ a) (hy : 24 < a * y) : TimesAt f g out (a + 1) 1 := by
  refine ⟨h.1, fun n h1 h2 => ?_⟩
  rw [h.2 n h1 h2, lowD_succ n a ha, if_neg (show ¬ (n % (a + 1) = 0 ∧ n / (a + 1) < 1) from ?_)]
  · by_cases z : n % a = 0
    · have : n / a < y := by rw [Nat.div_lt_iff_lt_mul (by omega), Nat.mul_comm]; omega
      rw [if_pos ⟨z, this⟩, if_pos z, List.map_append, isum_append]
      simp [isum]
    · rw [if_neg (fun x => z x.1), if_neg z]
  · rintro ⟨z, q⟩
    have e := Nat.div_add_mod n (a + 1)
    generalize n / (a + 1) = q' at *
    have : q' = 0 := by omega
    subst this; omega
theorem ev_l2_l1 {f g : List Int} (hf : InB f 10000) (hg : InB g 10000) (lf : f.length = 24) (lg : g.length = 24) (a : Nat) (ha : 1 ≤ a ∧ a ≤ 24)
    (hN : ∀ out, TimesAt f g out (a + 1) 1 → Ev (fun k => spec_l2Times.l0 k f g out ((a + 1 : Nat) : Int)) (times f g)) : ∀ (m y : Nat) (out : List Int), y + m = 25 → 1 ≤ y → TimesAt f g out a y →
    Ev (fun k => spec_l2Times.l1 k f g out (a : Int) (y : Int)) (times f g) := by
  intro m
  induction m with
  | zero =>
    intro y out hy h1 hI
    have hb : 1 * 25 ≤ a * y := Nat.mul_le_mul ha.1 (by omega)
    have hb2 : a * y ≤ 24 * 25 := Nat.mul_le_mul ha.2 (by omega)
    refine Ev.step (fun k => by rw [spec_l2Times.l1]) ?_
    have e : (a : Int) * (y : Int) = ((a * y : Nat) : Int) := by simp
    have c : ¬ ((a * y : Nat) : Int) ≤ 24 := by omega
    simp only [e, w64 (x := ((a * y : Nat) : Int)) (by omega), if_neg c, w64 (x := (a : Int) + 1) (by omega)]
    exact hN out (hI.next ha.1 (by omega))
  | succ m ih =>
    intro y out hy h1 hI
    have hb2 : a * y ≤ 24 * 25 := Nat.mul_le_mul ha.2 (by omega)
    have hb1 : 1 * 1 ≤ a * y := Nat.mul_le_mul ha.1 h1
    refine Ev.step (fun k => by rw [spec_l2Times.l1]) ?_
    have e : (a : Int) * (y : Int) = ((a * y : Nat) : Int) := by simp
    by_cases hc : a * y ≤ 24
    · have c : ((a * y : Nat) : Int) ≤ 24 := by omega
      have c1 : 0 ≤ ((a * y : Nat) : Int) - 1 := by omega
      have c2 : ((a * y : Nat) : Int) - 1 < (out.length : Int) := by rw [hI.1]; omega
      have c3 : 0 ≤ (a : Int) - 1 := by omega
      have c4 : (a : Int) - 1 < (f.length : Int) := by omega
      have c5 : 0 ≤ (y : Int) - 1 := by omega
      have c6 : (y : Int) - 1 < (g.length : Int) := by
        have := Nat.mul_le_mul_right y ha.1; omega
      have yv : a * y / a = y := Nat.mul_div_cancel_left _ (by omega)
      have tm : At f a * At g y = term f g (a * y) a := by unfold term; rw [yv]
      have old : At out (a * y) = isum ((lowD (a * y) a).map (term f g (a * y))) := by
        rw [hI.2 (a * y) (by omega) hc, if_neg (fun x => by omega)]; omega
      have b1 := isum_terms hf hg (a * y) (lowD (a * y) a) (by have := length_lowD (a * y) a; omega)
      have b2 := term_in hf hg (a * y) a
      rw [← old] at b1
      have ti : (((a * y : Nat) : Int) - 1).toNat = a * y - 1 := by omega
      simp only [e, w64 (x := ((a * y : Nat) : Int)) (by omega), w64 (x := ((a * y : Nat) : Int) - 1) (by omega), w64 (x := (a : Int) - 1) (by omega), w64 (x := (y : Int) - 1) (by omega), w64 (x := (y : Int) + 1) (by omega),
        if_pos c, if_pos c1, if_pos c2, if_pos c3, if_pos c4, if_pos c5, if_pos c6, rd_at out (a * y) (by omega), rd_at f a (by omega), rd_at g y (by omega), tm, w64 (x := term f g (a * y) a) (by omega), w64 (x := At out (a * y) + term f g (a * y) a) (by omega), ti]
      refine ih (y + 1) _ (by omega) (by omega) ⟨by rw [List.length_set]; exact hI.1, fun n n1 n2 => ?_⟩
      rw [At_set out (a * y) _ n (by omega) (by rw [hI.1]; exact hc) n1]
      by_cases en : n = a * y
      · subst en
        rw [if_pos rfl, if_pos ⟨Nat.mul_mod_right _ _, by omega⟩, old]
      · rw [if_neg en, hI.2 n n1 n2]
        by_cases z : n % a = 0 ∧ n / a < y
        · rw [if_pos z, if_pos ⟨z.1, by omega⟩]
        · rw [if_neg z, if_neg (fun x => z ⟨x.1, ?_⟩)]
          have en2 := Nat.div_add_mod n a
          rw [x.1] at en2
          by_cases q : n / a = y
          · rw [q] at en2; omega
          · omega
    · have c : ¬ ((a * y : Nat) : Int) ≤ 24 := by omega
      simp only [e, w64 (x := ((a * y : Nat) : Int)) (by omega), if_neg c, w64 (x := (a : Int) + 1) (by omega)]
      exact hN out (hI.next ha.1 (by omega))
theorem ev_l2_l0 {f g : List Int} (hf : InB f 10000) (hg : InB g 10000) (lf : f.length = 24) (lg : g.length = 24) : ∀ (m a : Nat) (out : List Int), a + m = 25 → 1 ≤ a → TimesAt f g out a 1 →
    Ev (fun k => spec_l2Times.l0 k f g out (a : Int)) (times f g) := by
  intro m
  induction m with
  | zero =>
    intro a out ha h1 hI
    refine Ev.step (fun k => by rw [spec_l2Times.l0]) ?_
    have c : ¬ (a : Int) ≤ 24 := by omega
    simp only [if_neg c]
    have e : a = 25 := by omega
    subst e
    refine Ev.ret (ext_At hI.1 (times_length f g) (fun n n1 n2 => ?_))
    rw [hI.2 n n1 n2, At_times f g n ⟨n1, n2⟩, if_neg (fun x => by omega), lowD_24 n ⟨n1, n2⟩]
    unfold conv; omega
  | succ m ih =>
    intro a out ha h1 hI
    refine Ev.step (fun k => by rw [spec_l2Times.l0]) ?_
    have c : (a : Int) ≤ 24 := by omega
    simp only [if_pos c]
    exact ev_l2_l1 hf hg lf lg a (by omega) (fun out h => ih (a + 1) out (by omega) (by omega) h) 24 1 out (by omega) (by omega) hI
theorem ev_l2Times {f g : List Int} (hf : InB f 10000) (hg : InB g 10000) (lf : f.length = 24) (lg : g.length = 24) : Ev (fun k => spec_l2Times.f k f g) (times f g) := by
  unfold spec_l2Times.f
  have c : 24 ≤ 35184372088832 := by omega
  simp only [if_pos c]
  refine ev_l2_l0 hf hg lf lg 24 1 _ (by omega) (by omega) ⟨by simp, fun n n1 n2 => ?_⟩
  rw [if_neg (fun x => by
    have h := x.2
    rw [Nat.div_one] at h
    omega)]
  have e : lowD n 1 = [] := by unfold lowD; rfl
  rw [e]
  unfold At
  rw [List.getD_eq_getElem?_getD, List.getElem?_replicate]
  split <;> simp [isum]
theorem ev_sTimes_l {f g : List Int} (lf : f.length = 24) (lg : g.length = 24) : ∀ (m i : Nat), i + m = 24 → (∀ n, 1 ≤ n → n ≤ i → (-10000 ≤ At f n ∧ At f n ≤ 10000) ∧ (-10000 ≤ At g n ∧ At g n ≤ 10000)) →
    Ev (fun k => spec_TimesOf.l0 k f g (i : Int)) (timesR f g) := by
  intro m
  induction m with
  | zero =>
    intro i hi hI
    refine Ev.step (fun k => by rw [spec_TimesOf.l0]) ?_
    have c : ¬ (i : Int) < 24 := by omega
    have hf : InB f 10000 := (InB_iff_At lf 10000).2 (fun n n1 n2 => (hI n n1 (by omega)).1)
    have hg : InB g 10000 := (InB_iff_At lg 10000).2 (fun n n1 n2 => (hI n n1 (by omega)).2)
    simp only [if_neg c]
    unfold timesR
    rw [if_pos ⟨⟨hf, lf⟩, ⟨hg, lg⟩⟩]
    exact Ev.bind (ev_l2Times hf hg lf lg) (Ev.now _)
  | succ m ih =>
    intro i hi hI
    refine Ev.step (fun k => by rw [spec_TimesOf.l0]) ?_
    have c : (i : Int) < 24 := by omega
    have c1 : 0 ≤ (i : Int) := by omega
    have c2 : (i : Int) < (f.length : Int) := by omega
    have c3 : (i : Int) < (g.length : Int) := by omega
    have ef : rd f (i : Int) = At f (i + 1) := rfl
    have eg : rd g (i : Int) = At g (i + 1) := rfl
    simp only [if_pos c, if_pos c1, if_pos c2, if_pos c3, ef, eg, l1In_f, Option.bind_some, decide_eq_true_eq, w64 (x := (i : Int) + 1) (by omega)]
    have no : ¬ ((-10000 ≤ At f (i + 1) ∧ At f (i + 1) ≤ 10000) ∧ (-10000 ≤ At g (i + 1) ∧ At g (i + 1) ≤ 10000)) → timesR f g = ([], false) := fun h => by
      unfold timesR
      rw [if_neg]
      rintro ⟨⟨hf, _⟩, ⟨hg, _⟩⟩
      exact h ⟨hf.at (by omega) _, hg.at (by omega) _⟩
    by_cases h1 : -10000 ≤ At f (i + 1) ∧ At f (i + 1) ≤ 10000
    · by_cases h2 : -10000 ≤ At g (i + 1) ∧ At g (i + 1) ≤ 10000
      · simp only [if_pos h1, if_pos h2]
        refine ih (i + 1) (by omega) (fun n n1 n2 => ?_)
        by_cases e : n = i + 1
        · subst e; exact ⟨h1, h2⟩
        · exact hI n n1 (by omega)
      · simp only [if_pos h1, if_neg h2]
        exact Ev.ret (no (fun h => h2 h.2)).symm
    · simp only [if_neg h1]
      exact Ev.ret (no (fun h => h1 h.1)).symm
theorem ev_sTimesOf (f g : List Int) (hf : f.length ≤ 1000000000000000) (hg : g.length ≤ 1000000000000000) : Ev (fun k => spec_TimesOf.f k f g) (timesR f g) := by
  unfold spec_TimesOf.f
  have no : ¬ ((InB f 1000000000 ∧ f.length = 24) ∧ (InB g 1000000000 ∧ g.length = 24)) → Ev (fun k => spec_TimesOf.j0 k f g true) (timesR f g) := fun h => by
    refine Ev.step (fun k => by rw [spec_TimesOf.j0]) ?_
    simp only [if_true]
    refine Ev.ret ?_
    unfold timesR
    rw [if_neg (fun x => h ⟨⟨x.1.1.mono (by omega), x.1.2⟩, ⟨x.2.1.mono (by omega), x.2.2⟩⟩)]
  refine Ev.bind (ev_sRowOk f hf) ?_
  by_cases h1 : InB f 1000000000 ∧ f.length = 24
  · simp only [decide_eq_true h1, if_true]
    refine Ev.bind (ev_sRowOk g hg) ?_
    by_cases h2 : InB g 1000000000 ∧ g.length = 24
    · simp only [decide_eq_true h2, Bool.not_true]
      refine Ev.step (fun k => by rw [spec_TimesOf.j0]) ?_
      simp only [Bool.false_eq_true, if_false]
      exact ev_sTimes_l h1.2 h2.2 24 0 (by omega) (fun n n1 n2 => by omega)
    · simp only [decide_eq_false h2, Bool.not_false]
      exact no (fun x => h2 x.2)
  · simp only [decide_eq_false h1, Bool.false_eq_true, if_false]
    exact no (fun x => h1 x.1)

theorem ev_sNamedRow (i : Nat) (h : i < 8) : Ev (fun k => spec_NamedRow.f k (i : Int)) (named i) := by
  have : i = 0 ∨ i = 1 ∨ i = 2 ∨ i = 3 ∨ i = 4 ∨ i = 5 ∨ i = 6 ∨ i = 7 := by omega
  rcases this with rfl | rfl | rfl | rfl | rfl | rfl | rfl | rfl <;> exact Ev.of (fun k => spec_NamedRow.mono _ k) (k := 200) (by decide +kernel)

theorem ev_sPow_l (f : List Int) (hf : f.length ≤ 1000000000000000) (t : Nat) (ht : t ≤ 6) : ∀ (m i : Nat) (out : List Int), i + m = t → out.length ≤ 24 →
    Ev (fun k => spec_PowerOf.l0 k f (t : Int) out (i : Int)) (powF m f out) := by
  intro m
  induction m with
  | zero =>
    intro i out hi ho
    refine Ev.step (fun k => by rw [spec_PowerOf.l0]) ?_
    have c : ¬ (i : Int) < (t : Int) := by omega
    simp only [if_neg c]
    exact Ev.now _
  | succ m ih =>
    intro i out hi ho
    refine Ev.step (fun k => by rw [spec_PowerOf.l0]) ?_
    have c : (i : Int) < (t : Int) := by omega
    simp only [if_pos c, w64 (x := (i : Int) + 1) (by omega)]
    refine Ev.bind (ev_sTimesOf out f (by omega) hf) ?_
    unfold powF
    by_cases h : (timesR out f).2 = true
    · simp only [if_pos h]
      exact ih (i + 1) _ (by omega) (timesR_length out f)
    · simp only [if_neg h]; exact Ev.now _
theorem ev_sPowerOf (f : List Int) (t : Int) (hf : f.length ≤ 1000000000000000) : Ev (fun k => spec_PowerOf.f k f t) (powR f t) := by
  unfold spec_PowerOf.f
  have no : ¬ ((InB f 1000000000 ∧ f.length = 24) ∧ (0 ≤ t ∧ t ≤ 6)) → Ev (fun k => spec_PowerOf.j0 k f t (named 0) true) (powR f t) := fun h => by
    refine Ev.step (fun k => by rw [spec_PowerOf.j0]) ?_
    simp only [if_true]
    exact Ev.ret (by unfold powR; rw [if_neg h])
  refine Ev.bind (ev_sNamedRow 0 (by omega)) (Ev.bind (ev_sRowOk f hf) ?_)
  by_cases h1 : InB f 1000000000 ∧ f.length = 24
  · simp only [decide_eq_true h1, if_true, l1In_f, Option.bind_some]
    by_cases h2 : 0 ≤ t ∧ t ≤ 6
    · simp only [decide_eq_true h2, Bool.not_true]
      refine Ev.step (fun k => by rw [spec_PowerOf.j0]) ?_
      simp only [Bool.false_eq_true, if_false]
      obtain ⟨n, rfl⟩ := Int.eq_ofNat_of_zero_le (show 0 ≤ t by omega)
      refine Ev.to (ev_sPow_l f hf n (by omega) n 0 (named 0) (by omega) (by rw [named_length]; omega)) ?_
      unfold powR
      rw [if_pos ⟨h1, by omega⟩, Int.toNat_natCast]
    · simp only [decide_eq_false h2, Bool.not_false]
      exact no (fun x => h2 x.2)
  · simp only [decide_eq_false h1, Bool.false_eq_true, if_false]
    exact no (fun x => h1 x.1)

theorem wf_u8 {x : Int} (h : (Lit.int .u8 x).wf = true) : 0 ≤ x ∧ x ≤ 255 := by
  simp [Lit.wf, IntKind.wrap, IntKind.bits, IntKind.signed, IntKind.min, IntKind.max] at h; omega
theorem wf_i64 {x : Int} (h : (Lit.int .i64 x).wf = true) : -9223372036854775808 ≤ x ∧ x ≤ 9223372036854775807 := by
  simp [Lit.wf, IntKind.wrap, IntKind.bits, IntKind.signed, IntKind.min, IntKind.max] at h; omega
theorem xor_nonneg (x y : Int) (h0 : 0 ≤ x) (h1 : x < 4611686018427387904) (h2 : 0 ≤ y) (h3 : y < 4611686018427387904) : 0 ≤ Go.bits .xor .i64 x y := by
  obtain ⟨a, rfl⟩ := Int.eq_ofNat_of_zero_le h0
  obtain ⟨b, rfl⟩ := Int.eq_ofNat_of_zero_le h2
  have ha : a < 2 ^ 62 := by omega
  have hb : b < 2 ^ 62 := by omega
  have hx := Nat.xor_lt_two_pow ha hb
  have ha' : a % 2 ^ 64 = a := Nat.mod_eq_of_lt (by omega)
  have hb' : b % 2 ^ 64 = b := Nat.mod_eq_of_lt (by omega)
  have e : Go.bits .xor .i64 ((a : Nat) : Int) ((b : Nat) : Int) = IntKind.i64.wrap ((a ^^^ b : Nat) : Int) := by
    simp only [Go.bits, IntKind.bits, BitVec.ofInt_natCast]
    show IntKind.i64.wrap (((BitVec.ofNat 64 a ^^^ BitVec.ofNat 64 b).toNat : Nat) : Int) = _
    rw [BitVec.toNat_xor, BitVec.toNat_ofNat, BitVec.toNat_ofNat, ha', hb']
  rw [e]
  simp only [IntKind.wrap, IntKind.bits, IntKind.signed]
  simp
  omega
/-- The bytes of a draw. -/
def Bytes (b : List Int) : Prop := b.length ≤ 2000 ∧ ∀ x ∈ b, 0 ≤ x ∧ x ≤ 255
theorem Bytes.rd {b : List Int} (hb : Bytes b) (i : Int) : 0 ≤ rd b i ∧ rd b i ≤ 255 := by
  show 0 ≤ b.getD i.toNat 0 ∧ b.getD i.toNat 0 ≤ 255
  rw [List.getD_eq_getElem?_getD]
  by_cases h : i.toNat < b.length
  · rw [List.getElem?_eq_getElem h]; exact hb.2 _ (List.getElem_mem _)
  · rw [List.getElem?_eq_none (by omega)]; simp
theorem ev_pick {b : List Int} (hb : Bytes b) (p n : Int) (hp : 0 ≤ p ∧ p ≤ 1000000) (hn : 1 ≤ n ∧ n ≤ 1000000000000) :
    ∃ r, (0 ≤ r ∧ r < n) ∧ Ev (fun k => spec_l20Rd_pick.f k b p n) (r, p + 1) := by
  have g0 : ¬ n < 1 := by omega
  unfold spec_l20Rd_pick.f
  simp only [if_neg g0, w64 (x := p + 1) (by omega)]
  have e1 : p + 1 - 1 = p := by omega
  by_cases h0 : (b.length : Int) = 0
  · refine ⟨0, by omega, Ev.step (fun k => by rw [spec_l20Rd_pick.j0]) ?_⟩
    simp only [h0, beq_self_eq_true, if_true]; exact Ev.now _
  have hl := hb.1
  have n0 : ¬ n = 0 := by omega
  by_cases h1 : p < (b.length : Int)
  · have hr := hb.rd p
    refine ⟨Int.tmod (rd b p) n, ?_, Ev.step (fun k => by rw [spec_l20Rd_pick.j0]) ?_⟩
    · rw [Int.tmod_eq_emod_of_nonneg hr.1]; exact ⟨Int.emod_nonneg _ n0, Int.emod_lt_of_pos _ (by omega)⟩
    · simp only [e1, w64 (x := p) (by omega), beq_eq_false_iff_ne.2 h0, Bool.false_eq_true, if_false, if_pos h1, if_pos hp.1, if_neg n0, w64 (x := rd b p) (by omega)]
      exact Ev.now _
  · have L0 : (0 : Int) < (b.length : Int) := by omega
    have m1 : Int.tmod p (b.length : Int) = p % (b.length : Int) := Int.tmod_eq_emod_of_nonneg hp.1
    have m2 : Int.tmod (p * 7 + 3) (b.length : Int) = (p * 7 + 3) % (b.length : Int) := Int.tmod_eq_emod_of_nonneg (by omega)
    have q1 : Int.tdiv p (b.length : Int) = p / (b.length : Int) := Int.tdiv_eq_ediv_of_nonneg hp.1
    have a1 := Int.emod_nonneg p (show (b.length : Int) ≠ 0 from h0)
    have a2 := Int.emod_lt_of_pos p L0
    have a3 := Int.emod_nonneg (p * 7 + 3) (show (b.length : Int) ≠ 0 from h0)
    have a4 := Int.emod_lt_of_pos (p * 7 + 3) L0
    have a5 : 0 ≤ p / (b.length : Int) := Int.ediv_nonneg hp.1 (by omega)
    have a6 : p / (b.length : Int) ≤ p := Int.ediv_le_self _ hp.1
    have u := hb.rd (p % (b.length : Int))
    have v := hb.rd ((p * 7 + 3) % (b.length : Int))
    generalize hU : rd b (p % (b.length : Int)) = U at *
    generalize hV : rd b ((p * 7 + 3) % (b.length : Int)) = V at *
    generalize hQ : p / (b.length : Int) = Q at *
    generalize hM : p % (b.length : Int) = M at *
    generalize hM2 : (p * 7 + 3) % (b.length : Int) = M2 at *
    generalize hX : U * 131 + V * 1117 + p * 29 + Q * 53 = X at *
    have x0 : 0 ≤ X := by omega
    have x1 : X ≤ 1000000000000 := by omega
    have d1 : Int.tdiv X 64 = X / 64 := Int.tdiv_eq_ediv_of_nonneg x0
    have y := xor_nonneg X (X / 64) x0 (by omega) (by omega) (by omega)
    refine ⟨Int.tmod (Go.bits .xor .i64 X (X / 64)) n, ?_, Ev.step (fun k => by rw [spec_l20Rd_pick.j0]) ?_⟩
    · rw [Int.tmod_eq_emod_of_nonneg y]; exact ⟨Int.emod_nonneg _ n0, Int.emod_lt_of_pos _ (by omega)⟩
    · simp only [e1, w64 (x := p) (by omega), w64 (x := p * 7) (by omega), w64 (x := p * 7 + 3) (by omega), beq_eq_false_iff_ne.2 h0, Bool.false_eq_true, if_false, if_neg h1, if_neg h0, m1, m2, q1, if_pos a1, if_pos a2, if_pos a3, if_pos a4, if_neg n0, hU, hV, w64 (x := U) (by omega), w64 (x := V) (by omega), w64 (x := U * 131) (by omega), w64 (x := V * 1117) (by omega), w64 (x := U * 131 + V * 1117) (by omega), w64 (x := p * 29) (by omega), w64 (x := U * 131 + V * 1117 + p * 29) (by omega), w64 (x := Q) (by omega), w64 (x := Q * 53) (by omega), hX, w64 (x := X) (by omega), d1, w64 (x := X / 64) (by omega)]
      exact Ev.now _

theorem ev_odd {b : List Int} (hb : Bytes b) (p n : Int) (hp : 0 ≤ p ∧ p ≤ 1000000) (hn : 1 ≤ n ∧ n ≤ 1000000) :
    ∃ r, Ev (fun k => spec_l20Rd_odd.f k b p n) (r, p + 1) := by
  obtain ⟨r, hr, e⟩ := ev_pick hb p n hp (by omega)
  unfold spec_l20Rd_odd.f
  have c : n > 0 := by omega
  simp only [gt_iff_lt, if_pos (show 0 < n from c)]
  exact ⟨_, Ev.bind e (Ev.now _)⟩

/-- Numbers that a draw may put into a row. -/
def Drawn (x : List Int) : Prop := x.length ≤ 24 ∧ InB x 2000000000
theorem ev_row_j {b : List Int} (hb : Bytes b) (n : Int) (hn : 1 ≤ n ∧ n ≤ 1000000) (x : List Int) (hx : x.length = 24) (hx2 : InB x 2000000000) (p : Int) (hp : 0 ≤ p ∧ p ≤ 999990) :
    ∃ f q, Drawn f ∧ (p ≤ q ∧ q ≤ p + 10) ∧ Ev (fun k => spec_l20Row.j1 k n x b p) (f, q) := by
  obtain ⟨o, eo⟩ := ev_odd hb p n (by omega) hn
  have go : ∀ f q, Ev (fun k => if o = true then ((spec_l20Rd_pick.f k b (p + 1) 3).bind fun bt205 => (if bt205.1 = 0 then (if 1 ≤ (x.length : Int) then (some ((x.drop (1 : Int).toNat), bt205.2)) else (none)) else (if bt205.1 = 1 then ((spec_l20Rd_pick.f k b bt205.2 24).bind fun bt210 => (if 0 ≤ bt210.1 then (if bt210.1 < (x.length : Int) then (some ((x.set (bt210.1 : Int).toNat 20000), bt210.2)) else (none)) else (none))) else (if 0 < (x.length : Int) then (some ((x.set (0 : Int).toNat 2000000000), bt205.2)) else (none))))) else (some (x, p + 1))) (f, q) →
      Ev (fun k => spec_l20Row.j1 k n x b p) (f, q) := fun f q h => by
    refine Ev.step (fun k => by rw [spec_l20Row.j1]) ?_
    exact Ev.bind eo h
  cases o with
  | false => exact ⟨x, p + 1, ⟨by omega, hx2⟩, by omega, go _ _ (by simp only [Bool.false_eq_true, if_false]; exact Ev.now _)⟩
  | true =>
    obtain ⟨r, hr, er⟩ := ev_pick hb (p + 1) 3 (by omega) (by omega)
    have set_in : ∀ (i : Nat) (v : Int), (0 ≤ v ∧ v ≤ 2000000000) → InB (x.set i v) 2000000000 := fun i v hv y hy => by
      rcases List.mem_or_eq_of_mem_set hy with h | h
      · exact hx2 y h
      · omega
    by_cases r0 : r = 0
    · refine ⟨x.drop (1 : Int).toNat, p + 1 + 1, ⟨by rw [List.length_drop]; omega, fun y hy => hx2 y (List.mem_of_mem_drop hy)⟩, by omega, go _ _ ?_⟩
      simp only [if_true]
      refine Ev.bind er ?_
      have c : 1 ≤ (x.length : Int) := by omega
      simp only [if_pos r0, if_pos c]; exact Ev.now _
    · by_cases r1 : r = 1
      · obtain ⟨s, hs, es⟩ := ev_pick hb (p + 1 + 1) 24 (by omega) (by omega)
        refine ⟨x.set s.toNat 20000, p + 1 + 1 + 1, ⟨by rw [List.length_set]; omega, set_in _ _ (by omega)⟩, by omega, go _ _ ?_⟩
        simp only [if_true]
        refine Ev.bind er ?_
        simp only [if_neg r0, if_pos r1]
        refine Ev.bind es ?_
        have c : s < (x.length : Int) := by omega
        simp only [if_pos hs.1, if_pos c]; exact Ev.now _
      · refine ⟨x.set (0 : Int).toNat 2000000000, p + 1 + 1, ⟨by rw [List.length_set]; omega, set_in _ _ (by omega)⟩, by omega, go _ _ ?_⟩
        simp only [if_true]
        refine Ev.bind er ?_
        have c : 0 < (x.length : Int) := by omega
        simp only [if_neg r0, if_neg r1, if_pos c]; exact Ev.now _
theorem ev_row_l {b : List Int} (hb : Bytes b) (n : Int) (hn : 1 ≤ n ∧ n ≤ 1000000) : ∀ (m i : Nat) (x : List Int) (p : Int), i + m = 24 → x.length = i → InB x 2000000000 → (0 ≤ p ∧ p ≤ 999960 - m) →
    ∃ f q, Drawn f ∧ (p ≤ q ∧ q ≤ p + m + 10) ∧ Ev (fun k => spec_l20Row.l0 k n x (i : Int) b p) (f, q) := by
  intro m
  induction m with
  | zero =>
    intro i x p hi hx hx2 hp
    obtain ⟨f, q, hf, hq, e⟩ := ev_row_j hb n hn x (by omega) hx2 p (by omega)
    refine ⟨f, q, hf, by omega, Ev.step (fun k => by rw [spec_l20Row.l0]) ?_⟩
    have c : ¬ (i : Int) < 24 := by omega
    simp only [if_neg c]; exact e
  | succ m ih =>
    intro i x p hi hx hx2 hp
    obtain ⟨r, hr, er⟩ := ev_pick hb p 7 (by omega) (by omega)
    obtain ⟨f, q, hf, hq, e⟩ := ih (i + 1) (x ++ [r - 3]) (p + 1) (by omega) (by simp [hx]) (fun y hy => by
      rcases List.mem_append.1 hy with h | h
      · exact hx2 y h
      · have := List.mem_singleton.1 h; omega) (by omega)
    refine ⟨f, q, hf, by omega, Ev.step (fun k => by rw [spec_l20Row.l0]) ?_⟩
    have c : (i : Int) < 24 := by omega
    have c2 : x.length < 17592186044416 := by omega
    simp only [if_pos c, if_pos c2, w64 (x := (i : Int) + 1) (by omega)]
    refine Ev.bind er ?_
    simp only [w64 (x := r - 3) (by omega)]
    exact e
theorem ev_row {b : List Int} (hb : Bytes b) (p n : Int) (hp : 0 ≤ p ∧ p ≤ 999900) (hn : 1 ≤ n ∧ n ≤ 1000000) :
    ∃ f q, Drawn f ∧ (p ≤ q ∧ q ≤ p + 40) ∧ Ev (fun k => spec_l20Row.f k b p n) (f, q) := by
  obtain ⟨r1, b1, e1⟩ := ev_pick hb p 8 (by omega) (by omega)
  obtain ⟨i, rfl⟩ := Int.eq_ofNat_of_zero_le b1.1
  have en := ev_sNamedRow i (by omega)
  obtain ⟨r2, b2, e2⟩ := ev_pick hb (p + 1) 3 (by omega) (by omega)
  have li := named_length i
  have bi := named_in i
  by_cases z0 : r2 = 0
  · obtain ⟨f, q, hf, hq, e⟩ := ev_row_l hb n hn 24 0 [] (p + 1 + 1) (by omega) rfl (InB_nil _) (by omega)
    refine ⟨f, q, hf, by omega, ?_⟩
    unfold spec_l20Row.f
    refine Ev.bind e1 (Ev.bind en (Ev.bind e2 ?_))
    simp only [if_pos z0]; exact e
  · by_cases z1 : r2 = 1
    · obtain ⟨r3, b3, e3⟩ := ev_pick hb (p + 1 + 1) 8 (by omega) (by omega)
      obtain ⟨j, rfl⟩ := Int.eq_ofNat_of_zero_le b3.1
      have ej := ev_sNamedRow j (by omega)
      have lj := named_length j
      have bj := named_in j
      have hr : timesR (named i) (named j) = (times (named i) (named j), true) := by
        unfold timesR; rw [if_pos ⟨⟨bi.mono (by omega), li⟩, ⟨bj.mono (by omega), lj⟩⟩]
      have ht : InB (times (named i) (named j)) 2000000000 := by
        rw [InB_iff_At (times_length _ _)]
        intro m m1 m2
        rw [At_times _ _ m ⟨m1, m2⟩]
        have h := isum_bound (l := (divs m).map (term (named i) (named j) m)) (B := 3600) (by omega) (fun x hx => by
          obtain ⟨d, _, rfl⟩ := List.mem_map.1 hx
          have := mul_in (bi.at (by omega) d) (bj.at (by omega) (m / d)) (by omega)
          unfold term; omega)
        rw [List.length_map] at h
        have := length_divs_le m
        unfold conv
        omega
      obtain ⟨f, q, hf, hq, e⟩ := ev_row_j hb n hn (times (named i) (named j)) (times_length _ _) ht (p + 1 + 1 + 1) (by omega)
      refine ⟨f, q, hf, by omega, ?_⟩
      unfold spec_l20Row.f
      refine Ev.bind e1 (Ev.bind en (Ev.bind e2 ?_))
      simp only [if_neg z0, if_pos z1]
      refine Ev.bind e3 (Ev.bind ej (Ev.bind (Ev.to (ev_sTimesOf (named i) (named j) (by omega) (by omega)) hr) ?_))
      exact e
    · obtain ⟨f, q, hf, hq, e⟩ := ev_row_j hb n hn (named i) li (bi.mono (by omega)) (p + 1 + 1) (by omega)
      refine ⟨f, q, hf, by omega, ?_⟩
      unfold spec_l20Row.f
      refine Ev.bind e1 (Ev.bind en (Ev.bind e2 ?_))
      simp only [if_neg z0, if_neg z1]; exact e

theorem divs_len8 : ∀ n : Nat, n < 25 → (divs n).length ≤ 8 := by decide +kernel
/-- A product of two rows is a row. -/
theorem times_in {f g : List Int} (hf : InB f 10000) (hg : InB g 10000) : InB (times f g) 1000000000 := by
  rw [InB_iff_At (times_length f g)]
  intro n n1 n2
  rw [At_times f g n ⟨n1, n2⟩]
  unfold conv
  have h := isum_bound (l := (divs n).map (term f g n)) (B := 100000000) (by omega) (fun x hx => by
    obtain ⟨d, _, rfl⟩ := List.mem_map.1 hx; exact term_in hf hg n d)
  rw [List.length_map] at h
  have := divs_len8 n (by omega)
  omega
theorem conv_one (f g : List Int) : conv f g 1 = At f 1 * At g 1 := by
  have e : divs 1 = [1] := by decide
  unfold conv
  rw [e]
  simp [term, isum]
theorem At_times_one (f g : List Int) : At (times f g) 1 = At f 1 * At g 1 := by
  rw [At_times f g 1 (by omega), conv_one]
theorem timesR_told {f g : List Int} (h : (timesR f g).2 = true) : ((InB f 10000 ∧ f.length = 24) ∧ (InB g 10000 ∧ g.length = 24)) ∧ (timesR f g).1 = times f g := by
  unfold timesR at *
  by_cases c : (InB f 10000 ∧ f.length = 24) ∧ (InB g 10000 ∧ g.length = 24)
  · rw [if_pos c]; exact ⟨c, rfl⟩
  · rw [if_neg c] at h; cases h
theorem timesR_none {f g : List Int} (h : (timesR f g).2 = false) : timesR f g = ([], false) := by
  unfold timesR at *
  by_cases c : (InB f 10000 ∧ f.length = 24) ∧ (InB g 10000 ∧ g.length = 24)
  · rw [if_pos c] at h; cases h
  · rw [if_neg c]

theorem ev_sameInts_l (a b : List Int) (hl : a.length = b.length) (ha : a.length ≤ 1000000000000000) : ∀ (d i : Nat), i + d = a.length →
    Ev (fun k => laws_sameInts.l0 k a b (i : Int)) (decide (a.drop i = b.drop i)) := by
  intro d
  induction d with
  | zero =>
    intro i hi
    refine Ev.step (fun k => by rw [laws_sameInts.l0]) ?_
    have h1 : ¬ (i : Int) < (a.length : Int) := by omega
    simp only [if_neg h1]
    refine Ev.ret ?_
    rw [List.drop_eq_nil_of_le (by omega), List.drop_eq_nil_of_le (by omega)]; simp
  | succ d ih =>
    intro i hi
    refine Ev.step (fun k => by rw [laws_sameInts.l0]) ?_
    have h1 : (i : Int) < (a.length : Int) := by omega
    have h2 : (0 : Int) ≤ (i : Int) := by omega
    have h3 : (i : Int) < (b.length : Int) := by omega
    have ea := drop_step a i (by omega)
    have eb := drop_step b i (by omega)
    simp only [if_pos h1, if_pos h2, if_pos h3, rd_nat, w64 (x := (i : Int) + 1) (by omega)]
    by_cases e : a.getD i 0 = b.getD i 0
    · simp only [if_pos e]
      refine Ev.to (ih (i + 1) (by omega)) ?_
      rw [ea, eb, e]; simp
    · simp only [if_neg e]
      refine Ev.ret ?_
      rw [ea, eb]; simp only [List.cons.injEq, e, false_and, decide_false]
theorem ev_sameInts (a b : List Int) (ha : a.length ≤ 1000000000000000) : Ev (fun k => laws_sameInts.f k a b) (decide (a = b)) := by
  unfold laws_sameInts.f
  by_cases h : (a.length : Int) = (b.length : Int)
  · simp only [if_pos h]
    exact ev_sameInts_l a b (by omega) ha a.length 0 (by omega)
  · simp only [if_neg h]
    refine Ev.ret ?_
    symm; rw [decide_eq_false_iff_not]
    intro e; subst e; exact h rfl

theorem open_l (l : List Int) (h : ∀ x ∈ l, (Lit.int .u8 x).wf = true) : ∃ b, Bytes b ∧ spec_l20Open.f l = some (b, 0) := by
  unfold spec_l20Open.f
  by_cases c : (l.length : Int) > 2000
  · refine ⟨l.take 2000, ⟨by simp; omega, fun x hx => wf_u8 (h x (List.mem_of_mem_take hx))⟩, ?_⟩
    rw [if_pos c, if_pos (by omega)]
  · exact ⟨l, ⟨by omega, fun x hx => wf_u8 (h x hx)⟩, by rw [if_neg c]⟩

theorem numberOk_f (a : Int) : impl_numberOk.f a = some (decide (1 ≤ a ∧ a ≤ 10000)) := by
  unfold impl_numberOk.f
  by_cases h : a ≥ 1
  · rw [if_pos h]; simp [show 1 ≤ a from h]
  · rw [if_neg h]; simp [show ¬ 1 ≤ a from h]

theorem alive_f : laws_alive.f = some true := by
  unfold laws_alive.f impl_DividesOk.f
  simp only [numberOk_f, Option.bind_some]; simp

theorem powF_succ : ∀ (m : Nat) (f out : List Int), powF (m + 1) f out = if (powF m f out).2 = true then timesR (powF m f out).1 f else ([], false) := by
  intro m
  induction m with
  | zero =>
    intro f out
    show (if (timesR out f).2 = true then ((timesR out f).1, true) else ([], false)) = _
    by_cases h : (timesR out f).2 = true
    · rw [if_pos h]
      show _ = if true = true then timesR out f else ([], false)
      rw [if_pos rfl, ← h]
    · rw [if_neg h]
      show _ = if true = true then timesR out f else ([], false)
      rw [if_pos rfl, timesR_none (by simpa using h)]
  | succ m ih =>
    intro f out
    show (if (timesR out f).2 = true then powF (m + 1) f (timesR out f).1 else ([], false)) = _
    by_cases h : (timesR out f).2 = true
    · rw [if_pos h, ih]
      have e : powF (m + 1) f out = powF m f (timesR out f).1 := by
        show (if (timesR out f).2 = true then powF m f (timesR out f).1 else ([], false)) = _
        rw [if_pos h]
      rw [e]
    · rw [if_neg h]
      have e : powF (m + 1) f out = ([], false) := by
        show (if (timesR out f).2 = true then powF m f (timesR out f).1 else ([], false)) = _
        rw [if_neg h]
      rw [e]; simp
theorem powR_told {f : List Int} {t : Int} (h : (powR f t).2 = true) : ((InB f 1000000000 ∧ f.length = 24) ∧ (0 ≤ t ∧ t ≤ 6)) ∧ powR f t = powF t.toNat f (named 0) := by
  unfold powR at *
  by_cases c : (InB f 1000000000 ∧ f.length = 24) ∧ (0 ≤ t ∧ t ≤ 6)
  · rw [if_pos c]; exact ⟨c, rfl⟩
  · rw [if_neg c] at h; cases h
theorem powR_none {f : List Int} {t : Int} (h : ¬ (powR f t).2 = true) : (powR f t).1 = [] := by
  have none : ∀ (m : Nat) (out : List Int), ¬ (powF m f out).2 = true → (powF m f out).1 = [] := by
    intro m
    induction m with
    | zero => intro out h; exact absurd rfl h
    | succ m ih =>
      intro out h
      have e : powF (m + 1) f out = if (timesR out f).2 = true then powF m f (timesR out f).1 else ([], false) := rfl
      rw [e] at h ⊢
      by_cases c : (timesR out f).2 = true
      · rw [if_pos c] at h ⊢; exact ih _ h
      · rw [if_neg c]
  unfold powR at *
  split
  · rename_i c; rw [if_pos c] at h; exact none _ _ h
  · rfl
theorem powR_next {f : List Int} {t : Int} (h : (powR f t).2 = true) (h2 : (powR f (t + 1)).2 = true) : (timesR (powR f t).1 f).2 = true ∧ (powR f (t + 1)).1 = (timesR (powR f t).1 f).1 := by
  have a := powR_told h
  have b := powR_told h2
  have e : (t + 1).toNat = t.toNat + 1 := by omega
  have s : powR f (t + 1) = timesR (powR f t).1 f := by
    have h' := h
    rw [a.2] at h' ⊢
    rw [b.2, e, powF_succ, if_pos h']
  rw [← s]
  exact ⟨h2, rfl⟩
theorem pow_ones : ∀ t, t < 7 → (powR (named 1) ((t : Nat) : Int)).2 = true ∧ (powR (named 1) (t : Int)).1.length = 24 ∧ (powR (named 1) (t : Int)).1.getD 1 0 = t ∧ (powR (named 1) (t : Int)).1.getD 6 0 = t ∧ (powR (named 1) (t : Int)).1.getD 0 0 = 1 := by decide +kernel
theorem pwO_j1 (f : List Int) (t : Int) (lf : f.length ≤ 24) (h : (powR f t).2 = true) : Ev (fun k => laws_FnPowerOf.j1 k f t (powR f t).1 false) true := by
  refine Ev.step (fun k => by rw [laws_FnPowerOf.j1]) ?_
  have a := powR_told h
  have l1 := powR_length f t
  have l2 := powR_length f (t + 1)
  simp only [Bool.false_eq_true, if_false, w64 (x := t + 1) (by omega)]
  refine Ev.bind (ev_iPowerOf f (t + 1) (by omega)) (Ev.bind (ev_iTimesOf (powR f t).1 f (by omega) (by omega)) ?_)
  by_cases h2 : (powR f (t + 1)).2 = true
  · have n := powR_next h h2
    simp only [if_pos h2, if_pos n.1]
    refine Ev.bind (ev_sameInts _ _ (by omega)) ?_
    simp only [decide_eq_true n.2]
    exact Ev.now _
  · simp only [if_neg h2]; exact Ev.now _
theorem FnPowerOf : laws_FnPowerOf.Pure := by
  intro l h1 h2 h3
  apply Ev.k
  unfold laws_FnPowerOf.f
  by_cases hl : (l.length : Int) > 1048576
  · simp only [if_pos hl]; exact Ev.now _
  simp only [if_neg hl]
  obtain ⟨b, hb, eo⟩ := open_l l h3
  obtain ⟨f, q, hf, hq, ef⟩ := ev_row hb 0 12 (by omega) (by omega)
  obtain ⟨r, hr, er⟩ := ev_pick hb q 8 (by omega) (by omega)
  obtain ⟨s, hs, es⟩ := ev_pick hb (q + 1) 20 (by omega) (by omega)
  obtain ⟨t, ht⟩ : ∃ t, t = r - Int.tdiv s 19 := ⟨_, rfl⟩
  have ed : Ev (fun k => spec_DrawPowerOf.f k l) (f, t) := by
    unfold spec_DrawPowerOf.f
    simp only [eo, Option.bind_some]
    refine Ev.bind ef (Ev.bind er (Ev.bind es (Ev.ret ?_)))
    have e0 : 0 ≤ Int.tdiv s 19 ∧ Int.tdiv s 19 ≤ 1 := by
      rw [Int.tdiv_eq_ediv_of_nonneg hs.1]; omega
    simp only [w64 (x := Int.tdiv s 19) (by omega)]
    rw [w64 (by omega), ht]
  have lf := hf.1
  have z := powR_length f t
  refine Ev.bind ed (Ev.bind (ev_iPowerOf f t (by omega)) (Ev.bind (ev_sPowerOf f t (by omega)) (Ev.bind (ev_sameInts (powR f t).1 (powR f t).1 (by omega)) ?_)))
  simp only [decide_true, if_true, bne_self_eq_false]
  refine Ev.step (fun k => by rw [laws_FnPowerOf.j0]) ?_
  simp only [Bool.false_eq_true, if_false]
  by_cases h : (powR f t).2 = true
  · have a := powR_told h
    simp only [if_pos h]
    obtain ⟨n, hn⟩ := Int.eq_ofNat_of_zero_le a.1.2.1
    have o := pow_ones n (by omega)
    rw [← hn] at o
    refine Ev.bind (ev_iNamedRow 1 (by omega)) (Ev.bind (ev_iPowerOf (named 1) t (by rw [named_length]; omega)) ?_)
    have c0 : ((powR (named 1) t).1.length : Int) = 24 := by omega
    have e1 : rd (powR (named 1) t).1 1 = t := o.2.2.1
    have e6 : rd (powR (named 1) t).1 6 = t := o.2.2.2.1
    have e0 : rd (powR (named 1) t).1 0 = 1 := o.2.2.2.2
    have c1 : (1 : Int) < 24 := by omega
    have c2 : (6 : Int) < 24 := by omega
    have c3 : (0 : Int) < 24 := by omega
    simp only [if_pos o.1, c0, e1, e6, e0, if_true, if_pos c1, if_pos c2, if_pos c3, bne_self_eq_false]
    exact pwO_j1 f t lf h
  · have e := powR_none h
    simp only [if_neg h, e, List.length_nil, Int.natCast_zero, if_true, alive_f, Option.bind_some]
    exact Ev.now _

end Go.Proofs.Yteebmpbhhpmhbaa.Pure
namespace Go.Proofs.Yteebmpbhhpmhbaa.PrintWords
/-- The printed row's word, under the name by which that row calls it. -/
abbrev sized_ints := @Go.Proofs.YteebmpbhhpmhbaaW.PrintWords.sized_ints
end Go.Proofs.Yteebmpbhhpmhbaa.PrintWords
