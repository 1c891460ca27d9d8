/- The program and the reference tell the same of a drawn name; the row of ones, multiplied with some of the rows, is another one of them, and each is 1 at 1. -/
import Derived.Test.YtcnbiknoehcfnaaPFnNamedRowx0
import Derived.Test.YtcnbiknoehcfnaaPFnNamedRowx1
import Derived.Test.YtcnbiknoehcfnaaPFnNamedRowx2
import Derived.Test.YtcnbiknoehcfnaaPFnNamedRowx3
import Derived.Test.YtcnbiknoehcfnaaPFnNamedRowx4
import Derived.Test.YtcnbiknoehcfnaaPFnNamedRowx5
import Derived.Test.YtcnbiknoehcfnaaPFnNamedRowx6
import Derived.Test.YtcnbiknoehcfnaaPFnNamedRowx7
import Derived.Test.YtcnbiknoehcfnaaM1
import Derived.Test.YtcnbiknoehcfnaaM2
import Derived.Test.YtcnbiknoehcfnaaM3
import Derived.Test.YtcnbiknoehcfnaaWSized
namespace Go.Proofs.Ytcnbiknoehcfnaa.Pure
open Go.RowKit Go.Proofs.Ytcnbiknoehcfnaa.PFnNamedRow Go.Proofs.YtcnbiknoehcfnaaW.PrintWords Go.Proofs.YtcnbiknoehcfnaaW.PrintLast Go.Proofs.YtcnbiknoehcfnaaW.PrintMore Go.Proofs.Ytcnbiknoehcfnaa.Math
set_option linter.unusedVariables false
set_option linter.unusedSimpArgs false
theorem w64 {x : Int} (h : -9223372036854775808 ≤ x ∧ x ≤ 9223372036854775807) : wrap64 x = x := by unfold wrap64; omega
theorem Ev.k {α : Type} {g : Nat → Option α} {r : α} (h : Ev g r) : ∃ k, g k = some r := Ev.rounds h
theorem Ev.to {α : Type} {g : Nat → Option α} {r s : α} (h : Ev g r) (e : r = s) : Ev g s := e ▸ h
theorem Ev.ret {α : Type} {r s : α} (e : r = s) : Ev (fun _ => some r) s := e ▸ Ev.now r

theorem rd_nat (xs : List Int) (i : Nat) : rd xs (i : Int) = xs.getD i 0 := rfl
theorem drop_step (f : List Int) (i : Nat) (h : i < f.length) : f.drop i = f.getD i 0 :: f.drop (i + 1) := by
  rw [List.drop_eq_getElem_cons h]; simp [List.getD_eq_getElem?_getD, List.getElem?_eq_getElem h]
def InB (f : List Int) (m : Int) : Prop := ∀ x ∈ f, -m ≤ x ∧ x ≤ m
instance (f : List Int) (m : Int) : Decidable (InB f m) := by unfold InB; infer_instance
theorem InB_cons (x : Int) (f : List Int) (m : Int) : InB (x :: f) m ↔ (-m ≤ x ∧ x ≤ m) ∧ InB f m := by
  unfold InB; simp
theorem InB_nil (m : Int) : InB [] m := fun x h => by cases h
theorem InB.mono {f : List Int} {m n : Int} (h : InB f m) (hmn : m ≤ n) : InB f n := fun x hx => by have := h x hx; omega

/-- The rows with names. -/
def named : Nat → List Int
  | 0 => [1, 0, 0, 0, 0, 0, 0, 0, 0, 0, 0, 0, 0, 0, 0, 0, 0, 0, 0, 0, 0, 0, 0, 0]
  | 1 => [1, 1, 1, 1, 1, 1, 1, 1, 1, 1, 1, 1, 1, 1, 1, 1, 1, 1, 1, 1, 1, 1, 1, 1]
  | 2 => [1, 2, 3, 4, 5, 6, 7, 8, 9, 10, 11, 12, 13, 14, 15, 16, 17, 18, 19, 20, 21, 22, 23, 24]
  | 3 => [1, 2, 2, 3, 2, 4, 2, 4, 3, 4, 2, 6, 2, 4, 4, 5, 2, 6, 2, 6, 4, 4, 2, 8]
  | 4 => [1, 3, 4, 7, 6, 12, 8, 15, 13, 18, 12, 28, 14, 24, 24, 31, 18, 39, 20, 42, 32, 36, 24, 60]
  | 5 => [1, 1, 2, 2, 4, 2, 6, 4, 6, 4, 10, 4, 12, 6, 8, 8, 16, 6, 18, 8, 12, 10, 22, 8]
  | 6 => [1, -1, -1, 0, -1, 1, -1, 0, 0, 1, -1, 0, -1, 1, 1, 0, -1, 0, -1, 0, 1, 1, -1, 0]
  | _ => [1, -1, -1, 1, -1, 1, -1, -1, 1, 1, -1, -1, -1, 1, 1, 1, -1, -1, -1, -1, 1, 1, -1, 1]
theorem named_length (i : Nat) : (named i).length = 24 := by
  unfold named; split <;> rfl
theorem named_in (i : Nat) : InB (named i) 60 := by
  unfold named; split <;> decide

/-- The row with a name; none for others. -/
def namedZ (n : Int) : List Int := if 0 ≤ n ∧ n < 8 then named n.toNat else []
theorem namedZ_length (n : Int) : (namedZ n).length ≤ 24 := by
  unfold namedZ; split
  · exact Nat.le_of_eq (named_length _)
  · simp

theorem ev_iNamedRow (i : Nat) (h : i < 8) : Ev (fun k => impl_NamedRow.f k (i : Int)) (named i) := by
  have : i = 0 ∨ i = 1 ∨ i = 2 ∨ i = 3 ∨ i = 4 ∨ i = 5 ∨ i = 6 ∨ i = 7 := by omega
  rcases this with rfl | rfl | rfl | rfl | rfl | rfl | rfl | rfl <;> exact Ev.of (fun k => impl_NamedRow.mono _ k) (k := 200) (by decide +kernel)

theorem ev_iNamedRowZ (n : Int) : Ev (fun k => impl_NamedRow.f k n) (namedZ n) := by
  unfold namedZ
  by_cases h : 0 ≤ n ∧ n < 8
  · obtain ⟨i, rfl⟩ := Int.eq_ofNat_of_zero_le h.1
    rw [if_pos h, Int.toNat_natCast]; exact ev_iNamedRow i (by omega)
  · rw [if_neg h]
    unfold impl_NamedRow.f
    by_cases c : n < 0
    · simp only [if_pos c]; exact Ev.now _
    · have c2 : n ≥ 8 := by omega
      simp only [if_neg c, ge_iff_le, if_pos (show 8 ≤ n from c2)]; exact Ev.now _

theorem ev_sNamedRow (i : Nat) (h : i < 8) : Ev (fun k => spec_NamedRow.f k (i : Int)) (named i) := by
  have : i = 0 ∨ i = 1 ∨ i = 2 ∨ i = 3 ∨ i = 4 ∨ i = 5 ∨ i = 6 ∨ i = 7 := by omega
  rcases this with rfl | rfl | rfl | rfl | rfl | rfl | rfl | rfl <;> exact Ev.of (fun k => spec_NamedRow.mono _ k) (k := 200) (by decide +kernel)

theorem l1In_f (a b c : Int) : spec_l1In.f a b c = some (decide (b ≤ a ∧ a ≤ c)) := by
  unfold spec_l1In.f
  by_cases h : a ≥ b
  · rw [if_pos h]; simp [show b ≤ a from h]
  · rw [if_neg h]; simp [show ¬ b ≤ a from h]

theorem ev_sNamedRowZ (n : Int) : Ev (fun k => spec_NamedRow.f k n) (namedZ n) := by
  unfold namedZ
  by_cases h : 0 ≤ n ∧ n < 8
  · obtain ⟨i, rfl⟩ := Int.eq_ofNat_of_zero_le h.1
    rw [if_pos h, Int.toNat_natCast]; exact ev_sNamedRow i (by omega)
  · rw [if_neg h]
    unfold spec_NamedRow.f
    refine Ev.step (fun k => by rw [spec_NamedRow.l0]) ?_
    have c : (1 : Int) ≤ 24 := by omega
    have d : ¬ (0 ≤ n ∧ n ≤ 7) := by omega
    simp only [if_pos c, l1In_f, Option.bind_some, decide_eq_false d, Bool.false_eq_true, if_false]
    exact Ev.now _

/-- What a row is at a number. -/
def At (f : List Int) (n : Nat) : Int := f.getD (n - 1) 0
theorem rd_at (f : List Int) (n : Nat) (h : 1 ≤ n) : rd f ((n : Int) - 1) = At f n := by
  rw [show (n : Int) - 1 = ((n - 1 : Nat) : Int) by omega]; rfl
theorem rd_at0 (f : List Int) : rd f 0 = At f 1 := rfl
theorem InB.at {f : List Int} {m : Int} (h : InB f m) (hm : 0 ≤ m) (n : Nat) : -m ≤ At f n ∧ At f n ≤ m := by
  unfold At; rw [List.getD_eq_getElem?_getD]
  by_cases c : n - 1 < f.length
  · rw [List.getElem?_eq_getElem c]; exact h _ (List.getElem_mem _)
  · rw [List.getElem?_eq_none (by omega)]; simp; omega
theorem mul_in {x y B : Int} (hx : -B ≤ x ∧ x ≤ B) (hy : -B ≤ y ∧ y ≤ B) (hB : 0 ≤ B) : -(B * B) ≤ x * y ∧ x * y ≤ B * B := by
  have h1 : x.natAbs ≤ B.toNat := by omega
  have h2 : y.natAbs ≤ B.toNat := by omega
  have h3 := Nat.mul_le_mul h1 h2
  rw [← Int.natAbs_mul] at h3
  have h4 : ((B.toNat * B.toNat : Nat) : Int) = B * B := by rw [Int.natCast_mul, Int.toNat_of_nonneg hB]
  omega
theorem w64_prod {f : List Int} (h : InB f 1000000000) (a b : Nat) : wrap64 (At f a * At f b) = At f a * At f b := by
  have := mul_in (h.at (by omega) a) (h.at (by omega) b) (by omega)
  exact w64 (by omega)
/-- A row is 1 at 1, and at each product of two numbers (that are apart, or all) the product. -/
def Mult (all : Bool) (f : List Int) : Prop := At f 1 = 1 ∧ ∀ a b, 1 ≤ a → 1 ≤ b → a * b ≤ 24 → (all = true ∨ Nat.gcd a b = 1) → At f (a * b) = At f a * At f b
/-- It is so at all pairs before one. -/
def MultTo (all : Bool) (f : List Int) (x y : Nat) : Prop := ∀ a b, (a < x ∨ a = x ∧ b < y) → 1 ≤ a → 1 ≤ b → a * b ≤ 24 → (all = true ∨ Nat.gcd a b = 1) → At f (a * b) = At f a * At f b
theorem MultTo.step {all : Bool} {f : List Int} {x y : Nat} (h : MultTo all f x y) (e : x * y ≤ 24 → (all = true ∨ Nat.gcd x y = 1) → At f (x * y) = At f x * At f y) : MultTo all f x (y + 1) := by
  intro a b hab h1 h2 h3 h4
  by_cases c : a = x ∧ b = y
  · obtain ⟨rfl, rfl⟩ := c; exact e h3 h4
  · exact h a b (by omega) h1 h2 h3 h4
theorem MultTo.next {all : Bool} {f : List Int} {x y : Nat} (h : MultTo all f x y) (hy : 24 < x * y) : MultTo all f (x + 1) 1 := by
  intro a b hab h1 h2 h3 h4
  refine h a b ?_ h1 h2 h3 h4
  by_cases c : a < x
  · exact Or.inl c
  · have e : a = x := by omega
    subst e
    refine Or.inr ⟨rfl, Nat.lt_of_not_le (fun hle => ?_)⟩
    have := Nat.mul_le_mul_left a hle; omega

/-- One term of a product over divisors. -/
def term (f g : List Int) (n d : Nat) : Int := At f d * At g (n / d)
/-- The product of two rows over divisors, at a number. -/
def conv (f g : List Int) (n : Nat) : Int := isum ((divs n).map (term f g n))
def times (f g : List Int) : List Int := (List.range 24).map (fun i => conv f g (i + 1))
theorem isum_bound {l : List Int} {B : Int} (hB : 0 ≤ B) (h : ∀ x ∈ l, -B ≤ x ∧ x ≤ B) : -((l.length : Int) * B) ≤ isum l ∧ isum l ≤ (l.length : Int) * B := by
  induction l with
  | nil => simp [isum]
  | cons x t ih =>
    have h1 := h x (by simp)
    have h2 := ih (fun y hy => h y (List.mem_cons_of_mem _ hy))
    simp only [isum, List.length_cons]
    rw [Int.natCast_add, Int.add_mul]
    omega
theorem term_in {f g : List Int} (hf : InB f 10000) (hg : InB g 10000) (n d : Nat) : -100000000 ≤ term f g n d ∧ term f g n d ≤ 100000000 := by
  have := mul_in (hf.at (by omega) d) (hg.at (by omega) (n / d)) (by omega)
  unfold term; omega
theorem isum_terms {f g : List Int} (hf : InB f 10000) (hg : InB g 10000) (n : Nat) (l : List Nat) (hl : l.length ≤ 1000) : -100000000000 ≤ isum (l.map (term f g n)) ∧ isum (l.map (term f g n)) ≤ 100000000000 := by
  have h := isum_bound (l := l.map (term f g n)) (B := 100000000) (by omega) (fun x hx => by
    obtain ⟨d, _, rfl⟩ := List.mem_map.1 hx; exact term_in hf hg n d)
  rw [List.length_map] at h
  omega
theorem times_length (f g : List Int) : (times f g).length = 24 := by simp [times]
theorem At_times (f g : List Int) (n : Nat) (h : 1 ≤ n ∧ n ≤ 24) : At (times f g) n = conv f g n := by
  unfold At times
  rw [List.getD_eq_getElem?_getD, List.getElem?_map, List.getElem?_range (by omega)]
  simp only [Option.map_some, Option.getD_some]
  rw [show n - 1 + 1 = n by omega]
theorem ext_At {a b : List Int} (ha : a.length = 24) (hb : b.length = 24) (h : ∀ n, 1 ≤ n → n ≤ 24 → At a n = At b n) : a = b := by
  refine List.ext_getElem (by omega) (fun t h1 h2 => ?_)
  have := h (t + 1) (by omega) (by omega)
  unfold At at this
  rw [show t + 1 - 1 = t by omega] at this
  simpa [List.getD_eq_getElem?_getD, List.getElem?_eq_getElem h1, List.getElem?_eq_getElem h2] using this
theorem At_set (a : List Int) (m : Nat) (x : Int) (n : Nat) (hm : 1 ≤ m) (hl : m ≤ a.length) (hn : 1 ≤ n) : At (a.set (m - 1) x) n = if n = m then x else At a n := by
  unfold At
  simp only [List.getD_eq_getElem?_getD, List.getElem?_set]
  by_cases e : n = m
  · subst e; simp [show n - 1 < a.length by omega]
  · rw [if_neg (by omega), if_neg e]

/-- What the product of two rows tells: the row and true, or nothing and false. -/
def timesR (f g : List Int) : List Int × Bool := if (InB f 10000 ∧ f.length = 24) ∧ (InB g 10000 ∧ g.length = 24) then (times f g, true) else ([], false)
theorem InB_iff_At {f : List Int} (hl : f.length = 24) (m : Int) : InB f m ↔ ∀ n, 1 ≤ n → n ≤ 24 → -m ≤ At f n ∧ At f n ≤ m := by
  constructor
  · intro h n n1 n2
    unfold At
    rw [List.getD_eq_getElem?_getD, List.getElem?_eq_getElem (show n - 1 < f.length by omega)]
    exact h _ (List.getElem_mem _)
  · intro h x hx
    obtain ⟨i, hi, rfl⟩ := List.mem_iff_getElem.1 hx
    have := h (i + 1) (by omega) (by omega)
    unfold At at this
    rw [List.getD_eq_getElem?_getD, List.getElem?_eq_getElem (show i + 1 - 1 < f.length by omega)] at this
    simpa using this
theorem timesR_length (f g : List Int) : (timesR f g).1.length ≤ 24 := by
  unfold timesR; split
  · exact Nat.le_of_eq (times_length f g)
  · simp

/-- The row that is at each number as told. -/
def rowOf (g : Nat → Int) : List Int := (List.range 24).map (fun i => g (i + 1))
theorem rowOf_length (g : Nat → Int) : (rowOf g).length = 24 := by simp [rowOf]
theorem At_rowOf (g : Nat → Int) (n : Nat) (h : 1 ≤ n ∧ n ≤ 24) : At (rowOf g) n = g n := by
  unfold At rowOf
  rw [List.getD_eq_getElem?_getD, List.getElem?_map, List.getElem?_range (by omega)]
  simp only [Option.map_some, Option.getD_some]
  rw [show n - 1 + 1 = n by omega]
theorem times_rowOf (f g : List Int) : times f g = rowOf (conv f g) := rfl
theorem ev_rowBy_l (GF : Nat → Int → Option Int) (g : Nat → Int) (h : ∀ n : Nat, 1 ≤ n → n ≤ 24 → Ev (fun k => GF k (n : Int)) (g n)) : ∀ (d i : Nat) (out : List Int), i + d = 24 → out.length = 24 → (∀ n, 1 ≤ n → n ≤ i → At out n = g n) →
    Ev (fun k => impl_rowBy.l0 GF k out 24 (i : Int)) (rowOf g) := by
  intro d
  induction d with
  | zero =>
    intro i out hi hl ho
    refine Ev.step (fun k => by rw [impl_rowBy.l0]) ?_
    have c : ¬ (i : Int) < 24 := by omega
    simp only [if_neg c]
    exact Ev.ret (ext_At hl (rowOf_length g) (fun n n1 n2 => by rw [ho n n1 (by omega), At_rowOf g n ⟨n1, n2⟩]))
  | succ d ih =>
    intro i out hi hl ho
    refine Ev.step (fun k => by rw [impl_rowBy.l0]) ?_
    have c : (i : Int) < 24 := by omega
    have c1 : 0 ≤ (i : Int) := by omega
    have c2 : (i : Int) < (out.length : Int) := by omega
    simp only [if_pos c, w64 (x := (i : Int) + 1) (by omega), if_pos c1, if_pos c2, Int.toNat_natCast]
    refine Ev.bind (h (i + 1) (by omega) (by omega)) ?_
    refine ih (i + 1) _ (by omega) (by rw [List.length_set]; exact hl) (fun n n1 n2 => ?_)
    have := At_set out (i + 1) (g (i + 1)) n (by omega) (by omega) n1
    rw [show i + 1 - 1 = i by omega] at this
    rw [this]
    by_cases e : n = i + 1
    · rw [if_pos e, e]
    · rw [if_neg e]; exact ho n n1 (by omega)
theorem ev_rowBy (GF : Nat → Int → Option Int) (g : Nat → Int) (h : ∀ n : Nat, 1 ≤ n → n ≤ 24 → Ev (fun k => GF k (n : Int)) (g n)) : Ev (fun k => impl_rowBy.f GF k) (rowOf g) := by
  unfold impl_rowBy.f
  have c : 24 ≤ 35184372088832 := by omega
  simp only [if_pos c, Option.bind_some, List.length_replicate]
  exact ev_rowBy_l GF g h 24 0 _ (by omega) (by simp) (fun n n1 n2 => by omega)

theorem ev_within_l (f : List Int) (m : Int) (hm : 0 ≤ m ∧ m ≤ 1000000000000) (hf : f.length ≤ 1000000000000000) : ∀ (d i : Nat), i + d = f.length →
    Ev (fun k => impl_within.l0 k f m f (f.length : Int) (i : Int)) (decide (InB (f.drop i) m ∧ f.length = 24)) := by
  intro d
  induction d with
  | zero =>
    intro i hi
    refine Ev.step (fun k => by rw [impl_within.l0]) ?_
    have h1 : ¬ (i : Int) < (f.length : Int) := by omega
    simp only [if_neg h1]
    refine Ev.ret ?_
    rw [List.drop_eq_nil_of_le (by omega), Bool.eq_iff_iff]; simp [InB_nil]; omega
  | succ d ih =>
    intro i hi
    refine Ev.step (fun k => by rw [impl_within.l0]) ?_
    have h1 : (i : Int) < (f.length : Int) := by omega
    have h2 : (0 : Int) ≤ (i : Int) := by omega
    simp only [if_pos h1, if_pos h2, rd_nat, w64 (x := -m) (by omega)]
    have e := drop_step f i (by omega)
    by_cases a : f.getD i 0 < -m
    · simp only [if_pos a]
      refine Ev.ret ?_
      symm; rw [decide_eq_false_iff_not, e, InB_cons]; omega
    · by_cases b : f.getD i 0 > m
      · simp only [if_neg a, gt_iff_lt, if_pos (show m < f.getD i 0 from b)]
        refine Ev.ret ?_
        symm; rw [decide_eq_false_iff_not, e, InB_cons]; omega
      · simp only [if_neg a, if_neg b, w64 (x := (i : Int) + 1) (by omega)]
        refine Ev.to (ih (i + 1) (by omega)) ?_
        rw [Bool.eq_iff_iff]; simp only [decide_eq_true_eq]; rw [e, InB_cons]
        constructor
        · rintro ⟨h, g⟩; exact ⟨⟨by omega, h⟩, g⟩
        · rintro ⟨⟨_, h⟩, g⟩; exact ⟨h, g⟩
theorem ev_within (f : List Int) (m : Int) (hm : 0 ≤ m ∧ m ≤ 1000000000000) (hf : f.length ≤ 1000000000000000) :
    Ev (fun k => impl_within.f k f m) (decide (InB f m ∧ f.length = 24)) := by
  unfold impl_within.f
  exact ev_within_l f m hm hf f.length 0 (by omega)

theorem ev_small (f : List Int) (hf : f.length ≤ 1000000000000000) : Ev (fun k => impl_small.f k f) (decide (InB f 10000 ∧ f.length = 24)) := by
  unfold impl_small.f
  exact Ev.bind (ev_within f 10000 (by omega) hf) (Ev.now _)

theorem ext_getD {a b : List Int} (h : a.length = b.length) (e : ∀ t, t < a.length → a.getD t 0 = b.getD t 0) : a = b := by
  refine List.ext_getElem h (fun t h1 h2 => ?_)
  have := e t h1
  simpa [List.getD_eq_getElem?_getD, List.getElem?_eq_getElem h1, List.getElem?_eq_getElem h2] using this
theorem getD_set (a : List Int) (i : Nat) (x : Int) (t : Nat) (h : i < a.length) : (a.set i x).getD t 0 = if t = i then x else a.getD t 0 := by
  simp only [List.getD_eq_getElem?_getD, List.getElem?_set]
  by_cases e : i = t
  · subst e; simp [h]
  · simp [e, Ne.symm e]
def RevAt (l xs : List Int) (i : Nat) : Prop := xs.length = l.length ∧ ∀ t, t < l.length → xs.getD t 0 = if t < i ∨ l.length - i ≤ t then l.getD (l.length - 1 - t) 0 else l.getD t 0
theorem ev_Reverse_l (l : List Int) (hn : l.length ≤ 1000000000000) : ∀ (d i : Nat) (xs : List Int), RevAt l xs i → l.length ≤ 2 * i + d →
    Ev (fun k => slices_Reverse_int_int.l0 k xs (i : Int) ((l.length : Int) - 1 - (i : Int))) l.reverse := by
  intro d
  induction d with
  | zero =>
    intro i xs ⟨hl, hx⟩ hd
    refine Ev.step (fun k => by rw [slices_Reverse_int_int.l0]) ?_
    have h1 : ¬ (i : Int) < (l.length : Int) - 1 - (i : Int) := by omega
    simp only [if_neg h1]
    refine Ev.ret (ext_getD (by simp [hl]) (fun t ht => ?_))
    rw [hx t (by omega)]
    simp only [List.getD_eq_getElem?_getD]
    rw [List.getElem?_reverse (by omega), if_pos (by omega)]
  | succ d ih =>
    intro i xs ⟨hl, hx⟩ hd
    refine Ev.step (fun k => by rw [slices_Reverse_int_int.l0]) ?_
    by_cases h1 : (i : Int) < (l.length : Int) - 1 - (i : Int)
    · have a1 : (0 : Int) ≤ (l.length : Int) - 1 - (i : Int) := by omega
      have a2 : (l.length : Int) - 1 - (i : Int) < (xs.length : Int) := by omega
      have a3 : (0 : Int) ≤ (i : Int) := by omega
      have a4 : (i : Int) < (xs.length : Int) := by omega
      have ej : (l.length : Int) - 1 - (i : Int) = ((l.length - 1 - i : Nat) : Int) := by omega
      simp only [if_pos h1, if_pos a1, if_pos a2, if_pos a3, if_pos a4, w64 (x := (i : Int) + 1) (by omega), w64 (x := (l.length : Int) - 1 - (i : Int) - 1) (by omega)]
      rw [show (l.length : Int) - 1 - (i : Int) - 1 = (l.length : Int) - 1 - ((i + 1 : Nat) : Int) by omega, show (i : Int) + 1 = ((i + 1 : Nat) : Int) by omega]
      refine ih (i + 1) _ ⟨by simp [hl], fun t ht => ?_⟩ (by omega)
      rw [ej]
      simp only [Int.toNat_natCast, rd_nat]
      rw [getD_set _ _ _ _ (by simp; omega), getD_set _ _ _ _ (by omega)]
      by_cases e1 : t = l.length - 1 - i
      · rw [if_pos e1, if_pos (by omega), hx i (by omega), if_neg (by omega), e1]; congr 1; omega
      · rw [if_neg e1]
        by_cases e2 : t = i
        · rw [if_pos e2, if_pos (by omega), hx _ (by omega), if_neg (by omega), e2]
        · rw [if_neg e2, hx t ht]
          by_cases e3 : t < i ∨ l.length - i ≤ t
          · rw [if_pos e3, if_pos (by omega)]
          · rw [if_neg e3, if_neg (by omega)]
    · simp only [if_neg h1]
      refine Ev.ret (ext_getD (by simp [hl]) (fun t ht => ?_))
      rw [hx t (by omega)]
      simp only [List.getD_eq_getElem?_getD]
      rw [List.getElem?_reverse (by omega)]
      by_cases e3 : t < i ∨ l.length - i ≤ t
      · rw [if_pos e3]
      · rw [if_neg e3]; congr 2; omega
theorem ev_Reverse (l : List Int) (hn : l.length ≤ 1000000000000) : Ev (fun k => slices_Reverse_int_int.f k l) l.reverse := by
  unfold slices_Reverse_int_int.f
  rw [w64 (by omega)]
  have := ev_Reverse_l l hn l.length 0 l ⟨rfl, fun t ht => by rw [if_neg (by omega)]⟩ (by omega)
  simpa using this

/-- Natural numbers as the program's numbers. -/
def ints (l : List Nat) : List Int := l.map (fun x : Nat => (x : Int))
theorem ints_length (l : List Nat) : (ints l).length = l.length := by simp [ints]
theorem ints_append (l m : List Nat) : ints (l ++ m) = ints l ++ ints m := by simp [ints]
theorem ints_reverse (l : List Nat) : (ints l).reverse = ints l.reverse := by simp [ints]

theorem sq_le {d n : Nat} (h : d * d ≤ n) (hn : n ≤ 10000) : d ≤ 100 := by
  refine Nat.le_of_not_lt (fun hl => ?_)
  have := Nat.mul_le_mul (show 101 ≤ d from hl) (show 101 ≤ d from hl)
  omega
theorem ev_divisors_l (n : Nat) (h1 : 1 ≤ n) (hn : n ≤ 10000) : ∀ (m d : Nat), 1 ≤ d → d + m = 102 → (∀ x, x < d → x * x ≤ n) →
    Ev (fun k => impl_divisors.l0 k (n : Int) (ints (lowD n d)) (ints ((lowS n d).map (fun x => n / x))) (d : Int)) (ints (divs n)) := by
  intro m
  induction m with
  | zero =>
    intro d hd hm hlow
    have := hlow 101 (by omega)
    omega
  | succ m ih =>
    intro d hd hm hlow
    refine Ev.step (fun k => by rw [impl_divisors.l0]) ?_
    have dd : ((d * d : Nat) : Int) = (d : Int) * (d : Int) := by simp
    have hb : d * d ≤ 101 * 101 := Nat.mul_le_mul (by omega) (by omega)
    simp only [w64 (x := (d : Int) * (d : Int)) (by omega), w64 (x := (d : Int) + 1) (by omega)]
    by_cases hc : d * d ≤ n
    · have c1 : (d : Int) * (d : Int) ≤ (n : Int) := by omega
      have c2 : ¬ (d : Int) = 0 := by omega
      have low' : ∀ x, x < d + 1 → x * x ≤ n := fun x hx => by
        by_cases e : x = d
        · subst e; exact hc
        · exact hlow x (by omega)
      simp only [if_pos c1, if_neg c2, ← Int.ofNat_tmod, ← Int.ofNat_tdiv]
      have l1 : (ints (lowD n d)).length < 17592186044416 := by rw [ints_length]; have := length_lowD n d; omega
      have l2 : (ints ((lowS n d).map (fun x => n / x))).length < 17592186044416 := by rw [ints_length, List.length_map]; have := length_lowS n d; omega
      have ih' := ih (d + 1) (by omega) (by omega) low'
      by_cases hz : n % d = 0
      · have z1 : ((n % d : Nat) : Int) = 0 := by omega
        simp only [if_pos z1, if_pos l1, Option.bind_some]
        have eD : ints (lowD n (d + 1)) = ints (lowD n d) ++ [(d : Int)] := by rw [lowD_succ n d hd, if_pos hz, ints_append]; rfl
        by_cases hs : d * d < n
        · have s1 : (d : Int) * (d : Int) < (n : Int) := by omega
          have nb : n / d ≤ 10000 := Nat.le_trans (Nat.div_le_self _ _) hn
          have q0 : (0 : Int) ≤ ((n / d : Nat) : Int) := Int.natCast_nonneg _
          simp only [if_pos s1, if_pos l2, w64 (x := ((n / d : Nat) : Int)) (by omega)]
          rw [lowS_succ n d hd, if_pos ⟨hz, hs⟩, List.map_append, ints_append, eD] at ih'
          exact ih'
        · have s1 : ¬ (d : Int) * (d : Int) < (n : Int) := by omega
          simp only [if_neg s1]
          rw [lowS_succ n d hd, if_neg (fun h => hs h.2), eD] at ih'
          exact ih'
      · have z1 : ¬ ((n % d : Nat) : Int) = 0 := by omega
        simp only [if_neg z1]
        rw [lowD_succ n d hd, if_neg hz, lowS_succ n d hd, if_neg (fun h => hz h.1)] at ih'
        exact ih'
    · have c1 : ¬ (d : Int) * (d : Int) ≤ (n : Int) := by omega
      simp only [if_neg c1]
      have l2 : (ints ((lowS n d).map (fun x => n / x))).length ≤ 1000 := by rw [ints_length, List.length_map]; have := length_lowS n d; omega
      refine Ev.bind (ev_Reverse _ (by omega)) ?_
      have l3 : (ints (lowD n d)).length + (ints ((lowS n d).map (fun x => n / x))).reverse.length < 17592186044416 := by
        rw [List.length_reverse, ints_length]; have := length_lowD n d; omega
      simp only [if_pos l3]
      refine Ev.ret ?_
      rw [ints_reverse, ← ints_append, divs_parts n d h1 (by omega) hlow]
theorem ev_divisors (n : Nat) (h1 : 1 ≤ n) (hn : n ≤ 10000) : Ev (fun k => impl_divisors.f k (n : Int)) (ints (divs n)) := by
  unfold impl_divisors.f
  exact ev_divisors_l n h1 hn 101 1 (by omega) (by omega) (fun x hx => by
    have : x = 0 := by omega
    subst this; omega)

theorem getL_m (l : List Nat) (i : Nat) (h : i < l.length) : l.getD i 0 ∈ l := by
  rw [List.getD_eq_getElem?_getD, List.getElem?_eq_getElem h]; exact List.getElem_mem _
theorem ints_g (l : List Nat) (i : Nat) : rd (ints l) (i : Int) = ((l.getD i 0 : Nat) : Int) := by
  show (ints l).getD i 0 = _
  unfold ints
  simp only [List.getD_eq_getElem?_getD, List.getElem?_map]
  cases l[i]? <;> simp
theorem isum_tk (l : List Nat) (t : Nat → Int) (i : Nat) (h : i < l.length) : isum ((l.take (i + 1)).map t) = isum ((l.take i).map t) + t (l.getD i 0) := by
  rw [List.take_succ_eq_append_getElem h, List.map_append, isum_append]
  have e : l[i] = l.getD i 0 := by rw [List.getD_eq_getElem?_getD, List.getElem?_eq_getElem h]; rfl
  rw [e]; simp [isum]
theorem ev_iTimes_l {f g : List Int} (hf : InB f 10000) (hg : InB g 10000) (lf : f.length = 24) (lg : g.length = 24) (n : Nat) (hn : 1 ≤ n ∧ n ≤ 24) : ∀ (d i : Nat), i + d = (divs n).length →
    Ev (fun k => impl_TimesOf_1.l0 k (n : Int) f g (isum (((divs n).take i).map (term f g n))) (ints (divs n)) ((divs n).length : Int) (i : Int)) (conv f g n) := by
  intro d
  have hdl := length_divs_le n
  induction d with
  | zero =>
    intro i hi
    refine Ev.step (fun k => by rw [impl_TimesOf_1.l0]) ?_
    have c : ¬ (i : Int) < ((divs n).length : Int) := by omega
    simp only [if_neg c]
    exact Ev.ret (by rw [List.take_of_length_le (by omega)]; rfl)
  | succ d ih =>
    intro i hi
    refine Ev.step (fun k => by rw [impl_TimesOf_1.l0]) ?_
    have c : (i : Int) < ((divs n).length : Int) := by omega
    have c1 : 0 ≤ (i : Int) := by omega
    have hm := mem_divs.1 (getL_m (divs n) i (by omega))
    have st := isum_tk (divs n) (term f g n) i (by omega)
    have sb := isum_terms hf hg n ((divs n).take i) (by rw [List.length_take]; omega)
    have ih' := ih (i + 1) (by omega)
    rw [st] at ih'
    have ei := ints_g (divs n) i
    generalize hx : (divs n).getD i 0 = x at *
    have q1 : 1 ≤ n / x := Nat.div_pos hm.2.1 (by omega)
    have q2 : n / x ≤ n := Nat.div_le_self _ _
    have q0 : (0 : Int) ≤ ((n / x : Nat) : Int) := Int.natCast_nonneg _
    have tb := term_in hf hg n x
    have et : At f x * At g (n / x) = term f g n x := rfl
    generalize hq : n / x = q at *
    have c2 : 0 ≤ (x : Int) - 1 := by omega
    have c3 : (x : Int) - 1 < (f.length : Int) := by omega
    have c4 : ¬ (x : Int) = 0 := by omega
    have c5 : 0 ≤ (q : Int) - 1 := by omega
    have c6 : (q : Int) - 1 < (g.length : Int) := by omega
    simp only [ints_length, if_pos c, if_pos c1, ei, w64 (x := (i : Int) + 1) (by omega), w64 (x := (x : Int) - 1) (by omega), if_pos c2, if_pos c3, if_neg c4, ← Int.ofNat_tdiv, hq, w64 (x := (q : Int)) (by omega), w64 (x := (q : Int) - 1) (by omega), if_pos c5, if_pos c6, rd_at f x hm.1, rd_at g q q1, et, w64 (x := term f g n x) (by omega)]
    rw [w64 (by omega)]
    exact ih'
theorem ev_iTimes_1 {f g : List Int} (hf : InB f 10000) (hg : InB g 10000) (lf : f.length = 24) (lg : g.length = 24) (n : Nat) (h1 : 1 ≤ n) (h2 : n ≤ 24) : Ev (fun k => impl_TimesOf_1.f k (n : Int) f g) (conv f g n) := by
  unfold impl_TimesOf_1.f
  refine Ev.bind (ev_divisors n h1 (by omega)) ?_
  rw [ints_length]
  exact ev_iTimes_l hf hg lf lg n ⟨h1, h2⟩ (divs n).length 0 (by omega)
theorem ev_iTimesOf (f g : List Int) (hf : f.length ≤ 1000000000000000) (hg : g.length ≤ 1000000000000000) : Ev (fun k => impl_TimesOf.f k f g) (timesR f g) := by
  unfold impl_TimesOf.f
  refine Ev.bind (ev_small f hf) ?_
  by_cases h1 : InB f 10000 ∧ f.length = 24
  · simp only [decide_eq_true h1, if_true]
    refine Ev.bind (ev_small g hg) ?_
    by_cases h2 : InB g 10000 ∧ g.length = 24
    · simp only [decide_eq_true h2, if_true]
      refine Ev.bind (Ev.to (ev_rowBy _ (conv f g) (fun n n1 n2 => ev_iTimes_1 h1.1 h2.1 h1.2 h2.2 n n1 n2)) (times_rowOf f g).symm) ?_
      exact Ev.ret (by unfold timesR; rw [if_pos ⟨h1, h2⟩])
    · simp only [decide_eq_false h2, Bool.false_eq_true, if_false]
      exact Ev.ret (by unfold timesR; rw [if_neg (fun x => h2 x.2)])
  · simp only [decide_eq_false h1, Bool.false_eq_true, if_false]
    exact Ev.ret (by unfold timesR; rw [if_neg (fun x => h1 x.1)])

theorem ev_RowOk (f : List Int) (hf : f.length ≤ 1000000000000000) : Ev (fun k => impl_RowOk.f k f) (decide (InB f 1000000000 ∧ f.length = 24)) := by
  unfold impl_RowOk.f
  exact Ev.bind (ev_within f 1000000000 (by omega) hf) (Ev.now _)

theorem ev_sameInts_l (a b : List Int) (hl : a.length = b.length) (ha : a.length ≤ 1000000000000000) : ∀ (d i : Nat), i + d = a.length →
    Ev (fun k => laws_sameInts.l0 k a b (i : Int)) (decide (a.drop i = b.drop i)) := by
  intro d
  induction d with
  | zero =>
    intro i hi
    refine Ev.step (fun k => by rw [laws_sameInts.l0]) ?_
    have h1 : ¬ (i : Int) < (a.length : Int) := by omega
    simp only [if_neg h1]
    refine Ev.ret ?_
    rw [List.drop_eq_nil_of_le (by omega), List.drop_eq_nil_of_le (by omega)]; simp
  | succ d ih =>
    intro i hi
    refine Ev.step (fun k => by rw [laws_sameInts.l0]) ?_
    have h1 : (i : Int) < (a.length : Int) := by omega
    have h2 : (0 : Int) ≤ (i : Int) := by omega
    have h3 : (i : Int) < (b.length : Int) := by omega
    have ea := drop_step a i (by omega)
    have eb := drop_step b i (by omega)
    simp only [if_pos h1, if_pos h2, if_pos h3, rd_nat, w64 (x := (i : Int) + 1) (by omega)]
    by_cases e : a.getD i 0 = b.getD i 0
    · simp only [if_pos e]
      refine Ev.to (ih (i + 1) (by omega)) ?_
      rw [ea, eb, e]; simp
    · simp only [if_neg e]
      refine Ev.ret ?_
      rw [ea, eb]; simp only [List.cons.injEq, e, false_and, decide_false]
theorem ev_sameInts (a b : List Int) (ha : a.length ≤ 1000000000000000) : Ev (fun k => laws_sameInts.f k a b) (decide (a = b)) := by
  unfold laws_sameInts.f
  by_cases h : (a.length : Int) = (b.length : Int)
  · simp only [if_pos h]
    exact ev_sameInts_l a b (by omega) ha a.length 0 (by omega)
  · simp only [if_neg h]
    refine Ev.ret ?_
    symm; rw [decide_eq_false_iff_not]
    intro e; subst e; exact h rfl

theorem wf_u8 {x : Int} (h : (Lit.int .u8 x).wf = true) : 0 ≤ x ∧ x ≤ 255 := by
  simp [Lit.wf, IntKind.wrap, IntKind.bits, IntKind.signed, IntKind.min, IntKind.max] at h; omega
theorem wf_i64 {x : Int} (h : (Lit.int .i64 x).wf = true) : -9223372036854775808 ≤ x ∧ x ≤ 9223372036854775807 := by
  simp [Lit.wf, IntKind.wrap, IntKind.bits, IntKind.signed, IntKind.min, IntKind.max] at h; omega
theorem xor_nonneg (x y : Int) (h0 : 0 ≤ x) (h1 : x < 4611686018427387904) (h2 : 0 ≤ y) (h3 : y < 4611686018427387904) : 0 ≤ Go.bits .xor .i64 x y := by
  obtain ⟨a, rfl⟩ := Int.eq_ofNat_of_zero_le h0
  obtain ⟨b, rfl⟩ := Int.eq_ofNat_of_zero_le h2
  have ha : a < 2 ^ 62 := by omega
  have hb : b < 2 ^ 62 := by omega
  have hx := Nat.xor_lt_two_pow ha hb
  have ha' : a % 2 ^ 64 = a := Nat.mod_eq_of_lt (by omega)
  have hb' : b % 2 ^ 64 = b := Nat.mod_eq_of_lt (by omega)
  have e : Go.bits .xor .i64 ((a : Nat) : Int) ((b : Nat) : Int) = IntKind.i64.wrap ((a ^^^ b : Nat) : Int) := by
    simp only [Go.bits, IntKind.bits, BitVec.ofInt_natCast]
    show IntKind.i64.wrap (((BitVec.ofNat 64 a ^^^ BitVec.ofNat 64 b).toNat : Nat) : Int) = _
    rw [BitVec.toNat_xor, BitVec.toNat_ofNat, BitVec.toNat_ofNat, ha', hb']
  rw [e]
  simp only [IntKind.wrap, IntKind.bits, IntKind.signed]
  simp
  omega
/-- The bytes of a draw. -/
def Bytes (b : List Int) : Prop := b.length ≤ 2000 ∧ ∀ x ∈ b, 0 ≤ x ∧ x ≤ 255
theorem Bytes.rd {b : List Int} (hb : Bytes b) (i : Int) : 0 ≤ rd b i ∧ rd b i ≤ 255 := by
  show 0 ≤ b.getD i.toNat 0 ∧ b.getD i.toNat 0 ≤ 255
  rw [List.getD_eq_getElem?_getD]
  by_cases h : i.toNat < b.length
  · rw [List.getElem?_eq_getElem h]; exact hb.2 _ (List.getElem_mem _)
  · rw [List.getElem?_eq_none (by omega)]; simp
theorem ev_pick {b : List Int} (hb : Bytes b) (p n : Int) (hp : 0 ≤ p ∧ p ≤ 1000000) (hn : 1 ≤ n ∧ n ≤ 1000000000000) :
    ∃ r, (0 ≤ r ∧ r < n) ∧ Ev (fun k => spec_l20Rd_pick.f k b p n) (r, p + 1) := by
  have g0 : ¬ n < 1 := by omega
  unfold spec_l20Rd_pick.f
  simp only [if_neg g0, w64 (x := p + 1) (by omega)]
  have e1 : p + 1 - 1 = p := by omega
  by_cases h0 : (b.length : Int) = 0
  · refine ⟨0, by omega, Ev.step (fun k => by rw [spec_l20Rd_pick.j0]) ?_⟩
    simp only [h0, beq_self_eq_true, if_true]; exact Ev.now _
  have hl := hb.1
  have n0 : ¬ n = 0 := by omega
  by_cases h1 : p < (b.length : Int)
  · have hr := hb.rd p
    refine ⟨Int.tmod (rd b p) n, ?_, Ev.step (fun k => by rw [spec_l20Rd_pick.j0]) ?_⟩
    · rw [Int.tmod_eq_emod_of_nonneg hr.1]; exact ⟨Int.emod_nonneg _ n0, Int.emod_lt_of_pos _ (by omega)⟩
    · simp only [e1, w64 (x := p) (by omega), beq_eq_false_iff_ne.2 h0, Bool.false_eq_true, if_false, if_pos h1, if_pos hp.1, if_neg n0, w64 (x := rd b p) (by omega)]
      exact Ev.now _
  · have L0 : (0 : Int) < (b.length : Int) := by omega
    have m1 : Int.tmod p (b.length : Int) = p % (b.length : Int) := Int.tmod_eq_emod_of_nonneg hp.1
    have m2 : Int.tmod (p * 7 + 3) (b.length : Int) = (p * 7 + 3) % (b.length : Int) := Int.tmod_eq_emod_of_nonneg (by omega)
    have q1 : Int.tdiv p (b.length : Int) = p / (b.length : Int) := Int.tdiv_eq_ediv_of_nonneg hp.1
    have a1 := Int.emod_nonneg p (show (b.length : Int) ≠ 0 from h0)
    have a2 := Int.emod_lt_of_pos p L0
    have a3 := Int.emod_nonneg (p * 7 + 3) (show (b.length : Int) ≠ 0 from h0)
    have a4 := Int.emod_lt_of_pos (p * 7 + 3) L0
    have a5 : 0 ≤ p / (b.length : Int) := Int.ediv_nonneg hp.1 (by omega)
    have a6 : p / (b.length : Int) ≤ p := Int.ediv_le_self _ hp.1
    have u := hb.rd (p % (b.length : Int))
    have v := hb.rd ((p * 7 + 3) % (b.length : Int))
    generalize hU : rd b (p % (b.length : Int)) = U at *
    generalize hV : rd b ((p * 7 + 3) % (b.length : Int)) = V at *
    generalize hQ : p / (b.length : Int) = Q at *
    generalize hM : p % (b.length : Int) = M at *
    generalize hM2 : (p * 7 + 3) % (b.length : Int) = M2 at *
    generalize hX : U * 131 + V * 1117 + p * 29 + Q * 53 = X at *
    have x0 : 0 ≤ X := by omega
    have x1 : X ≤ 1000000000000 := by omega
    have d1 : Int.tdiv X 64 = X / 64 := Int.tdiv_eq_ediv_of_nonneg x0
    have y := xor_nonneg X (X / 64) x0 (by omega) (by omega) (by omega)
    refine ⟨Int.tmod (Go.bits .xor .i64 X (X / 64)) n, ?_, Ev.step (fun k => by rw [spec_l20Rd_pick.j0]) ?_⟩
    · rw [Int.tmod_eq_emod_of_nonneg y]; exact ⟨Int.emod_nonneg _ n0, Int.emod_lt_of_pos _ (by omega)⟩
    · simp only [e1, w64 (x := p) (by omega), w64 (x := p * 7) (by omega), w64 (x := p * 7 + 3) (by omega), beq_eq_false_iff_ne.2 h0, Bool.false_eq_true, if_false, if_neg h1, if_neg h0, m1, m2, q1, if_pos a1, if_pos a2, if_pos a3, if_pos a4, if_neg n0, hU, hV, w64 (x := U) (by omega), w64 (x := V) (by omega), w64 (x := U * 131) (by omega), w64 (x := V * 1117) (by omega), w64 (x := U * 131 + V * 1117) (by omega), w64 (x := p * 29) (by omega), w64 (x := U * 131 + V * 1117 + p * 29) (by omega), w64 (x := Q) (by omega), w64 (x := Q * 53) (by omega), hX, w64 (x := X) (by omega), d1, w64 (x := X / 64) (by omega)]
      exact Ev.now _

theorem open_l (l : List Int) (h : ∀ x ∈ l, (Lit.int .u8 x).wf = true) : ∃ b, Bytes b ∧ spec_l20Open.f l = some (b, 0) := by
  unfold spec_l20Open.f
  by_cases c : (l.length : Int) > 2000
  · refine ⟨l.take 2000, ⟨by simp; omega, fun x hx => wf_u8 (h x (List.mem_of_mem_take hx))⟩, ?_⟩
    rw [if_pos c, if_pos (by omega)]
  · exact ⟨l, ⟨by omega, fun x hx => wf_u8 (h x hx)⟩, by rw [if_neg c]⟩

theorem numberOk_f (a : Int) : impl_numberOk.f a = some (decide (1 ≤ a ∧ a ≤ 10000)) := by
  unfold impl_numberOk.f
  by_cases h : a ≥ 1
  · rw [if_pos h]; simp [show 1 ≤ a from h]
  · rw [if_neg h]; simp [show ¬ 1 ≤ a from h]

theorem alive_f : laws_alive.f = some true := by
  unfold laws_alive.f impl_DividesOk.f
  simp only [numberOk_f, Option.bind_some]; simp

theorem nmO_round (f : List Int) (i : Nat) (hi : i < 4) (a b : Nat) (ha : a < 8) (hb : b < 8)
    (er : rd_L1 [([1, 3] : List Int), [2, 4], [5, 2], [6, 0]] (i : Int) = [(a : Int), (b : Int)])
    (et : timesR (named 1) (named a) = (named b, true))
    (hn : Ev (fun k => laws_FnNamedRow.l0 k f (named 1) [([1, 3] : List Int), [2, 4], [5, 2], [6, 0]] 4 ((i + 1 : Nat) : Int)) true) :
    Ev (fun k => laws_FnNamedRow.l0 k f (named 1) [([1, 3] : List Int), [2, 4], [5, 2], [6, 0]] 4 (i : Int)) true := by
  refine Ev.step (fun k => by rw [laws_FnNamedRow.l0]) ?_
  have c : (i : Int) < 4 := by omega
  have c1 : 0 ≤ (i : Int) := by omega
  have c2 : (i : Int) < (([([1, 3] : List Int), [2, 4], [5, 2], [6, 0]] : List (List Int)).length : Int) := by simp only [List.length_cons, List.length_nil]; omega
  have c3 : 0 < ([(a : Int), (b : Int)].length : Int) := by simp only [List.length_cons, List.length_nil]; omega
  have c4 : 1 < ([(a : Int), (b : Int)].length : Int) := by simp only [List.length_cons, List.length_nil]; omega
  have r0 : rd [(a : Int), (b : Int)] 0 = (a : Int) := rfl
  have r1 : rd [(a : Int), (b : Int)] 1 = (b : Int) := rfl
  have n1 := named_length 1
  have na := named_length a
  have nb := named_length b
  simp only [if_pos c, if_pos c1, if_pos c2, er, if_pos c3, if_pos c4, r0, r1, w64 (x := (i : Int) + 1) (by omega)]
  refine Ev.bind (ev_iNamedRow a ha) (Ev.bind (Ev.to (ev_iTimesOf (named 1) (named a) (by omega) (by omega)) et) ?_)
  simp only [if_true]
  refine Ev.bind (ev_iNamedRow b hb) (Ev.bind (ev_sameInts (named b) (named b) (by omega)) ?_)
  simp only [decide_true, if_true]
  exact hn
theorem nmO_end (i : Nat) (hi : i < 8) : Ev (fun k => laws_FnNamedRow.l0 k (named i) (named 1) [([1, 3] : List Int), [2, 4], [5, 2], [6, 0]] 4 ((4 : Nat) : Int)) true := by
  refine Ev.step (fun k => by rw [laws_FnNamedRow.l0]) ?_
  have c : ¬ ((4 : Nat) : Int) < 4 := by omega
  have nl := named_length i
  simp only [if_neg c]
  refine Ev.bind (ev_RowOk (named i) (by omega)) ?_
  have c2 : 0 < ((named i).length : Int) := by omega
  have e : ∀ j, j < 8 → rd (named j) 0 = 1 := by decide
  simp only [decide_eq_true (show InB (named i) 1000000000 ∧ (named i).length = 24 from ⟨(named_in i).mono (by omega), nl⟩), if_true, if_pos c2, e i hi, beq_self_eq_true]
  exact Ev.now _
theorem FnNamedRow : laws_FnNamedRow.Pure := by
  intro l h1 h2 h3
  apply Ev.k
  unfold laws_FnNamedRow.f
  by_cases hl : (l.length : Int) > 1048576
  · simp only [if_pos hl]; exact Ev.now _
  simp only [if_neg hl]
  obtain ⟨b, hb, eo⟩ := open_l l h3
  obtain ⟨r, hr, er⟩ := ev_pick hb 0 10 (by omega) (by omega)
  have ed : Ev (fun k => spec_DrawNamedRow.f k l) (r - 1) := by
    unfold spec_DrawNamedRow.f
    simp only [eo, Option.bind_some]
    refine Ev.bind er ?_
    simp only [w64 (x := r - 1) (by omega)]
    exact Ev.now _
  have z := namedZ_length (r - 1)
  refine Ev.bind ed (Ev.bind (ev_iNamedRowZ (r - 1)) (Ev.bind (ev_sNamedRowZ (r - 1)) (Ev.bind (ev_sameInts (namedZ (r - 1)) (namedZ (r - 1)) (by omega)) ?_)))
  simp only [decide_true, if_true]
  by_cases h : 0 ≤ r - 1 ∧ r - 1 < 8
  · obtain ⟨i, hi⟩ := Int.eq_ofNat_of_zero_le h.1
    have i8 : i < 8 := by omega
    rw [hi]
    have e : namedZ (i : Int) = named i := by unfold namedZ; rw [if_pos (by omega), Int.toNat_natCast]
    have nl := named_length i
    have c : ¬ ((named i).length : Int) = 0 := by omega
    rw [e]
    simp only [if_neg c, Option.bind_some]
    refine Ev.bind (ev_iNamedRow 1 (by omega)) ?_
    exact nmO_round (named i) 0 (by omega) 1 3 (by omega) (by omega) rfl (by decide +kernel) (nmO_round (named i) 1 (by omega) 2 4 (by omega) (by omega) rfl (by decide +kernel) (nmO_round (named i) 2 (by omega) 5 2 (by omega) (by omega) rfl (by decide +kernel) (nmO_round (named i) 3 (by omega) 6 0 (by omega) (by omega) rfl (by decide +kernel) (nmO_end i (by omega)))))
  · have e : namedZ (r - 1) = [] := by unfold namedZ; rw [if_neg h]
    rw [e]
    simp only [List.length_nil, Int.natCast_zero, if_true, alive_f, Option.bind_some]
    by_cases g : r - 1 < 0
    · simp only [if_pos g]; exact Ev.now _
    · have g2 : r - 1 ≥ 8 := by omega
      simp only [if_neg g, if_pos g2]; exact Ev.now _

end Go.Proofs.Ytcnbiknoehcfnaa.Pure
namespace Go.Proofs.Ytcnbiknoehcfnaa.PrintWords
/-- The printed row's word, under the name by which that row calls it. -/
abbrev sized_ints := @Go.Proofs.YtcnbiknoehcfnaaW.PrintWords.sized_ints
end Go.Proofs.Ytcnbiknoehcfnaa.PrintWords
