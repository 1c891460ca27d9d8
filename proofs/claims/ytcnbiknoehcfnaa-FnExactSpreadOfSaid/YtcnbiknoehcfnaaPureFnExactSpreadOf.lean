/- The program's SpreadOf and the reference's tell the same for all lists, in memory of their own, and leave the list as it was. -/
import Derived.Test.YtcnbiknoehcfnaaPFnExactSpreadOfx0
import Derived.Test.YtcnbiknoehcfnaaPFnExactSpreadOfx1
import Derived.Test.YtcnbiknoehcfnaaPFnExactSpreadOfx2
import Derived.Test.YtcnbiknoehcfnaaPFnExactSpreadOfx3
import Derived.Test.YtcnbiknoehcfnaaPFnExactSpreadOfx4
import Derived.Test.YtcnbiknoehcfnaaPFnExactSpreadOfx5
import Derived.Test.YtcnbiknoehcfnaaM1
import Derived.Test.YtcnbiknoehcfnaaM2
import Derived.Test.YtcnbiknoehcfnaaM3
import Derived.Test.YtcnbiknoehcfnaaWSized
namespace Go.Proofs.Ytcnbiknoehcfnaa.Pure
open Go.RowKit Go.Proofs.Ytcnbiknoehcfnaa.PFnExactSpreadOf Go.Proofs.YtcnbiknoehcfnaaW.PrintWords Go.Proofs.YtcnbiknoehcfnaaW.PrintLast Go.Proofs.YtcnbiknoehcfnaaW.PrintMore Go.Proofs.Ytcnbiknoehcfnaa.Math
set_option linter.unusedVariables false
set_option linter.unusedSimpArgs false
theorem w64 {x : Int} (h : -9223372036854775808 ≤ x ∧ x ≤ 9223372036854775807) : wrap64 x = x := by unfold wrap64; omega
theorem Ev.k {α : Type} {g : Nat → Option α} {r : α} (h : Ev g r) : ∃ k, g k = some r := Ev.rounds h
theorem Ev.to {α : Type} {g : Nat → Option α} {r s : α} (h : Ev g r) (e : r = s) : Ev g s := e ▸ h
theorem Ev.ret {α : Type} {r s : α} (e : r = s) : Ev (fun _ => some r) s := e ▸ Ev.now r

theorem rd_nat (xs : List Int) (i : Nat) : rd xs (i : Int) = xs.getD i 0 := rfl
theorem drop_step (f : List Int) (i : Nat) (h : i < f.length) : f.drop i = f.getD i 0 :: f.drop (i + 1) := by
  rw [List.drop_eq_getElem_cons h]; simp [List.getD_eq_getElem?_getD, List.getElem?_eq_getElem h]
def InB (f : List Int) (m : Int) : Prop := ∀ x ∈ f, -m ≤ x ∧ x ≤ m
instance (f : List Int) (m : Int) : Decidable (InB f m) := by unfold InB; infer_instance
theorem InB_cons (x : Int) (f : List Int) (m : Int) : InB (x :: f) m ↔ (-m ≤ x ∧ x ≤ m) ∧ InB f m := by
  unfold InB; simp
theorem InB_nil (m : Int) : InB [] m := fun x h => by cases h
theorem InB.mono {f : List Int} {m n : Int} (h : InB f m) (hmn : m ≤ n) : InB f n := fun x hx => by have := h x hx; omega

/-- What a row is at a number. -/
def At (f : List Int) (n : Nat) : Int := f.getD (n - 1) 0
theorem rd_at (f : List Int) (n : Nat) (h : 1 ≤ n) : rd f ((n : Int) - 1) = At f n := by
  rw [show (n : Int) - 1 = ((n - 1 : Nat) : Int) by omega]; rfl
theorem rd_at0 (f : List Int) : rd f 0 = At f 1 := rfl
theorem InB.at {f : List Int} {m : Int} (h : InB f m) (hm : 0 ≤ m) (n : Nat) : -m ≤ At f n ∧ At f n ≤ m := by
  unfold At; rw [List.getD_eq_getElem?_getD]
  by_cases c : n - 1 < f.length
  · rw [List.getElem?_eq_getElem c]; exact h _ (List.getElem_mem _)
  · rw [List.getElem?_eq_none (by omega)]; simp; omega
theorem mul_in {x y B : Int} (hx : -B ≤ x ∧ x ≤ B) (hy : -B ≤ y ∧ y ≤ B) (hB : 0 ≤ B) : -(B * B) ≤ x * y ∧ x * y ≤ B * B := by
  have h1 : x.natAbs ≤ B.toNat := by omega
  have h2 : y.natAbs ≤ B.toNat := by omega
  have h3 := Nat.mul_le_mul h1 h2
  rw [← Int.natAbs_mul] at h3
  have h4 : ((B.toNat * B.toNat : Nat) : Int) = B * B := by rw [Int.natCast_mul, Int.toNat_of_nonneg hB]
  omega
theorem w64_prod {f : List Int} (h : InB f 1000000000) (a b : Nat) : wrap64 (At f a * At f b) = At f a * At f b := by
  have := mul_in (h.at (by omega) a) (h.at (by omega) b) (by omega)
  exact w64 (by omega)
/-- A row is 1 at 1, and at each product of two numbers (that are apart, or all) the product. -/
def Mult (all : Bool) (f : List Int) : Prop := At f 1 = 1 ∧ ∀ a b, 1 ≤ a → 1 ≤ b → a * b ≤ 24 → (all = true ∨ Nat.gcd a b = 1) → At f (a * b) = At f a * At f b
/-- It is so at all pairs before one. -/
def MultTo (all : Bool) (f : List Int) (x y : Nat) : Prop := ∀ a b, (a < x ∨ a = x ∧ b < y) → 1 ≤ a → 1 ≤ b → a * b ≤ 24 → (all = true ∨ Nat.gcd a b = 1) → At f (a * b) = At f a * At f b
theorem MultTo.step {all : Bool} {f : List Int} {x y : Nat} (h : MultTo all f x y) (e : x * y ≤ 24 → (all = true ∨ Nat.gcd x y = 1) → At f (x * y) = At f x * At f y) : MultTo all f x (y + 1) := by
  intro a b hab h1 h2 h3 h4
  by_cases c : a = x ∧ b = y
  · obtain ⟨rfl, rfl⟩ := c; exact e h3 h4
  · exact h a b (by omega) h1 h2 h3 h4
theorem MultTo.next {all : Bool} {f : List Int} {x y : Nat} (h : MultTo all f x y) (hy : 24 < x * y) : MultTo all f (x + 1) 1 := by
  intro a b hab h1 h2 h3 h4
  refine h a b ?_ h1 h2 h3 h4
  by_cases c : a < x
  · exact Or.inl c
  · have e : a = x := by omega
    subst e
    refine Or.inr ⟨rfl, Nat.lt_of_not_le (fun hle => ?_)⟩
    have := Nat.mul_le_mul_left a hle; omega

/-- The primes up to 24. -/
def prms : List Int := [2, 3, 5, 7, 11, 13, 17, 19, 23]
/-- The places of a number's primes, in ascending order, each as often as it divides the number. -/
def fidx (n : Nat) : List Nat := ([[], [], [0], [1], [0, 0], [2], [0, 1], [3], [0, 0, 0], [1, 1], [0, 2], [4], [0, 0, 1], [5], [0, 3], [1, 2], [0, 0, 0, 0], [6], [0, 1, 1], [7], [0, 0, 2], [1, 3], [0, 4], [8], [0, 0, 0, 1]] : List (List Nat)).getD n []
def pv (v : List Int) (l : List Nat) : Int := l.foldr (fun i x => v.getD i 0 * x) 1
def wch (v : List Int) (l : List Nat) : Int := l.foldl (fun x i => wrap64 (x * v.getD i 0)) 1
theorem getD_in {v : List Int} {B : Int} (h : InB v B) (hB : 0 ≤ B) (i : Nat) : -B ≤ v.getD i 0 ∧ v.getD i 0 ≤ B := by
  rw [List.getD_eq_getElem?_getD]
  by_cases c : i < v.length
  · rw [List.getElem?_eq_getElem c]; exact h _ (List.getElem_mem _)
  · rw [List.getElem?_eq_none (by omega)]; simp; omega
theorem wch_go {v : List Int} (h : InB v 1000) : ∀ (l : List Nat) (a : Nat) (x : Int), a + l.length ≤ 6 → x.natAbs ≤ 1000 ^ a → l.foldl (fun x i => wrap64 (x * v.getD i 0)) x = x * pv v l := by
  intro l
  induction l with
  | nil => intro a x _ _; show x = x * 1; omega
  | cons i t ih =>
    intro a x ha hx
    have b := getD_in h (by omega) i
    have m : (x * v.getD i 0).natAbs ≤ 1000 ^ (a + 1) := by
      rw [Int.natAbs_mul, Nat.pow_succ]
      exact Nat.mul_le_mul hx (by omega)
    have m2 : 1000 ^ (a + 1) ≤ 1000 ^ 6 := Nat.pow_le_pow_right (by omega) (by simp at ha; omega)
    have m3 : (1000 : Nat) ^ 6 = 1000000000000000000 := by decide
    rw [List.foldl_cons, w64 (by omega), ih (a + 1) _ (by simp at ha; omega) m]
    show x * v.getD i 0 * pv v t = x * (v.getD i 0 * pv v t)
    rw [Int.mul_assoc]
theorem wch_pv {v : List Int} (h : InB v 1000) (l : List Nat) (hl : l.length ≤ 5) : wch v l = pv v l := by
  have := wch_go h l 0 1 (by omega) (by decide)
  rw [Int.one_mul] at this
  exact this
theorem pv_in {v : List Int} {B : Nat} (h : InB v B) : ∀ l : List Nat, (pv v l).natAbs ≤ B ^ l.length := by
  intro l
  induction l with
  | nil => exact Nat.le_refl 1
  | cons i t ih =>
    have b := getD_in h (by omega) i
    show (v.getD i 0 * pv v t).natAbs ≤ B ^ (t.length + 1)
    rw [Int.natAbs_mul, Nat.pow_succ, Nat.mul_comm]
    exact Nat.mul_le_mul ih (by omega)
/-- The fully multiplicative row that is at the primes as told. -/
def full (v : List Int) : List Int := (List.range 24).map (fun i => pv v (fidx (i + 1)))
theorem full_length (v : List Int) : (full v).length = 24 := by simp [full]
theorem At_full (v : List Int) (n : Nat) (h : 1 ≤ n ∧ n ≤ 24) : At (full v) n = pv v (fidx n) := by
  unfold full
  conv => lhs; unfold At
  rw [List.getD_eq_getElem?_getD, List.getElem?_map, List.getElem?_range (by omega)]
  simp only [Option.map_some, Option.getD_some]
  rw [show n - 1 + 1 = n by omega]
/-- What FullOf tells. -/
def fullR (v : List Int) : List Int × Bool := if v.length = 9 ∧ InB v 9 then (full v, true) else ([], false)
theorem fullR_length (v : List Int) : (fullR v).1.length ≤ 24 := by
  unfold fullR; split
  · exact Nat.le_of_eq (full_length v)
  · simp
theorem fidx_len : ∀ n, n < 25 → (fidx n).length ≤ 5 := by decide
theorem nine {v : List Int} (h : v.length = 9) : ∃ a b c d e f g i j : Int, v = [a, b, c, d, e, f, g, i, j] := by
  match v, h with
  | [a, b, c, d, e, f, g, i, j], _ => exact ⟨a, b, c, d, e, f, g, i, j, rfl⟩

/-- The powers of one prime up to 24. -/
def pws : List Int := [2, 3, 4, 5, 7, 8, 9, 11, 13, 16, 17, 19, 23]
/-- The places of the powers of primes that divide a number most. -/
def sidx (n : Nat) : List Nat := ([[], [], [0], [1], [2], [3], [0, 1], [4], [5], [6], [0, 3], [7], [1, 2], [8], [0, 4], [1, 3], [9], [10], [0, 6], [11], [2, 3], [1, 4], [0, 7], [12], [1, 5]] : List (List Nat)).getD n []
/-- The multiplicative row that is at the powers of primes as told. -/
def spread (v : List Int) : List Int := (List.range 24).map (fun i => pv v (sidx (i + 1)))
theorem spread_length (v : List Int) : (spread v).length = 24 := by simp [spread]
theorem At_spread (v : List Int) (n : Nat) (h : 1 ≤ n ∧ n ≤ 24) : At (spread v) n = pv v (sidx n) := by
  unfold spread
  conv => lhs; unfold At
  rw [List.getD_eq_getElem?_getD, List.getElem?_map, List.getElem?_range (by omega)]
  simp only [Option.map_some, Option.getD_some]
  rw [show n - 1 + 1 = n by omega]
/-- What SpreadOf tells. -/
def spreadR (v : List Int) : List Int × Bool := if v.length = 13 ∧ InB v 1000 then (spread v, true) else ([], false)
theorem spreadR_length (v : List Int) : (spreadR v).1.length ≤ 24 := by
  unfold spreadR; split
  · exact Nat.le_of_eq (spread_length v)
  · simp
theorem sidx_len : ∀ n, n < 25 → (sidx n).length ≤ 2 := by decide
theorem thirteen {v : List Int} (h : v.length = 13) : ∃ a0 a1 a2 a3 a4 a5 a6 a7 a8 a9 a10 a11 a12 : Int, v = [a0, a1, a2, a3, a4, a5, a6, a7, a8, a9, a10, a11, a12] := by
  match v, h with
  | [a0, a1, a2, a3, a4, a5, a6, a7, a8, a9, a10, a11, a12], _ => exact ⟨a0, a1, a2, a3, a4, a5, a6, a7, a8, a9, a10, a11, a12, rfl⟩

/-- One term of a product over divisors. -/
def term (f g : List Int) (n d : Nat) : Int := At f d * At g (n / d)
/-- The product of two rows over divisors, at a number. -/
def conv (f g : List Int) (n : Nat) : Int := isum ((divs n).map (term f g n))
def times (f g : List Int) : List Int := (List.range 24).map (fun i => conv f g (i + 1))
theorem isum_bound {l : List Int} {B : Int} (hB : 0 ≤ B) (h : ∀ x ∈ l, -B ≤ x ∧ x ≤ B) : -((l.length : Int) * B) ≤ isum l ∧ isum l ≤ (l.length : Int) * B := by
  induction l with
  | nil => simp [isum]
  | cons x t ih =>
    have h1 := h x (by simp)
    have h2 := ih (fun y hy => h y (List.mem_cons_of_mem _ hy))
    simp only [isum, List.length_cons]
    rw [Int.natCast_add, Int.add_mul]
    omega
theorem term_in {f g : List Int} (hf : InB f 10000) (hg : InB g 10000) (n d : Nat) : -100000000 ≤ term f g n d ∧ term f g n d ≤ 100000000 := by
  have := mul_in (hf.at (by omega) d) (hg.at (by omega) (n / d)) (by omega)
  unfold term; omega
theorem isum_terms {f g : List Int} (hf : InB f 10000) (hg : InB g 10000) (n : Nat) (l : List Nat) (hl : l.length ≤ 1000) : -100000000000 ≤ isum (l.map (term f g n)) ∧ isum (l.map (term f g n)) ≤ 100000000000 := by
  have h := isum_bound (l := l.map (term f g n)) (B := 100000000) (by omega) (fun x hx => by
    obtain ⟨d, _, rfl⟩ := List.mem_map.1 hx; exact term_in hf hg n d)
  rw [List.length_map] at h
  omega
theorem times_length (f g : List Int) : (times f g).length = 24 := by simp [times]
theorem At_times (f g : List Int) (n : Nat) (h : 1 ≤ n ∧ n ≤ 24) : At (times f g) n = conv f g n := by
  unfold At times
  rw [List.getD_eq_getElem?_getD, List.getElem?_map, List.getElem?_range (by omega)]
  simp only [Option.map_some, Option.getD_some]
  rw [show n - 1 + 1 = n by omega]
theorem ext_At {a b : List Int} (ha : a.length = 24) (hb : b.length = 24) (h : ∀ n, 1 ≤ n → n ≤ 24 → At a n = At b n) : a = b := by
  refine List.ext_getElem (by omega) (fun t h1 h2 => ?_)
  have := h (t + 1) (by omega) (by omega)
  unfold At at this
  rw [show t + 1 - 1 = t by omega] at this
  simpa [List.getD_eq_getElem?_getD, List.getElem?_eq_getElem h1, List.getElem?_eq_getElem h2] using this
theorem At_set (a : List Int) (m : Nat) (x : Int) (n : Nat) (hm : 1 ≤ m) (hl : m ≤ a.length) (hn : 1 ≤ n) : At (a.set (m - 1) x) n = if n = m then x else At a n := by
  unfold At
  simp only [List.getD_eq_getElem?_getD, List.getElem?_set]
  by_cases e : n = m
  · subst e; simp [show n - 1 < a.length by omega]
  · rw [if_neg (by omega), if_neg e]

/-- The row that is at each number as told. -/
def rowOf (g : Nat → Int) : List Int := (List.range 24).map (fun i => g (i + 1))
theorem rowOf_length (g : Nat → Int) : (rowOf g).length = 24 := by simp [rowOf]
theorem At_rowOf (g : Nat → Int) (n : Nat) (h : 1 ≤ n ∧ n ≤ 24) : At (rowOf g) n = g n := by
  unfold At rowOf
  rw [List.getD_eq_getElem?_getD, List.getElem?_map, List.getElem?_range (by omega)]
  simp only [Option.map_some, Option.getD_some]
  rw [show n - 1 + 1 = n by omega]
theorem times_rowOf (f g : List Int) : times f g = rowOf (conv f g) := rfl
theorem ev_rowBy_l (GF : Nat → Int → Option Int) (g : Nat → Int) (h : ∀ n : Nat, 1 ≤ n → n ≤ 24 → Ev (fun k => GF k (n : Int)) (g n)) : ∀ (d i : Nat) (out : List Int), i + d = 24 → out.length = 24 → (∀ n, 1 ≤ n → n ≤ i → At out n = g n) →
    Ev (fun k => impl_rowBy.l0 GF k out 24 (i : Int)) (rowOf g) := by
  intro d
  induction d with
  | zero =>
    intro i out hi hl ho
    refine Ev.step (fun k => by rw [impl_rowBy.l0]) ?_
    have c : ¬ (i : Int) < 24 := by omega
    simp only [if_neg c]
    exact Ev.ret (ext_At hl (rowOf_length g) (fun n n1 n2 => by rw [ho n n1 (by omega), At_rowOf g n ⟨n1, n2⟩]))
  | succ d ih =>
    intro i out hi hl ho
    refine Ev.step (fun k => by rw [impl_rowBy.l0]) ?_
    have c : (i : Int) < 24 := by omega
    have c1 : 0 ≤ (i : Int) := by omega
    have c2 : (i : Int) < (out.length : Int) := by omega
    simp only [if_pos c, w64 (x := (i : Int) + 1) (by omega), if_pos c1, if_pos c2, Int.toNat_natCast]
    refine Ev.bind (h (i + 1) (by omega) (by omega)) ?_
    refine ih (i + 1) _ (by omega) (by rw [List.length_set]; exact hl) (fun n n1 n2 => ?_)
    have := At_set out (i + 1) (g (i + 1)) n (by omega) (by omega) n1
    rw [show i + 1 - 1 = i by omega] at this
    rw [this]
    by_cases e : n = i + 1
    · rw [if_pos e, e]
    · rw [if_neg e]; exact ho n n1 (by omega)
theorem ev_rowBy (GF : Nat → Int → Option Int) (g : Nat → Int) (h : ∀ n : Nat, 1 ≤ n → n ≤ 24 → Ev (fun k => GF k (n : Int)) (g n)) : Ev (fun k => impl_rowBy.f GF k) (rowOf g) := by
  unfold impl_rowBy.f
  have c : 24 ≤ 35184372088832 := by omega
  simp only [if_pos c, Option.bind_some, List.length_replicate]
  exact ev_rowBy_l GF g h 24 0 _ (by omega) (by simp) (fun n n1 n2 => by omega)

theorem ev_listWithin_l (f : List Int) (m : Int) (hm : 0 ≤ m ∧ m ≤ 1000000000000) (hf : f.length ≤ 1000000000000000) : ∀ (d i : Nat), i + d = f.length →
    Ev (fun k => impl_listWithin.l0 k m f (f.length : Int) (i : Int)) (decide (InB (f.drop i) m)) := by
  intro d
  induction d with
  | zero =>
    intro i hi
    refine Ev.step (fun k => by rw [impl_listWithin.l0]) ?_
    have c : ¬ (i : Int) < (f.length : Int) := by omega
    simp only [if_neg c]
    refine Ev.ret ?_
    rw [List.drop_eq_nil_of_le (by omega)]
    exact (decide_eq_true (InB_nil m)).symm
  | succ d ih =>
    intro i hi
    refine Ev.step (fun k => by rw [impl_listWithin.l0]) ?_
    have c : (i : Int) < (f.length : Int) := by omega
    have c1 : 0 ≤ (i : Int) := by omega
    have e : rd f (i : Int) = f.getD i 0 := rfl
    rw [drop_step f i (by omega)]
    simp only [if_pos c, if_pos c1, e, w64 (x := -m) (by omega), w64 (x := (i : Int) + 1) (by omega)]
    generalize f.getD i 0 = x
    by_cases h1 : x < -m
    · simp only [if_pos h1]
      exact Ev.ret (decide_eq_false (fun h => by have := ((InB_cons x _ m).1 h).1; omega)).symm
    · by_cases h2 : x > m
      · simp only [if_neg h1, if_pos h2]
        exact Ev.ret (decide_eq_false (fun h => by have := ((InB_cons x _ m).1 h).1; omega)).symm
      · simp only [if_neg h1, if_neg h2]
        refine Ev.to (ih (i + 1) (by omega)) ?_
        rw [decide_eq_decide, InB_cons]
        constructor
        · intro h; exact ⟨by omega, h⟩
        · intro h; exact h.2
theorem ev_listWithin (f : List Int) (m : Int) (hm : 0 ≤ m ∧ m ≤ 1000000000000) (hf : f.length ≤ 1000000000000000) : Ev (fun k => impl_listWithin.f k f m) (decide (InB f m)) := by
  unfold impl_listWithin.f
  exact ev_listWithin_l f m hm hf f.length 0 (by omega)

theorem ev_pws : Ev (fun k => impl_primePowers.f k 24) pws := Ev.of (fun k => impl_primePowers.mono _ k) (k := 300) (by decide +kernel)
theorem iSpread_1 (a0 a1 a2 a3 a4 a5 a6 a7 a8 a9 a10 a11 a12 : Int) : impl_SpreadOf_1.f 100 1 pws [a0, a1, a2, a3, a4, a5, a6, a7, a8, a9, a10, a11, a12] = some (wch [a0, a1, a2, a3, a4, a5, a6, a7, a8, a9, a10, a11, a12] (sidx 1)) := by kernel_rfl
theorem iSpread_2 (a0 a1 a2 a3 a4 a5 a6 a7 a8 a9 a10 a11 a12 : Int) : impl_SpreadOf_1.f 100 2 pws [a0, a1, a2, a3, a4, a5, a6, a7, a8, a9, a10, a11, a12] = some (wch [a0, a1, a2, a3, a4, a5, a6, a7, a8, a9, a10, a11, a12] (sidx 2)) := by kernel_rfl
theorem iSpread_3 (a0 a1 a2 a3 a4 a5 a6 a7 a8 a9 a10 a11 a12 : Int) : impl_SpreadOf_1.f 100 3 pws [a0, a1, a2, a3, a4, a5, a6, a7, a8, a9, a10, a11, a12] = some (wch [a0, a1, a2, a3, a4, a5, a6, a7, a8, a9, a10, a11, a12] (sidx 3)) := by kernel_rfl
theorem iSpread_4 (a0 a1 a2 a3 a4 a5 a6 a7 a8 a9 a10 a11 a12 : Int) : impl_SpreadOf_1.f 100 4 pws [a0, a1, a2, a3, a4, a5, a6, a7, a8, a9, a10, a11, a12] = some (wch [a0, a1, a2, a3, a4, a5, a6, a7, a8, a9, a10, a11, a12] (sidx 4)) := by kernel_rfl
theorem iSpread_5 (a0 a1 a2 a3 a4 a5 a6 a7 a8 a9 a10 a11 a12 : Int) : impl_SpreadOf_1.f 100 5 pws [a0, a1, a2, a3, a4, a5, a6, a7, a8, a9, a10, a11, a12] = some (wch [a0, a1, a2, a3, a4, a5, a6, a7, a8, a9, a10, a11, a12] (sidx 5)) := by kernel_rfl
theorem iSpread_6 (a0 a1 a2 a3 a4 a5 a6 a7 a8 a9 a10 a11 a12 : Int) : impl_SpreadOf_1.f 100 6 pws [a0, a1, a2, a3, a4, a5, a6, a7, a8, a9, a10, a11, a12] = some (wch [a0, a1, a2, a3, a4, a5, a6, a7, a8, a9, a10, a11, a12] (sidx 6)) := by kernel_rfl
theorem iSpread_7 (a0 a1 a2 a3 a4 a5 a6 a7 a8 a9 a10 a11 a12 : Int) : impl_SpreadOf_1.f 100 7 pws [a0, a1, a2, a3, a4, a5, a6, a7, a8, a9, a10, a11, a12] = some (wch [a0, a1, a2, a3, a4, a5, a6, a7, a8, a9, a10, a11, a12] (sidx 7)) := by kernel_rfl
theorem iSpread_8 (a0 a1 a2 a3 a4 a5 a6 a7 a8 a9 a10 a11 a12 : Int) : impl_SpreadOf_1.f 100 8 pws [a0, a1, a2, a3, a4, a5, a6, a7, a8, a9, a10, a11, a12] = some (wch [a0, a1, a2, a3, a4, a5, a6, a7, a8, a9, a10, a11, a12] (sidx 8)) := by kernel_rfl
theorem iSpread_9 (a0 a1 a2 a3 a4 a5 a6 a7 a8 a9 a10 a11 a12 : Int) : impl_SpreadOf_1.f 100 9 pws [a0, a1, a2, a3, a4, a5, a6, a7, a8, a9, a10, a11, a12] = some (wch [a0, a1, a2, a3, a4, a5, a6, a7, a8, a9, a10, a11, a12] (sidx 9)) := by kernel_rfl
theorem iSpread_10 (a0 a1 a2 a3 a4 a5 a6 a7 a8 a9 a10 a11 a12 : Int) : impl_SpreadOf_1.f 100 10 pws [a0, a1, a2, a3, a4, a5, a6, a7, a8, a9, a10, a11, a12] = some (wch [a0, a1, a2, a3, a4, a5, a6, a7, a8, a9, a10, a11, a12] (sidx 10)) := by kernel_rfl
theorem iSpread_11 (a0 a1 a2 a3 a4 a5 a6 a7 a8 a9 a10 a11 a12 : Int) : impl_SpreadOf_1.f 100 11 pws [a0, a1, a2, a3, a4, a5, a6, a7, a8, a9, a10, a11, a12] = some (wch [a0, a1, a2, a3, a4, a5, a6, a7, a8, a9, a10, a11, a12] (sidx 11)) := by kernel_rfl
theorem iSpread_12 (a0 a1 a2 a3 a4 a5 a6 a7 a8 a9 a10 a11 a12 : Int) : impl_SpreadOf_1.f 100 12 pws [a0, a1, a2, a3, a4, a5, a6, a7, a8, a9, a10, a11, a12] = some (wch [a0, a1, a2, a3, a4, a5, a6, a7, a8, a9, a10, a11, a12] (sidx 12)) := by kernel_rfl
theorem iSpread_13 (a0 a1 a2 a3 a4 a5 a6 a7 a8 a9 a10 a11 a12 : Int) : impl_SpreadOf_1.f 100 13 pws [a0, a1, a2, a3, a4, a5, a6, a7, a8, a9, a10, a11, a12] = some (wch [a0, a1, a2, a3, a4, a5, a6, a7, a8, a9, a10, a11, a12] (sidx 13)) := by kernel_rfl
theorem iSpread_14 (a0 a1 a2 a3 a4 a5 a6 a7 a8 a9 a10 a11 a12 : Int) : impl_SpreadOf_1.f 100 14 pws [a0, a1, a2, a3, a4, a5, a6, a7, a8, a9, a10, a11, a12] = some (wch [a0, a1, a2, a3, a4, a5, a6, a7, a8, a9, a10, a11, a12] (sidx 14)) := by kernel_rfl
theorem iSpread_15 (a0 a1 a2 a3 a4 a5 a6 a7 a8 a9 a10 a11 a12 : Int) : impl_SpreadOf_1.f 100 15 pws [a0, a1, a2, a3, a4, a5, a6, a7, a8, a9, a10, a11, a12] = some (wch [a0, a1, a2, a3, a4, a5, a6, a7, a8, a9, a10, a11, a12] (sidx 15)) := by kernel_rfl
theorem iSpread_16 (a0 a1 a2 a3 a4 a5 a6 a7 a8 a9 a10 a11 a12 : Int) : impl_SpreadOf_1.f 100 16 pws [a0, a1, a2, a3, a4, a5, a6, a7, a8, a9, a10, a11, a12] = some (wch [a0, a1, a2, a3, a4, a5, a6, a7, a8, a9, a10, a11, a12] (sidx 16)) := by kernel_rfl
theorem iSpread_17 (a0 a1 a2 a3 a4 a5 a6 a7 a8 a9 a10 a11 a12 : Int) : impl_SpreadOf_1.f 100 17 pws [a0, a1, a2, a3, a4, a5, a6, a7, a8, a9, a10, a11, a12] = some (wch [a0, a1, a2, a3, a4, a5, a6, a7, a8, a9, a10, a11, a12] (sidx 17)) := by kernel_rfl
theorem iSpread_18 (a0 a1 a2 a3 a4 a5 a6 a7 a8 a9 a10 a11 a12 : Int) : impl_SpreadOf_1.f 100 18 pws [a0, a1, a2, a3, a4, a5, a6, a7, a8, a9, a10, a11, a12] = some (wch [a0, a1, a2, a3, a4, a5, a6, a7, a8, a9, a10, a11, a12] (sidx 18)) := by kernel_rfl
theorem iSpread_19 (a0 a1 a2 a3 a4 a5 a6 a7 a8 a9 a10 a11 a12 : Int) : impl_SpreadOf_1.f 100 19 pws [a0, a1, a2, a3, a4, a5, a6, a7, a8, a9, a10, a11, a12] = some (wch [a0, a1, a2, a3, a4, a5, a6, a7, a8, a9, a10, a11, a12] (sidx 19)) := by kernel_rfl
theorem iSpread_20 (a0 a1 a2 a3 a4 a5 a6 a7 a8 a9 a10 a11 a12 : Int) : impl_SpreadOf_1.f 100 20 pws [a0, a1, a2, a3, a4, a5, a6, a7, a8, a9, a10, a11, a12] = some (wch [a0, a1, a2, a3, a4, a5, a6, a7, a8, a9, a10, a11, a12] (sidx 20)) := by kernel_rfl
theorem iSpread_21 (a0 a1 a2 a3 a4 a5 a6 a7 a8 a9 a10 a11 a12 : Int) : impl_SpreadOf_1.f 100 21 pws [a0, a1, a2, a3, a4, a5, a6, a7, a8, a9, a10, a11, a12] = some (wch [a0, a1, a2, a3, a4, a5, a6, a7, a8, a9, a10, a11, a12] (sidx 21)) := by kernel_rfl
theorem iSpread_22 (a0 a1 a2 a3 a4 a5 a6 a7 a8 a9 a10 a11 a12 : Int) : impl_SpreadOf_1.f 100 22 pws [a0, a1, a2, a3, a4, a5, a6, a7, a8, a9, a10, a11, a12] = some (wch [a0, a1, a2, a3, a4, a5, a6, a7, a8, a9, a10, a11, a12] (sidx 22)) := by kernel_rfl
theorem iSpread_23 (a0 a1 a2 a3 a4 a5 a6 a7 a8 a9 a10 a11 a12 : Int) : impl_SpreadOf_1.f 100 23 pws [a0, a1, a2, a3, a4, a5, a6, a7, a8, a9, a10, a11, a12] = some (wch [a0, a1, a2, a3, a4, a5, a6, a7, a8, a9, a10, a11, a12] (sidx 23)) := by kernel_rfl
theorem iSpread_24 (a0 a1 a2 a3 a4 a5 a6 a7 a8 a9 a10 a11 a12 : Int) : impl_SpreadOf_1.f 100 24 pws [a0, a1, a2, a3, a4, a5, a6, a7, a8, a9, a10, a11, a12] = some (wch [a0, a1, a2, a3, a4, a5, a6, a7, a8, a9, a10, a11, a12] (sidx 24)) := by kernel_rfl
theorem ev_iSpread_1 (v : List Int) (h : v.length = 13) (hv : InB v 1000) : ∀ n : Nat, 1 ≤ n → n ≤ 24 → Ev (fun k => impl_SpreadOf_1.f k (n : Int) pws v) (pv v (sidx n)) := by
  intro n n1 n2
  rw [← wch_pv hv (sidx n) (Nat.le_trans (sidx_len n (by omega)) (by omega))]
  obtain ⟨a0, a1, a2, a3, a4, a5, a6, a7, a8, a9, a10, a11, a12, rfl⟩ := thirteen h
  have : n = 1 ∨ n = 2 ∨ n = 3 ∨ n = 4 ∨ n = 5 ∨ n = 6 ∨ n = 7 ∨ n = 8 ∨ n = 9 ∨ n = 10 ∨ n = 11 ∨ n = 12 ∨ n = 13 ∨ n = 14 ∨ n = 15 ∨ n = 16 ∨ n = 17 ∨ n = 18 ∨ n = 19 ∨ n = 20 ∨ n = 21 ∨ n = 22 ∨ n = 23 ∨ n = 24 := by omega
  rcases this with rfl | rfl | rfl | rfl | rfl | rfl | rfl | rfl | rfl | rfl | rfl | rfl | rfl | rfl | rfl | rfl | rfl | rfl | rfl | rfl | rfl | rfl | rfl | rfl
  · exact Ev.of (fun k => impl_SpreadOf_1.mono _ _ _ k) (iSpread_1 a0 a1 a2 a3 a4 a5 a6 a7 a8 a9 a10 a11 a12)
  · exact Ev.of (fun k => impl_SpreadOf_1.mono _ _ _ k) (iSpread_2 a0 a1 a2 a3 a4 a5 a6 a7 a8 a9 a10 a11 a12)
  · exact Ev.of (fun k => impl_SpreadOf_1.mono _ _ _ k) (iSpread_3 a0 a1 a2 a3 a4 a5 a6 a7 a8 a9 a10 a11 a12)
  · exact Ev.of (fun k => impl_SpreadOf_1.mono _ _ _ k) (iSpread_4 a0 a1 a2 a3 a4 a5 a6 a7 a8 a9 a10 a11 a12)
  · exact Ev.of (fun k => impl_SpreadOf_1.mono _ _ _ k) (iSpread_5 a0 a1 a2 a3 a4 a5 a6 a7 a8 a9 a10 a11 a12)
  · exact Ev.of (fun k => impl_SpreadOf_1.mono _ _ _ k) (iSpread_6 a0 a1 a2 a3 a4 a5 a6 a7 a8 a9 a10 a11 a12)
  · exact Ev.of (fun k => impl_SpreadOf_1.mono _ _ _ k) (iSpread_7 a0 a1 a2 a3 a4 a5 a6 a7 a8 a9 a10 a11 a12)
  · exact Ev.of (fun k => impl_SpreadOf_1.mono _ _ _ k) (iSpread_8 a0 a1 a2 a3 a4 a5 a6 a7 a8 a9 a10 a11 a12)
  · exact Ev.of (fun k => impl_SpreadOf_1.mono _ _ _ k) (iSpread_9 a0 a1 a2 a3 a4 a5 a6 a7 a8 a9 a10 a11 a12)
  · exact Ev.of (fun k => impl_SpreadOf_1.mono _ _ _ k) (iSpread_10 a0 a1 a2 a3 a4 a5 a6 a7 a8 a9 a10 a11 a12)
  · exact Ev.of (fun k => impl_SpreadOf_1.mono _ _ _ k) (iSpread_11 a0 a1 a2 a3 a4 a5 a6 a7 a8 a9 a10 a11 a12)
  · exact Ev.of (fun k => impl_SpreadOf_1.mono _ _ _ k) (iSpread_12 a0 a1 a2 a3 a4 a5 a6 a7 a8 a9 a10 a11 a12)
  · exact Ev.of (fun k => impl_SpreadOf_1.mono _ _ _ k) (iSpread_13 a0 a1 a2 a3 a4 a5 a6 a7 a8 a9 a10 a11 a12)
  · exact Ev.of (fun k => impl_SpreadOf_1.mono _ _ _ k) (iSpread_14 a0 a1 a2 a3 a4 a5 a6 a7 a8 a9 a10 a11 a12)
  · exact Ev.of (fun k => impl_SpreadOf_1.mono _ _ _ k) (iSpread_15 a0 a1 a2 a3 a4 a5 a6 a7 a8 a9 a10 a11 a12)
  · exact Ev.of (fun k => impl_SpreadOf_1.mono _ _ _ k) (iSpread_16 a0 a1 a2 a3 a4 a5 a6 a7 a8 a9 a10 a11 a12)
  · exact Ev.of (fun k => impl_SpreadOf_1.mono _ _ _ k) (iSpread_17 a0 a1 a2 a3 a4 a5 a6 a7 a8 a9 a10 a11 a12)
  · exact Ev.of (fun k => impl_SpreadOf_1.mono _ _ _ k) (iSpread_18 a0 a1 a2 a3 a4 a5 a6 a7 a8 a9 a10 a11 a12)
  · exact Ev.of (fun k => impl_SpreadOf_1.mono _ _ _ k) (iSpread_19 a0 a1 a2 a3 a4 a5 a6 a7 a8 a9 a10 a11 a12)
  · exact Ev.of (fun k => impl_SpreadOf_1.mono _ _ _ k) (iSpread_20 a0 a1 a2 a3 a4 a5 a6 a7 a8 a9 a10 a11 a12)
  · exact Ev.of (fun k => impl_SpreadOf_1.mono _ _ _ k) (iSpread_21 a0 a1 a2 a3 a4 a5 a6 a7 a8 a9 a10 a11 a12)
  · exact Ev.of (fun k => impl_SpreadOf_1.mono _ _ _ k) (iSpread_22 a0 a1 a2 a3 a4 a5 a6 a7 a8 a9 a10 a11 a12)
  · exact Ev.of (fun k => impl_SpreadOf_1.mono _ _ _ k) (iSpread_23 a0 a1 a2 a3 a4 a5 a6 a7 a8 a9 a10 a11 a12)
  · exact Ev.of (fun k => impl_SpreadOf_1.mono _ _ _ k) (iSpread_24 a0 a1 a2 a3 a4 a5 a6 a7 a8 a9 a10 a11 a12)
theorem ev_iSpread (v : List Int) (hl : v.length ≤ 1000000000000000) : Ev (fun k => impl_SpreadOf.f k v) (spreadR v) := by
  unfold impl_SpreadOf.f
  refine Ev.bind ev_pws ?_
  have lp : (pws.length : Int) = 13 := rfl
  by_cases h : v.length = 13
  · have c : (v.length : Int) = 13 := by omega
    simp only [lp, if_pos c]
    refine Ev.bind (ev_listWithin v 1000 (by omega) hl) ?_
    by_cases h2 : InB v 1000
    · simp only [decide_eq_true h2, if_true]
      refine Ev.bind (Ev.to (ev_rowBy _ (fun n => pv v (sidx n)) (fun n n1 n2 => ev_iSpread_1 v h h2 n n1 n2)) (show rowOf _ = spread v from rfl)) ?_
      exact Ev.ret (by unfold spreadR; rw [if_pos ⟨h, h2⟩])
    · simp only [decide_eq_false h2, Bool.false_eq_true, if_false]
      exact Ev.ret (by unfold spreadR; rw [if_neg (fun x => h2 x.2)])
  · have c : ¬ (v.length : Int) = 13 := by omega
    simp only [lp, if_neg c]
    exact Ev.ret (by unfold spreadR; rw [if_neg (fun x => h x.1)])

theorem l1In_f (a b c : Int) : spec_l1In.f a b c = some (decide (b ≤ a ∧ a ≤ c)) := by
  unfold spec_l1In.f
  by_cases h : a ≥ b
  · rw [if_pos h]; simp [show b ≤ a from h]
  · rw [if_neg h]; simp [show ¬ b ≤ a from h]

/-- The same places, in the order of the primes. -/
def sidxP (n : Nat) : List Nat := ([[], [], [0], [1], [2], [3], [0, 1], [4], [5], [6], [0, 3], [7], [2, 1], [8], [0, 4], [1, 3], [9], [10], [0, 6], [11], [2, 3], [1, 4], [0, 7], [12], [5, 1]] : List (List Nat)).getD n []
theorem sidxP_or : ∀ n, n < 25 → sidxP n = sidx n ∨ sidxP n = (sidx n).reverse := by decide
theorem pv_rev (v : List Int) (l : List Nat) (h : l.length ≤ 2) : pv v l.reverse = pv v l := by
  match l, h with
  | [], _ => rfl
  | [a], _ => rfl
  | [a, b], _ =>
    show v.getD b 0 * (v.getD a 0 * 1) = v.getD a 0 * (v.getD b 0 * 1)
    rw [Int.mul_one, Int.mul_one, Int.mul_comm]
/-- The row as the reference adds it up. -/
def spreadW (v : List Int) : List Int := (List.range 24).map (fun i => wch v (sidxP (i + 1)))
theorem spreadW_eq {v : List Int} (h : InB v 1000) : spreadW v = spread v := by
  unfold spreadW spread
  refine List.map_congr_left (fun i hi => ?_)
  have := List.mem_range.1 hi
  have l2 := sidx_len (i + 1) (by omega)
  rcases sidxP_or (i + 1) (by omega) with e | e <;> rw [e]
  · exact wch_pv h _ (by omega)
  · rw [wch_pv h _ (by rw [List.length_reverse]; omega), pv_rev v _ l2]
theorem sSpread_walk (a0 a1 a2 a3 a4 a5 a6 a7 a8 a9 a10 a11 a12 : Int) : spec_SpreadOf.l0 1000 [a0, a1, a2, a3, a4, a5, a6, a7, a8, a9, a10, a11, a12] pws [] 1 = spec_SpreadOf.l4 378 [a0, a1, a2, a3, a4, a5, a6, a7, a8, a9, a10, a11, a12] (spreadW [a0, a1, a2, a3, a4, a5, a6, a7, a8, a9, a10, a11, a12]) 0 := by kernel_rfl
theorem sSpread_end (v w : List Int) (hv : v.length = 13) : ∀ (m j k : Nat), j + m = 13 → (∀ i, i < j → -1000 ≤ v.getD i 0 ∧ v.getD i 0 ≤ 1000) → spec_SpreadOf.l4 (k + m + 1) v w (j : Int) = some (if InB v 1000 then (w, true) else ([], false)) := by
  intro m
  induction m with
  | zero =>
    intro j k hj hI
    rw [spec_SpreadOf.l4]
    have c : ¬ (j : Int) < (v.length : Int) := by omega
    have h : InB v 1000 := fun y hy => by
      obtain ⟨i, hi, rfl⟩ := List.mem_iff_getElem.1 hy
      have := hI i (by omega)
      rw [List.getD_eq_getElem?_getD, List.getElem?_eq_getElem hi] at this
      exact this
    rw [if_neg c, if_pos h]
  | succ m ih =>
    intro j k hj hI
    rw [spec_SpreadOf.l4]
    have c : (j : Int) < (v.length : Int) := by omega
    have c1 : 0 ≤ (j : Int) := by omega
    have e : rd v (j : Int) = v.getD j 0 := rfl
    rw [if_pos c, if_pos c1, e, l1In_f, Option.bind_some, w64 (x := (j : Int) + 1) (by omega)]
    by_cases h : -1000 ≤ v.getD j 0 ∧ v.getD j 0 ≤ 1000
    · rw [if_pos (decide_eq_true h)]
      refine ih (j + 1) k (by omega) (fun i hi => ?_)
      by_cases e : i = j
      · subst e; exact h
      · exact hI i (by omega)
    · rw [if_neg (by simpa using h), if_neg (fun x => h (getD_in x (by omega) j))]
theorem ev_spws : Ev (fun k => spec_PrimePowers.f k 24) pws := Ev.of (fun k => spec_PrimePowers.mono _ k) (k := 300) (by decide +kernel)
theorem ev_sSpread (v : List Int) (hl : v.length ≤ 1000000000000000) : Ev (fun k => spec_SpreadOf.f k v) (spreadR v) := by
  unfold spec_SpreadOf.f
  refine Ev.bind ev_spws ?_
  have lp : (pws.length : Int) = 13 := rfl
  by_cases h : v.length = 13
  · have c : (v.length : Int) = 13 := by omega
    simp only [lp, if_pos c]
    have e : spec_SpreadOf.l0 1000 v pws [] 1 = some (spreadR v) := by
      have w : spec_SpreadOf.l0 1000 v pws [] 1 = spec_SpreadOf.l4 378 v (spreadW v) 0 := by
        obtain ⟨a0, a1, a2, a3, a4, a5, a6, a7, a8, a9, a10, a11, a12, rfl⟩ := thirteen h
        exact sSpread_walk a0 a1 a2 a3 a4 a5 a6 a7 a8 a9 a10 a11 a12
      rw [w]
      have z := sSpread_end v (spreadW v) h 13 0 364 (by omega) (fun i hi => by omega)
      refine Eq.trans z ?_
      unfold spreadR
      by_cases g : InB v 1000
      · rw [if_pos g, if_pos ⟨h, g⟩, spreadW_eq g]
      · rw [if_neg g, if_neg (fun x => g x.2)]
    exact Ev.of (fun k => (spec_SpreadOf.mono_l k).1 _ _ _ _) e
  · have c : ¬ (v.length : Int) = 13 := by omega
    simp only [lp, if_neg c]
    exact Ev.ret (by unfold spreadR; rw [if_neg (fun x => h x.1)])

theorem set_fill (l : List Int) (i : Nat) (h : i < l.length) : (l.take i ++ List.replicate (l.length - i) 0).set i (l.getD i 0) = l.take (i + 1) ++ List.replicate (l.length - (i + 1)) 0 := by
  have e : l.length - i = (l.length - (i + 1)) + 1 := by omega
  have h3 : (l.take i).length = i := by simp; omega
  rw [e, List.replicate_succ, List.set_append_right _ _ (by omega), h3, Nat.sub_self, List.set_cons_zero, List.take_succ_eq_append_getElem h, List.append_assoc]
  simp [List.getD_eq_getElem?_getD, List.getElem?_eq_getElem h]
theorem ev_toIntS_l (l : List Int) (hl : l.length ≤ 1000000000000) : ∀ (d i : Nat), i + d = l.length →
    Ev (fun k => laws_toIntS.l0 k l (l.take i ++ List.replicate (l.length - i) 0) (i : Int)) l := by
  intro d
  induction d with
  | zero =>
    intro i hi
    refine Ev.step (fun k => by rw [laws_toIntS.l0]) ?_
    have h1 : ¬ (i : Int) < (l.length : Int) := by omega
    simp only [if_neg h1]
    refine Ev.ret ?_
    rw [show l.length - i = 0 by omega, List.take_of_length_le (by omega)]; simp
  | succ d ih =>
    intro i hi
    refine Ev.step (fun k => by rw [laws_toIntS.l0]) ?_
    have h1 : (i : Int) < (l.length : Int) := by omega
    have h2 : (0 : Int) ≤ (i : Int) := by omega
    have h3 : (i : Int) < ((l.take i ++ List.replicate (l.length - i) 0).length : Int) := by simp; omega
    simp only [if_pos h1, if_pos h2, if_pos h3, rd_nat, Int.toNat_natCast, w64 (x := (i : Int) + 1) (by omega), set_fill l i (by omega)]
    exact ih (i + 1) (by omega)
theorem ev_toIntS (l : List Int) (hl : l.length ≤ 1000000000000) : Ev (fun k => laws_toIntS.f k l) l := by
  unfold laws_toIntS.f
  have h1 : (0 : Int) ≤ (l.length : Int) := by omega
  have h2 : l.length ≤ 35184372088832 := by omega
  simp only [if_pos h1, Int.toNat_natCast, if_pos h2]
  exact ev_toIntS_l l hl l.length 0 (by omega)

theorem ev_eqIntS_l (a b : List Int) (hl : a.length = b.length) (ha : a.length ≤ 1000000000000000) : ∀ (d i : Nat), i + d = a.length →
    Ev (fun k => laws_eqIntS.l0 k a b (i : Int)) (decide (a.drop i = b.drop i)) := by
  intro d
  induction d with
  | zero =>
    intro i hi
    refine Ev.step (fun k => by rw [laws_eqIntS.l0]) ?_
    have h1 : ¬ (i : Int) < (a.length : Int) := by omega
    simp only [if_neg h1]
    refine Ev.ret ?_
    rw [List.drop_eq_nil_of_le (by omega), List.drop_eq_nil_of_le (by omega)]; simp
  | succ d ih =>
    intro i hi
    refine Ev.step (fun k => by rw [laws_eqIntS.l0]) ?_
    have h1 : (i : Int) < (a.length : Int) := by omega
    have h2 : (0 : Int) ≤ (i : Int) := by omega
    have h3 : (i : Int) < (b.length : Int) := by omega
    have ea := drop_step a i (by omega)
    have eb := drop_step b i (by omega)
    simp only [if_pos h1, if_pos h2, if_pos h3, rd_nat, w64 (x := (i : Int) + 1) (by omega)]
    by_cases e : a.getD i 0 = b.getD i 0
    · simp only [if_pos e]
      refine Ev.to (ih (i + 1) (by omega)) ?_
      rw [ea, eb, e]; simp
    · simp only [if_neg e]
      refine Ev.ret ?_
      rw [ea, eb]; simp only [List.cons.injEq, e, false_and, decide_false]
theorem ev_eqIntS (a b : List Int) (ha : a.length ≤ 1000000000000000) : Ev (fun k => laws_eqIntS.f k a b) (decide (a = b)) := by
  unfold laws_eqIntS.f
  by_cases h : (a.length : Int) = (b.length : Int)
  · simp only [if_pos h]
    exact ev_eqIntS_l a b (by omega) ha a.length 0 (by omega)
  · simp only [if_neg h]
    refine Ev.ret ?_
    symm; rw [decide_eq_false_iff_not]
    intro e; subst e; exact h rfl

/-- The marks m, m + 1, .. -/
def marks (m : Int) (n : Nat) : List Int := (List.range n).map (fun i : Nat => m + (i : Int))
theorem marks_length (m : Int) (n : Nat) : (marks m n).length = n := by simp [marks]
theorem marks_getD (m : Int) (n i : Nat) (h : i < n) : (marks m n).getD i 0 = m + (i : Int) := by
  rw [List.getD_eq_getElem?_getD, List.getElem?_eq_getElem (by rw [marks_length]; exact h)]; simp [marks]
theorem marks_succ (m : Int) (n : Nat) : marks m (n + 1) = marks m n ++ [m + (n : Int)] := by simp [marks, List.range_succ]
theorem ev_mark_l (l : List Int) (hl : l.length ≤ 1000000000000) : ∀ (d i : Nat), i + d = l.length →
    Ev (fun k => laws_markIntS.l0 k (marks 1 i ++ l.drop i) (1 + (i : Int)) (i : Int)) (1 + (l.length : Int), marks 1 l.length) := by
  intro d
  induction d with
  | zero =>
    intro i hi
    refine Ev.step (fun k => by rw [laws_markIntS.l0]) ?_
    have e : marks 1 i ++ l.drop i = marks 1 l.length := by rw [List.drop_eq_nil_of_le (by omega), List.append_nil, show i = l.length by omega]
    have h1 : ¬ (i : Int) < ((marks 1 l.length).length : Int) := by rw [marks_length]; omega
    simp only [e, if_neg h1]
    refine Ev.ret ?_
    rw [show (i : Int) = (l.length : Int) by omega]
  | succ d ih =>
    intro i hi
    refine Ev.step (fun k => by rw [laws_markIntS.l0]) ?_
    have h1 : (i : Int) < ((marks 1 i ++ l.drop i).length : Int) := by rw [List.length_append, marks_length, List.length_drop]; omega
    have h2 : (0 : Int) ≤ (i : Int) := by omega
    have e : (marks 1 i ++ l.drop i).set i (1 + (i : Int)) = marks 1 (i + 1) ++ l.drop (i + 1) := by
      rw [List.set_append_right _ _ (by rw [marks_length]; exact Nat.le_refl _), marks_length, Nat.sub_self, drop_step l i (by omega), List.set_cons_zero, marks_succ, List.append_assoc]; rfl
    simp only [if_pos h1, if_pos h2, Int.toNat_natCast, e, w64 (x := (i : Int) + 1) (by omega), w64 (x := 1 + (i : Int) + 1) (by omega)]
    have := ih (i + 1) (by omega)
    rw [show (1 : Int) + ((i + 1 : Nat) : Int) = 1 + (i : Int) + 1 by omega] at this
    exact this
theorem ev_mark (l : List Int) (hl : l.length ≤ 1000000000000) : Ev (fun k => laws_markIntS.f k l 1) (1 + (l.length : Int), marks 1 l.length) := by
  unfold laws_markIntS.f
  exact ev_mark_l l hl l.length 0 (by omega)
theorem ev_held_l (n : Nat) (hn : n ≤ 1000000000000) : ∀ (d i : Nat), i + d = n →
    Ev (fun k => laws_heldIntS.l0 k (marks 1 n) (1 + (i : Int)) (i : Int)) (1 + (n : Int)) := by
  intro d
  induction d with
  | zero =>
    intro i hi
    refine Ev.step (fun k => by rw [laws_heldIntS.l0]) ?_
    have h1 : ¬ (i : Int) < ((marks 1 n).length : Int) := by rw [marks_length]; omega
    simp only [if_neg h1]
    exact Ev.ret (by omega)
  | succ d ih =>
    intro i hi
    refine Ev.step (fun k => by rw [laws_heldIntS.l0]) ?_
    have h1 : (i : Int) < ((marks 1 n).length : Int) := by rw [marks_length]; omega
    have h2 : (0 : Int) ≤ (i : Int) := by omega
    simp only [if_pos h1, if_pos h2, rd_nat, marks_getD 1 n i (by omega), if_true, w64 (x := (i : Int) + 1) (by omega), w64 (x := 1 + (i : Int) + 1) (by omega)]
    have := ih (i + 1) (by omega)
    rw [show (1 : Int) + ((i + 1 : Nat) : Int) = 1 + (i : Int) + 1 by omega] at this
    exact this
theorem ev_held (n : Nat) (hn : n ≤ 1000000000000) : Ev (fun k => laws_heldIntS.f k (marks 1 n) 1) (1 + (n : Int)) := by
  unfold laws_heldIntS.f
  exact ev_held_l n hn n 0 (by omega)

theorem FnExactSpreadOf : laws_FnExactSpreadOf.Pure := by
  intro l h1 h2 h3
  apply Ev.k
  unfold laws_FnExactSpreadOf.f
  by_cases h : (l.length : Int) > 1048576
  · simp only [if_pos h]; exact Ev.now _
  simp only [if_neg h]
  have z := spreadR_length l
  refine Ev.bind (ev_toIntS l (by omega)) (Ev.bind (ev_sSpread l (by omega)) (Ev.bind (ev_toIntS l (by omega)) (Ev.bind (ev_iSpread l (by omega)) (Ev.bind (ev_eqIntS (spreadR l).1 (spreadR l).1 (by omega)) ?_))))
  simp only [decide_true, if_true, bne_self_eq_false]
  refine Ev.step (fun k => by rw [laws_FnExactSpreadOf.j0]) ?_
  simp only [Bool.false_eq_true, if_false]
  refine Ev.bind (ev_toIntS l (by omega)) (Ev.bind (ev_eqIntS l l (by omega)) ?_)
  simp only [decide_true, if_true]
  refine Ev.bind (ev_mark l (by omega)) ?_
  have c0 : ¬ 1 + (l.length : Int) < 0 := by omega
  simp only [if_neg c0]
  refine Ev.bind (ev_eqIntS (spreadR l).1 (spreadR l).1 (by omega)) ?_
  simp only [decide_true, if_true, bne_self_eq_false]
  refine Ev.step (fun k => by rw [laws_FnExactSpreadOf.j1]) ?_
  simp only [Bool.false_eq_true, if_false]
  refine Ev.bind (ev_mark (spreadR l).1 (by omega)) (Ev.bind (ev_held (spreadR l).1.length (by omega)) ?_)
  have c : ¬ 1 + ((spreadR l).1.length : Int) < 0 := by omega
  simp only [if_neg c, if_true]
  refine Ev.bind (ev_toIntS l (by omega)) (Ev.bind (ev_iSpread l (by omega)) (Ev.bind (ev_eqIntS (spreadR l).1 (spreadR l).1 (by omega)) ?_))
  simp only [decide_true, if_true, bne_self_eq_false]
  refine Ev.step (fun k => by rw [laws_FnExactSpreadOf.j2]) ?_
  simp only [Bool.false_eq_true, if_false]
  refine Ev.bind (ev_held (spreadR l).1.length (by omega)) ?_
  simp only [if_neg c, if_true]
  exact Ev.now _

end Go.Proofs.Ytcnbiknoehcfnaa.Pure
namespace Go.Proofs.Ytcnbiknoehcfnaa.PrintWords
/-- The printed row's word, under the name by which that row calls it. -/
abbrev sized_ints := @Go.Proofs.YtcnbiknoehcfnaaW.PrintWords.sized_ints
end Go.Proofs.Ytcnbiknoehcfnaa.PrintWords
