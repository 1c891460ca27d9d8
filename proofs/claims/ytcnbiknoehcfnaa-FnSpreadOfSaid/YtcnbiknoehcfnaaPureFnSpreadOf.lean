/- The program and the reference tell the same of drawn numbers; the row that they make is multiplicative and is at the powers of primes as told. -/
import Derived.Test.YtcnbiknoehcfnaaPFnSpreadOfx0
import Derived.Test.YtcnbiknoehcfnaaPFnSpreadOfx1
import Derived.Test.YtcnbiknoehcfnaaPFnSpreadOfx2
import Derived.Test.YtcnbiknoehcfnaaPFnSpreadOfx3
import Derived.Test.YtcnbiknoehcfnaaPFnSpreadOfx4
import Derived.Test.YtcnbiknoehcfnaaPFnSpreadOfx5
import Derived.Test.YtcnbiknoehcfnaaPFnSpreadOfx6
import Derived.Test.YtcnbiknoehcfnaaM1
import Derived.Test.YtcnbiknoehcfnaaM2
import Derived.Test.YtcnbiknoehcfnaaM3
import Derived.Test.YtcnbiknoehcfnaaWSized
namespace Go.Proofs.Ytcnbiknoehcfnaa.Pure
open Go.RowKit Go.Proofs.Ytcnbiknoehcfnaa.PFnSpreadOf Go.Proofs.YtcnbiknoehcfnaaW.PrintWords Go.Proofs.YtcnbiknoehcfnaaW.PrintLast Go.Proofs.YtcnbiknoehcfnaaW.PrintMore Go.Proofs.Ytcnbiknoehcfnaa.Math
set_option linter.unusedVariables false
set_option linter.unusedSimpArgs false
theorem w64 {x : Int} (h : -9223372036854775808 ≤ x ∧ x ≤ 9223372036854775807) : wrap64 x = x := by unfold wrap64; omega
theorem Ev.k {α : Type} {g : Nat → Option α} {r : α} (h : Ev g r) : ∃ k, g k = some r := Ev.rounds h
theorem Ev.to {α : Type} {g : Nat → Option α} {r s : α} (h : Ev g r) (e : r = s) : Ev g s := e ▸ h
theorem Ev.ret {α : Type} {r s : α} (e : r = s) : Ev (fun _ => some r) s := e ▸ Ev.now r

theorem wf_u8 {x : Int} (h : (Lit.int .u8 x).wf = true) : 0 ≤ x ∧ x ≤ 255 := by
  simp [Lit.wf, IntKind.wrap, IntKind.bits, IntKind.signed, IntKind.min, IntKind.max] at h; omega
theorem wf_i64 {x : Int} (h : (Lit.int .i64 x).wf = true) : -9223372036854775808 ≤ x ∧ x ≤ 9223372036854775807 := by
  simp [Lit.wf, IntKind.wrap, IntKind.bits, IntKind.signed, IntKind.min, IntKind.max] at h; omega
theorem xor_nonneg (x y : Int) (h0 : 0 ≤ x) (h1 : x < 4611686018427387904) (h2 : 0 ≤ y) (h3 : y < 4611686018427387904) : 0 ≤ Go.bits .xor .i64 x y := by
  obtain ⟨a, rfl⟩ := Int.eq_ofNat_of_zero_le h0
  obtain ⟨b, rfl⟩ := Int.eq_ofNat_of_zero_le h2
  have ha : a < 2 ^ 62 := by omega
  have hb : b < 2 ^ 62 := by omega
  have hx := Nat.xor_lt_two_pow ha hb
  have ha' : a % 2 ^ 64 = a := Nat.mod_eq_of_lt (by omega)
  have hb' : b % 2 ^ 64 = b := Nat.mod_eq_of_lt (by omega)
  have e : Go.bits .xor .i64 ((a : Nat) : Int) ((b : Nat) : Int) = IntKind.i64.wrap ((a ^^^ b : Nat) : Int) := by
    simp only [Go.bits, IntKind.bits, BitVec.ofInt_natCast]
    show IntKind.i64.wrap (((BitVec.ofNat 64 a ^^^ BitVec.ofNat 64 b).toNat : Nat) : Int) = _
    rw [BitVec.toNat_xor, BitVec.toNat_ofNat, BitVec.toNat_ofNat, ha', hb']
  rw [e]
  simp only [IntKind.wrap, IntKind.bits, IntKind.signed]
  simp
  omega
/-- The bytes of a draw. -/
def Bytes (b : List Int) : Prop := b.length ≤ 2000 ∧ ∀ x ∈ b, 0 ≤ x ∧ x ≤ 255
theorem Bytes.rd {b : List Int} (hb : Bytes b) (i : Int) : 0 ≤ rd b i ∧ rd b i ≤ 255 := by
  show 0 ≤ b.getD i.toNat 0 ∧ b.getD i.toNat 0 ≤ 255
  rw [List.getD_eq_getElem?_getD]
  by_cases h : i.toNat < b.length
  · rw [List.getElem?_eq_getElem h]; exact hb.2 _ (List.getElem_mem _)
  · rw [List.getElem?_eq_none (by omega)]; simp
theorem ev_pick {b : List Int} (hb : Bytes b) (p n : Int) (hp : 0 ≤ p ∧ p ≤ 1000000) (hn : 1 ≤ n ∧ n ≤ 1000000000000) :
    ∃ r, (0 ≤ r ∧ r < n) ∧ Ev (fun k => spec_l20Rd_pick.f k b p n) (r, p + 1) := by
  have g0 : ¬ n < 1 := by omega
  unfold spec_l20Rd_pick.f
  simp only [if_neg g0, w64 (x := p + 1) (by omega)]
  have e1 : p + 1 - 1 = p := by omega
  by_cases h0 : (b.length : Int) = 0
  · refine ⟨0, by omega, Ev.step (fun k => by rw [spec_l20Rd_pick.j0]) ?_⟩
    simp only [h0, beq_self_eq_true, if_true]; exact Ev.now _
  have hl := hb.1
  have n0 : ¬ n = 0 := by omega
  by_cases h1 : p < (b.length : Int)
  · have hr := hb.rd p
    refine ⟨Int.tmod (rd b p) n, ?_, Ev.step (fun k => by rw [spec_l20Rd_pick.j0]) ?_⟩
    · rw [Int.tmod_eq_emod_of_nonneg hr.1]; exact ⟨Int.emod_nonneg _ n0, Int.emod_lt_of_pos _ (by omega)⟩
    · simp only [e1, w64 (x := p) (by omega), beq_eq_false_iff_ne.2 h0, Bool.false_eq_true, if_false, if_pos h1, if_pos hp.1, if_neg n0, w64 (x := rd b p) (by omega)]
      exact Ev.now _
  · have L0 : (0 : Int) < (b.length : Int) := by omega
    have m1 : Int.tmod p (b.length : Int) = p % (b.length : Int) := Int.tmod_eq_emod_of_nonneg hp.1
    have m2 : Int.tmod (p * 7 + 3) (b.length : Int) = (p * 7 + 3) % (b.length : Int) := Int.tmod_eq_emod_of_nonneg (by omega)
    have q1 : Int.tdiv p (b.length : Int) = p / (b.length : Int) := Int.tdiv_eq_ediv_of_nonneg hp.1
    have a1 := Int.emod_nonneg p (show (b.length : Int) ≠ 0 from h0)
    have a2 := Int.emod_lt_of_pos p L0
    have a3 := Int.emod_nonneg (p * 7 + 3) (show (b.length : Int) ≠ 0 from h0)
    have a4 := Int.emod_lt_of_pos (p * 7 + 3) L0
    have a5 : 0 ≤ p / (b.length : Int) := Int.ediv_nonneg hp.1 (by omega)
    have a6 : p / (b.length : Int) ≤ p := Int.ediv_le_self _ hp.1
    have u := hb.rd (p % (b.length : Int))
    have v := hb.rd ((p * 7 + 3) % (b.length : Int))
    generalize hU : rd b (p % (b.length : Int)) = U at *
    generalize hV : rd b ((p * 7 + 3) % (b.length : Int)) = V at *
    generalize hQ : p / (b.length : Int) = Q at *
    generalize hM : p % (b.length : Int) = M at *
    generalize hM2 : (p * 7 + 3) % (b.length : Int) = M2 at *
    generalize hX : U * 131 + V * 1117 + p * 29 + Q * 53 = X at *
    have x0 : 0 ≤ X := by omega
    have x1 : X ≤ 1000000000000 := by omega
    have d1 : Int.tdiv X 64 = X / 64 := Int.tdiv_eq_ediv_of_nonneg x0
    have y := xor_nonneg X (X / 64) x0 (by omega) (by omega) (by omega)
    refine ⟨Int.tmod (Go.bits .xor .i64 X (X / 64)) n, ?_, Ev.step (fun k => by rw [spec_l20Rd_pick.j0]) ?_⟩
    · rw [Int.tmod_eq_emod_of_nonneg y]; exact ⟨Int.emod_nonneg _ n0, Int.emod_lt_of_pos _ (by omega)⟩
    · simp only [e1, w64 (x := p) (by omega), w64 (x := p * 7) (by omega), w64 (x := p * 7 + 3) (by omega), beq_eq_false_iff_ne.2 h0, Bool.false_eq_true, if_false, if_neg h1, if_neg h0, m1, m2, q1, if_pos a1, if_pos a2, if_pos a3, if_pos a4, if_neg n0, hU, hV, w64 (x := U) (by omega), w64 (x := V) (by omega), w64 (x := U * 131) (by omega), w64 (x := V * 1117) (by omega), w64 (x := U * 131 + V * 1117) (by omega), w64 (x := p * 29) (by omega), w64 (x := U * 131 + V * 1117 + p * 29) (by omega), w64 (x := Q) (by omega), w64 (x := Q * 53) (by omega), hX, w64 (x := X) (by omega), d1, w64 (x := X / 64) (by omega)]
      exact Ev.now _

theorem ev_odd {b : List Int} (hb : Bytes b) (p n : Int) (hp : 0 ≤ p ∧ p ≤ 1000000) (hn : 1 ≤ n ∧ n ≤ 1000000) :
    ∃ r, Ev (fun k => spec_l20Rd_odd.f k b p n) (r, p + 1) := by
  obtain ⟨r, hr, e⟩ := ev_pick hb p n hp (by omega)
  unfold spec_l20Rd_odd.f
  have c : n > 0 := by omega
  simp only [gt_iff_lt, if_pos (show 0 < n from c)]
  exact ⟨_, Ev.bind e (Ev.now _)⟩

theorem rd_nat (xs : List Int) (i : Nat) : rd xs (i : Int) = xs.getD i 0 := rfl
theorem drop_step (f : List Int) (i : Nat) (h : i < f.length) : f.drop i = f.getD i 0 :: f.drop (i + 1) := by
  rw [List.drop_eq_getElem_cons h]; simp [List.getD_eq_getElem?_getD, List.getElem?_eq_getElem h]
def InB (f : List Int) (m : Int) : Prop := ∀ x ∈ f, -m ≤ x ∧ x ≤ m
instance (f : List Int) (m : Int) : Decidable (InB f m) := by unfold InB; infer_instance
theorem InB_cons (x : Int) (f : List Int) (m : Int) : InB (x :: f) m ↔ (-m ≤ x ∧ x ≤ m) ∧ InB f m := by
  unfold InB; simp
theorem InB_nil (m : Int) : InB [] m := fun x h => by cases h
theorem InB.mono {f : List Int} {m n : Int} (h : InB f m) (hmn : m ≤ n) : InB f n := fun x hx => by have := h x hx; omega

/-- What a row is at a number. -/
def At (f : List Int) (n : Nat) : Int := f.getD (n - 1) 0
theorem rd_at (f : List Int) (n : Nat) (h : 1 ≤ n) : rd f ((n : Int) - 1) = At f n := by
  rw [show (n : Int) - 1 = ((n - 1 : Nat) : Int) by omega]; rfl
theorem rd_at0 (f : List Int) : rd f 0 = At f 1 := rfl
theorem InB.at {f : List Int} {m : Int} (h : InB f m) (hm : 0 ≤ m) (n : Nat) : -m ≤ At f n ∧ At f n ≤ m := by
  unfold At; rw [List.getD_eq_getElem?_getD]
  by_cases c : n - 1 < f.length
  · rw [List.getElem?_eq_getElem c]; exact h _ (List.getElem_mem _)
  · rw [List.getElem?_eq_none (by omega)]; simp; omega
theorem mul_in {x y B : Int} (hx : -B ≤ x ∧ x ≤ B) (hy : -B ≤ y ∧ y ≤ B) (hB : 0 ≤ B) : -(B * B) ≤ x * y ∧ x * y ≤ B * B := by
  have h1 : x.natAbs ≤ B.toNat := by omega
  have h2 : y.natAbs ≤ B.toNat := by omega
  have h3 := Nat.mul_le_mul h1 h2
  rw [← Int.natAbs_mul] at h3
  have h4 : ((B.toNat * B.toNat : Nat) : Int) = B * B := by rw [Int.natCast_mul, Int.toNat_of_nonneg hB]
  omega
theorem w64_prod {f : List Int} (h : InB f 1000000000) (a b : Nat) : wrap64 (At f a * At f b) = At f a * At f b := by
  have := mul_in (h.at (by omega) a) (h.at (by omega) b) (by omega)
  exact w64 (by omega)
/-- A row is 1 at 1, and at each product of two numbers (that are apart, or all) the product. -/
def Mult (all : Bool) (f : List Int) : Prop := At f 1 = 1 ∧ ∀ a b, 1 ≤ a → 1 ≤ b → a * b ≤ 24 → (all = true ∨ Nat.gcd a b = 1) → At f (a * b) = At f a * At f b
/-- It is so at all pairs before one. -/
def MultTo (all : Bool) (f : List Int) (x y : Nat) : Prop := ∀ a b, (a < x ∨ a = x ∧ b < y) → 1 ≤ a → 1 ≤ b → a * b ≤ 24 → (all = true ∨ Nat.gcd a b = 1) → At f (a * b) = At f a * At f b
theorem MultTo.step {all : Bool} {f : List Int} {x y : Nat} (h : MultTo all f x y) (e : x * y ≤ 24 → (all = true ∨ Nat.gcd x y = 1) → At f (x * y) = At f x * At f y) : MultTo all f x (y + 1) := by
  intro a b hab h1 h2 h3 h4
  by_cases c : a = x ∧ b = y
  · obtain ⟨rfl, rfl⟩ := c; exact e h3 h4
  · exact h a b (by omega) h1 h2 h3 h4
theorem MultTo.next {all : Bool} {f : List Int} {x y : Nat} (h : MultTo all f x y) (hy : 24 < x * y) : MultTo all f (x + 1) 1 := by
  intro a b hab h1 h2 h3 h4
  refine h a b ?_ h1 h2 h3 h4
  by_cases c : a < x
  · exact Or.inl c
  · have e : a = x := by omega
    subst e
    refine Or.inr ⟨rfl, Nat.lt_of_not_le (fun hle => ?_)⟩
    have := Nat.mul_le_mul_left a hle; omega

/-- The primes up to 24. -/
def prms : List Int := [2, 3, 5, 7, 11, 13, 17, 19, 23]
/-- The places of a number's primes, in ascending order, each as often as it divides the number. -/
def fidx (n : Nat) : List Nat := ([[], [], [0], [1], [0, 0], [2], [0, 1], [3], [0, 0, 0], [1, 1], [0, 2], [4], [0, 0, 1], [5], [0, 3], [1, 2], [0, 0, 0, 0], [6], [0, 1, 1], [7], [0, 0, 2], [1, 3], [0, 4], [8], [0, 0, 0, 1]] : List (List Nat)).getD n []
def pv (v : List Int) (l : List Nat) : Int := l.foldr (fun i x => v.getD i 0 * x) 1
def wch (v : List Int) (l : List Nat) : Int := l.foldl (fun x i => wrap64 (x * v.getD i 0)) 1
theorem getD_in {v : List Int} {B : Int} (h : InB v B) (hB : 0 ≤ B) (i : Nat) : -B ≤ v.getD i 0 ∧ v.getD i 0 ≤ B := by
  rw [List.getD_eq_getElem?_getD]
  by_cases c : i < v.length
  · rw [List.getElem?_eq_getElem c]; exact h _ (List.getElem_mem _)
  · rw [List.getElem?_eq_none (by omega)]; simp; omega
theorem wch_go {v : List Int} (h : InB v 1000) : ∀ (l : List Nat) (a : Nat) (x : Int), a + l.length ≤ 6 → x.natAbs ≤ 1000 ^ a → l.foldl (fun x i => wrap64 (x * v.getD i 0)) x = x * pv v l := by
  intro l
  induction l with
  | nil => intro a x _ _; show x = x * 1; omega
  | cons i t ih =>
    intro a x ha hx
    have b := getD_in h (by omega) i
    have m : (x * v.getD i 0).natAbs ≤ 1000 ^ (a + 1) := by
      rw [Int.natAbs_mul, Nat.pow_succ]
      exact Nat.mul_le_mul hx (by omega)
    have m2 : 1000 ^ (a + 1) ≤ 1000 ^ 6 := Nat.pow_le_pow_right (by omega) (by simp at ha; omega)
    have m3 : (1000 : Nat) ^ 6 = 1000000000000000000 := by decide
    rw [List.foldl_cons, w64 (by omega), ih (a + 1) _ (by simp at ha; omega) m]
    show x * v.getD i 0 * pv v t = x * (v.getD i 0 * pv v t)
    rw [Int.mul_assoc]
theorem wch_pv {v : List Int} (h : InB v 1000) (l : List Nat) (hl : l.length ≤ 5) : wch v l = pv v l := by
  have := wch_go h l 0 1 (by omega) (by decide)
  rw [Int.one_mul] at this
  exact this
theorem pv_in {v : List Int} {B : Nat} (h : InB v B) : ∀ l : List Nat, (pv v l).natAbs ≤ B ^ l.length := by
  intro l
  induction l with
  | nil => exact Nat.le_refl 1
  | cons i t ih =>
    have b := getD_in h (by omega) i
    show (v.getD i 0 * pv v t).natAbs ≤ B ^ (t.length + 1)
    rw [Int.natAbs_mul, Nat.pow_succ, Nat.mul_comm]
    exact Nat.mul_le_mul ih (by omega)
/-- The fully multiplicative row that is at the primes as told. -/
def full (v : List Int) : List Int := (List.range 24).map (fun i => pv v (fidx (i + 1)))
theorem full_length (v : List Int) : (full v).length = 24 := by simp [full]
theorem At_full (v : List Int) (n : Nat) (h : 1 ≤ n ∧ n ≤ 24) : At (full v) n = pv v (fidx n) := by
  unfold full
  conv => lhs; unfold At
  rw [List.getD_eq_getElem?_getD, List.getElem?_map, List.getElem?_range (by omega)]
  simp only [Option.map_some, Option.getD_some]
  rw [show n - 1 + 1 = n by omega]
/-- What FullOf tells. -/
def fullR (v : List Int) : List Int × Bool := if v.length = 9 ∧ InB v 9 then (full v, true) else ([], false)
theorem fullR_length (v : List Int) : (fullR v).1.length ≤ 24 := by
  unfold fullR; split
  · exact Nat.le_of_eq (full_length v)
  · simp
theorem fidx_len : ∀ n, n < 25 → (fidx n).length ≤ 5 := by decide
theorem nine {v : List Int} (h : v.length = 9) : ∃ a b c d e f g i j : Int, v = [a, b, c, d, e, f, g, i, j] := by
  match v, h with
  | [a, b, c, d, e, f, g, i, j], _ => exact ⟨a, b, c, d, e, f, g, i, j, rfl⟩

/-- The powers of one prime up to 24. -/
def pws : List Int := [2, 3, 4, 5, 7, 8, 9, 11, 13, 16, 17, 19, 23]
/-- The places of the powers of primes that divide a number most. -/
def sidx (n : Nat) : List Nat := ([[], [], [0], [1], [2], [3], [0, 1], [4], [5], [6], [0, 3], [7], [1, 2], [8], [0, 4], [1, 3], [9], [10], [0, 6], [11], [2, 3], [1, 4], [0, 7], [12], [1, 5]] : List (List Nat)).getD n []
/-- The multiplicative row that is at the powers of primes as told. -/
def spread (v : List Int) : List Int := (List.range 24).map (fun i => pv v (sidx (i + 1)))
theorem spread_length (v : List Int) : (spread v).length = 24 := by simp [spread]
theorem At_spread (v : List Int) (n : Nat) (h : 1 ≤ n ∧ n ≤ 24) : At (spread v) n = pv v (sidx n) := by
  unfold spread
  conv => lhs; unfold At
  rw [List.getD_eq_getElem?_getD, List.getElem?_map, List.getElem?_range (by omega)]
  simp only [Option.map_some, Option.getD_some]
  rw [show n - 1 + 1 = n by omega]
/-- What SpreadOf tells. -/
def spreadR (v : List Int) : List Int × Bool := if v.length = 13 ∧ InB v 1000 then (spread v, true) else ([], false)
theorem spreadR_length (v : List Int) : (spreadR v).1.length ≤ 24 := by
  unfold spreadR; split
  · exact Nat.le_of_eq (spread_length v)
  · simp
theorem sidx_len : ∀ n, n < 25 → (sidx n).length ≤ 2 := by decide
theorem thirteen {v : List Int} (h : v.length = 13) : ∃ a0 a1 a2 a3 a4 a5 a6 a7 a8 a9 a10 a11 a12 : Int, v = [a0, a1, a2, a3, a4, a5, a6, a7, a8, a9, a10, a11, a12] := by
  match v, h with
  | [a0, a1, a2, a3, a4, a5, a6, a7, a8, a9, a10, a11, a12], _ => exact ⟨a0, a1, a2, a3, a4, a5, a6, a7, a8, a9, a10, a11, a12, rfl⟩

theorem l1In_f (a b c : Int) : spec_l1In.f a b c = some (decide (b ≤ a ∧ a ≤ c)) := by
  unfold spec_l1In.f
  by_cases h : a ≥ b
  · rw [if_pos h]; simp [show b ≤ a from h]
  · rw [if_neg h]; simp [show ¬ b ≤ a from h]

/-- The same places, in the order of the primes. -/
def sidxP (n : Nat) : List Nat := ([[], [], [0], [1], [2], [3], [0, 1], [4], [5], [6], [0, 3], [7], [2, 1], [8], [0, 4], [1, 3], [9], [10], [0, 6], [11], [2, 3], [1, 4], [0, 7], [12], [5, 1]] : List (List Nat)).getD n []
theorem sidxP_or : ∀ n, n < 25 → sidxP n = sidx n ∨ sidxP n = (sidx n).reverse := by decide
theorem pv_rev (v : List Int) (l : List Nat) (h : l.length ≤ 2) : pv v l.reverse = pv v l := by
  match l, h with
  | [], _ => rfl
  | [a], _ => rfl
  | [a, b], _ =>
    show v.getD b 0 * (v.getD a 0 * 1) = v.getD a 0 * (v.getD b 0 * 1)
    rw [Int.mul_one, Int.mul_one, Int.mul_comm]
/-- The row as the reference adds it up. -/
def spreadW (v : List Int) : List Int := (List.range 24).map (fun i => wch v (sidxP (i + 1)))
theorem spreadW_eq {v : List Int} (h : InB v 1000) : spreadW v = spread v := by
  unfold spreadW spread
  refine List.map_congr_left (fun i hi => ?_)
  have := List.mem_range.1 hi
  have l2 := sidx_len (i + 1) (by omega)
  rcases sidxP_or (i + 1) (by omega) with e | e <;> rw [e]
  · exact wch_pv h _ (by omega)
  · rw [wch_pv h _ (by rw [List.length_reverse]; omega), pv_rev v _ l2]
theorem sSpread_walk (a0 a1 a2 a3 a4 a5 a6 a7 a8 a9 a10 a11 a12 : Int) : spec_SpreadOf.l0 1000 [a0, a1, a2, a3, a4, a5, a6, a7, a8, a9, a10, a11, a12] pws [] 1 = spec_SpreadOf.l4 378 [a0, a1, a2, a3, a4, a5, a6, a7, a8, a9, a10, a11, a12] (spreadW [a0, a1, a2, a3, a4, a5, a6, a7, a8, a9, a10, a11, a12]) 0 := by kernel_rfl
theorem sSpread_end (v w : List Int) (hv : v.length = 13) : ∀ (m j k : Nat), j + m = 13 → (∀ i, i < j → -1000 ≤ v.getD i 0 ∧ v.getD i 0 ≤ 1000) → spec_SpreadOf.l4 (k + m + 1) v w (j : Int) = some (if InB v 1000 then (w, true) else ([], false)) := by
  intro m
  induction m with
  | zero =>
    intro j k hj hI
    rw [spec_SpreadOf.l4]
    have c : ¬ (j : Int) < (v.length : Int) := by omega
    have h : InB v 1000 := fun y hy => by
      obtain ⟨i, hi, rfl⟩ := List.mem_iff_getElem.1 hy
      have := hI i (by omega)
      rw [List.getD_eq_getElem?_getD, List.getElem?_eq_getElem hi] at this
      exact this
    rw [if_neg c, if_pos h]
  | succ m ih =>
    intro j k hj hI
    rw [spec_SpreadOf.l4]
    have c : (j : Int) < (v.length : Int) := by omega
    have c1 : 0 ≤ (j : Int) := by omega
    have e : rd v (j : Int) = v.getD j 0 := rfl
    rw [if_pos c, if_pos c1, e, l1In_f, Option.bind_some, w64 (x := (j : Int) + 1) (by omega)]
    by_cases h : -1000 ≤ v.getD j 0 ∧ v.getD j 0 ≤ 1000
    · rw [if_pos (decide_eq_true h)]
      refine ih (j + 1) k (by omega) (fun i hi => ?_)
      by_cases e : i = j
      · subst e; exact h
      · exact hI i (by omega)
    · rw [if_neg (by simpa using h), if_neg (fun x => h (getD_in x (by omega) j))]
theorem ev_spws : Ev (fun k => spec_PrimePowers.f k 24) pws := Ev.of (fun k => spec_PrimePowers.mono _ k) (k := 300) (by decide +kernel)
theorem ev_sSpread (v : List Int) (hl : v.length ≤ 1000000000000000) : Ev (fun k => spec_SpreadOf.f k v) (spreadR v) := by
  unfold spec_SpreadOf.f
  refine Ev.bind ev_spws ?_
  have lp : (pws.length : Int) = 13 := rfl
  by_cases h : v.length = 13
  · have c : (v.length : Int) = 13 := by omega
    simp only [lp, if_pos c]
    have e : spec_SpreadOf.l0 1000 v pws [] 1 = some (spreadR v) := by
      have w : spec_SpreadOf.l0 1000 v pws [] 1 = spec_SpreadOf.l4 378 v (spreadW v) 0 := by
        obtain ⟨a0, a1, a2, a3, a4, a5, a6, a7, a8, a9, a10, a11, a12, rfl⟩ := thirteen h
        exact sSpread_walk a0 a1 a2 a3 a4 a5 a6 a7 a8 a9 a10 a11 a12
      rw [w]
      have z := sSpread_end v (spreadW v) h 13 0 364 (by omega) (fun i hi => by omega)
      refine Eq.trans z ?_
      unfold spreadR
      by_cases g : InB v 1000
      · rw [if_pos g, if_pos ⟨h, g⟩, spreadW_eq g]
      · rw [if_neg g, if_neg (fun x => g x.2)]
    exact Ev.of (fun k => (spec_SpreadOf.mono_l k).1 _ _ _ _) e
  · have c : ¬ (v.length : Int) = 13 := by omega
    simp only [lp, if_neg c]
    exact Ev.ret (by unfold spreadR; rw [if_neg (fun x => h x.1)])

theorem ev_drawSpread_l {b : List Int} (hb : Bytes b) : ∀ (m i : Nat) (x : List Int) (p : Int), i + m = 13 → x.length = i → (0 ≤ p ∧ p ≤ 1000 + 2 * i) →
    ∃ v, v.length ≤ 13 ∧ Ev (fun k => spec_DrawSpreadOf.l0 k x (i : Int) b p) v := by
  intro m
  have lp : (pws.length : Int) = 13 := rfl
  induction m with
  | zero =>
    intro i x p hi hx hp
    obtain ⟨o, eo⟩ := ev_odd hb p 14 (by omega) (by omega)
    have c : ¬ (i : Int) < 13 := by omega
    have l : 1 ≤ (x.length : Int) := by omega
    cases o with
    | true =>
      refine ⟨x.drop (1 : Int).toNat, by rw [List.length_drop]; omega, Ev.step (fun k => by rw [spec_DrawSpreadOf.l0]) ?_⟩
      refine Ev.bind ev_spws ?_
      simp only [lp, if_neg c]
      refine Ev.bind eo ?_
      simp only [if_true, if_pos l]; exact Ev.now _
    | false =>
      refine ⟨x, by omega, Ev.step (fun k => by rw [spec_DrawSpreadOf.l0]) ?_⟩
      refine Ev.bind ev_spws ?_
      simp only [lp, if_neg c]
      refine Ev.bind eo ?_
      simp only [Bool.false_eq_true, if_false]; exact Ev.now _
  | succ m ih =>
    intro i x p hi hx hp
    obtain ⟨r, hr, er⟩ := ev_pick hb p 9 (by omega) (by omega)
    obtain ⟨s, hs, es⟩ := ev_pick hb (p + 1) 90 (by omega) (by omega)
    obtain ⟨v, hv, e⟩ := ih (i + 1) (x ++ [wrap64 ((wrap64 (r - 4)) + (wrap64 ((wrap64 (Int.tdiv s 89)) * 2000)))]) (p + 1 + 1) (by omega) (by rw [List.length_append, List.length_singleton, hx]) (by omega)
    refine ⟨v, hv, Ev.step (fun k => by rw [spec_DrawSpreadOf.l0]) ?_⟩
    have c : (i : Int) < 13 := by omega
    have l : x.length < 17592186044416 := by omega
    refine Ev.bind ev_spws ?_
    simp only [lp, if_pos c, w64 (x := (i : Int) + 1) (by omega)]
    refine Ev.bind er (Ev.bind es ?_)
    simp only [if_pos l]
    exact e

/-- One term of a product over divisors. -/
def term (f g : List Int) (n d : Nat) : Int := At f d * At g (n / d)
/-- The product of two rows over divisors, at a number. -/
def conv (f g : List Int) (n : Nat) : Int := isum ((divs n).map (term f g n))
def times (f g : List Int) : List Int := (List.range 24).map (fun i => conv f g (i + 1))
theorem isum_bound {l : List Int} {B : Int} (hB : 0 ≤ B) (h : ∀ x ∈ l, -B ≤ x ∧ x ≤ B) : -((l.length : Int) * B) ≤ isum l ∧ isum l ≤ (l.length : Int) * B := by
  induction l with
  | nil => simp [isum]
  | cons x t ih =>
    have h1 := h x (by simp)
    have h2 := ih (fun y hy => h y (List.mem_cons_of_mem _ hy))
    simp only [isum, List.length_cons]
    rw [Int.natCast_add, Int.add_mul]
    omega
theorem term_in {f g : List Int} (hf : InB f 10000) (hg : InB g 10000) (n d : Nat) : -100000000 ≤ term f g n d ∧ term f g n d ≤ 100000000 := by
  have := mul_in (hf.at (by omega) d) (hg.at (by omega) (n / d)) (by omega)
  unfold term; omega
theorem isum_terms {f g : List Int} (hf : InB f 10000) (hg : InB g 10000) (n : Nat) (l : List Nat) (hl : l.length ≤ 1000) : -100000000000 ≤ isum (l.map (term f g n)) ∧ isum (l.map (term f g n)) ≤ 100000000000 := by
  have h := isum_bound (l := l.map (term f g n)) (B := 100000000) (by omega) (fun x hx => by
    obtain ⟨d, _, rfl⟩ := List.mem_map.1 hx; exact term_in hf hg n d)
  rw [List.length_map] at h
  omega
theorem times_length (f g : List Int) : (times f g).length = 24 := by simp [times]
theorem At_times (f g : List Int) (n : Nat) (h : 1 ≤ n ∧ n ≤ 24) : At (times f g) n = conv f g n := by
  unfold At times
  rw [List.getD_eq_getElem?_getD, List.getElem?_map, List.getElem?_range (by omega)]
  simp only [Option.map_some, Option.getD_some]
  rw [show n - 1 + 1 = n by omega]
theorem ext_At {a b : List Int} (ha : a.length = 24) (hb : b.length = 24) (h : ∀ n, 1 ≤ n → n ≤ 24 → At a n = At b n) : a = b := by
  refine List.ext_getElem (by omega) (fun t h1 h2 => ?_)
  have := h (t + 1) (by omega) (by omega)
  unfold At at this
  rw [show t + 1 - 1 = t by omega] at this
  simpa [List.getD_eq_getElem?_getD, List.getElem?_eq_getElem h1, List.getElem?_eq_getElem h2] using this
theorem At_set (a : List Int) (m : Nat) (x : Int) (n : Nat) (hm : 1 ≤ m) (hl : m ≤ a.length) (hn : 1 ≤ n) : At (a.set (m - 1) x) n = if n = m then x else At a n := by
  unfold At
  simp only [List.getD_eq_getElem?_getD, List.getElem?_set]
  by_cases e : n = m
  · subst e; simp [show n - 1 < a.length by omega]
  · rw [if_neg (by omega), if_neg e]

/-- What the product of two rows tells: the row and true, or nothing and false. -/
def timesR (f g : List Int) : List Int × Bool := if (InB f 10000 ∧ f.length = 24) ∧ (InB g 10000 ∧ g.length = 24) then (times f g, true) else ([], false)
theorem InB_iff_At {f : List Int} (hl : f.length = 24) (m : Int) : InB f m ↔ ∀ n, 1 ≤ n → n ≤ 24 → -m ≤ At f n ∧ At f n ≤ m := by
  constructor
  · intro h n n1 n2
    unfold At
    rw [List.getD_eq_getElem?_getD, List.getElem?_eq_getElem (show n - 1 < f.length by omega)]
    exact h _ (List.getElem_mem _)
  · intro h x hx
    obtain ⟨i, hi, rfl⟩ := List.mem_iff_getElem.1 hx
    have := h (i + 1) (by omega) (by omega)
    unfold At at this
    rw [List.getD_eq_getElem?_getD, List.getElem?_eq_getElem (show i + 1 - 1 < f.length by omega)] at this
    simpa using this
theorem timesR_length (f g : List Int) : (timesR f g).1.length ≤ 24 := by
  unfold timesR; split
  · exact Nat.le_of_eq (times_length f g)
  · simp

theorem divs_len8 : ∀ n : Nat, n < 25 → (divs n).length ≤ 8 := by decide +kernel
/-- A product of two rows is a row. -/
theorem times_in {f g : List Int} (hf : InB f 10000) (hg : InB g 10000) : InB (times f g) 1000000000 := by
  rw [InB_iff_At (times_length f g)]
  intro n n1 n2
  rw [At_times f g n ⟨n1, n2⟩]
  unfold conv
  have h := isum_bound (l := (divs n).map (term f g n)) (B := 100000000) (by omega) (fun x hx => by
    obtain ⟨d, _, rfl⟩ := List.mem_map.1 hx; exact term_in hf hg n d)
  rw [List.length_map] at h
  have := divs_len8 n (by omega)
  omega
theorem conv_one (f g : List Int) : conv f g 1 = At f 1 * At g 1 := by
  have e : divs 1 = [1] := by decide
  unfold conv
  rw [e]
  simp [term, isum]
theorem At_times_one (f g : List Int) : At (times f g) 1 = At f 1 * At g 1 := by
  rw [At_times f g 1 (by omega), conv_one]
theorem timesR_told {f g : List Int} (h : (timesR f g).2 = true) : ((InB f 10000 ∧ f.length = 24) ∧ (InB g 10000 ∧ g.length = 24)) ∧ (timesR f g).1 = times f g := by
  unfold timesR at *
  by_cases c : (InB f 10000 ∧ f.length = 24) ∧ (InB g 10000 ∧ g.length = 24)
  · rw [if_pos c]; exact ⟨c, rfl⟩
  · rw [if_neg c] at h; cases h
theorem timesR_none {f g : List Int} (h : (timesR f g).2 = false) : timesR f g = ([], false) := by
  unfold timesR at *
  by_cases c : (InB f 10000 ∧ f.length = 24) ∧ (InB g 10000 ∧ g.length = 24)
  · rw [if_pos c] at h; cases h
  · rw [if_neg c]

theorem pv_append (v : List Int) : ∀ a b : List Nat, pv v (a ++ b) = pv v a * pv v b := by
  intro a b
  induction a with
  | nil => show pv v b = 1 * pv v b; omega
  | cons i t ih =>
    show v.getD i 0 * pv v (t ++ b) = v.getD i 0 * pv v t * pv v b
    rw [ih, Int.mul_assoc]
theorem pv_perm (v : List Int) {a b : List Nat} (h : a.Perm b) : pv v a = pv v b := by
  induction h with
  | nil => rfl
  | cons x _ ih => exact congrArg (fun y => v.getD x 0 * y) ih
  | swap x y l =>
    show v.getD y 0 * (v.getD x 0 * pv v l) = v.getD x 0 * (v.getD y 0 * pv v l)
    rw [← Int.mul_assoc, ← Int.mul_assoc, Int.mul_comm (v.getD y 0)]
  | trans _ _ h1 h2 => exact h1.trans h2
theorem fidx_mul : ∀ a, a < 25 → ∀ b, b < 25 → 1 ≤ a → 1 ≤ b → a * b ≤ 24 → (fidx (a * b)).isPerm (fidx a ++ fidx b) = true := by decide +kernel
theorem full_mult (v : List Int) : Mult true (full v) := by
  refine ⟨by rw [At_full v 1 (by omega)]; rfl, fun a b ha hb hab _ => ?_⟩
  have a2 : a ≤ 24 := Nat.le_trans (Nat.le_mul_of_pos_right a hb) hab
  have b2 : b ≤ 24 := Nat.le_trans (Nat.le_mul_of_pos_left b ha) hab
  have c : 1 ≤ a * b := Nat.mul_pos ha hb
  rw [At_full v _ ⟨c, hab⟩, At_full v a ⟨ha, a2⟩, At_full v b ⟨hb, b2⟩, pv_perm v (List.isPerm_iff.1 (fidx_mul a (by omega) b (by omega) ha hb hab)), pv_append]
theorem full_in {v : List Int} (h : InB v 9) : InB (full v) 100000 := by
  rw [InB_iff_At (full_length v)]
  intro n n1 n2
  rw [At_full v n ⟨n1, n2⟩]
  have b := pv_in (B := 9) h (fidx n)
  have b2 := fidx_len n (by omega)
  have b3 : 9 ^ (fidx n).length ≤ 9 ^ 5 := Nat.pow_le_pow_right (by omega) b2
  have b4 : (9 : Nat) ^ 5 = 59049 := by decide
  omega
theorem fullR_told {v : List Int} (h : (fullR v).2 = true) : (v.length = 9 ∧ InB v 9) ∧ (fullR v).1 = full v := by
  unfold fullR at *
  split at h
  · rename_i c; rw [if_pos c]; exact ⟨c, rfl⟩
  · cases h
theorem fullR_none {v : List Int} (h : ¬ (fullR v).2 = true) : (fullR v).1 = [] := by
  unfold fullR at *
  split at h
  · exact absurd rfl h
  · rename_i c; rw [if_neg c]

theorem sidx_mul : ∀ a, a < 25 → ∀ b, b < 25 → (1 ≤ a ∧ 1 ≤ b ∧ a * b ≤ 24 ∧ Nat.gcd a b = 1) → (sidx (a * b)).isPerm (sidx a ++ sidx b) = true := by decide +kernel
theorem spread_mult (v : List Int) : Mult false (spread v) := by
  refine ⟨by rw [At_spread v 1 (by omega)]; rfl, fun a b ha hb hab hg => ?_⟩
  have a2 : a ≤ 24 := Nat.le_trans (Nat.le_mul_of_pos_right a hb) hab
  have b2 : b ≤ 24 := Nat.le_trans (Nat.le_mul_of_pos_left b ha) hab
  have c : 1 ≤ a * b := Nat.mul_pos ha hb
  have g : Nat.gcd a b = 1 := by rcases hg with h | h; · cases h
                                 · exact h
  rw [At_spread v _ ⟨c, hab⟩, At_spread v a ⟨ha, a2⟩, At_spread v b ⟨hb, b2⟩, pv_perm v (List.isPerm_iff.1 (sidx_mul a (by omega) b (by omega) ⟨ha, hb, hab, g⟩)), pv_append]
theorem spread_in {v : List Int} (h : InB v 1000) : InB (spread v) 1000000 := by
  rw [InB_iff_At (spread_length v)]
  intro n n1 n2
  rw [At_spread v n ⟨n1, n2⟩]
  have b := pv_in (B := 1000) h (sidx n)
  have b2 := sidx_len n (by omega)
  have b3 : 1000 ^ (sidx n).length ≤ 1000 ^ 2 := Nat.pow_le_pow_right (by omega) b2
  have b4 : (1000 : Nat) ^ 2 = 1000000 := by decide
  omega
theorem spreadR_told {v : List Int} (h : (spreadR v).2 = true) : (v.length = 13 ∧ InB v 1000) ∧ (spreadR v).1 = spread v := by
  unfold spreadR at *
  split at h
  · rename_i c; rw [if_pos c]; exact ⟨c, rfl⟩
  · cases h
theorem spreadR_none {v : List Int} (h : ¬ (spreadR v).2 = true) : (spreadR v).1 = [] := by
  unfold spreadR at *
  split at h
  · exact absurd rfl h
  · rename_i c; rw [if_neg c]

theorem ev_within_l (f : List Int) (m : Int) (hm : 0 ≤ m ∧ m ≤ 1000000000000) (hf : f.length ≤ 1000000000000000) : ∀ (d i : Nat), i + d = f.length →
    Ev (fun k => impl_within.l0 k f m f (f.length : Int) (i : Int)) (decide (InB (f.drop i) m ∧ f.length = 24)) := by
  intro d
  induction d with
  | zero =>
    intro i hi
    refine Ev.step (fun k => by rw [impl_within.l0]) ?_
    have h1 : ¬ (i : Int) < (f.length : Int) := by omega
    simp only [if_neg h1]
    refine Ev.ret ?_
    rw [List.drop_eq_nil_of_le (by omega), Bool.eq_iff_iff]; simp [InB_nil]; omega
  | succ d ih =>
    intro i hi
    refine Ev.step (fun k => by rw [impl_within.l0]) ?_
    have h1 : (i : Int) < (f.length : Int) := by omega
    have h2 : (0 : Int) ≤ (i : Int) := by omega
    simp only [if_pos h1, if_pos h2, rd_nat, w64 (x := -m) (by omega)]
    have e := drop_step f i (by omega)
    by_cases a : f.getD i 0 < -m
    · simp only [if_pos a]
      refine Ev.ret ?_
      symm; rw [decide_eq_false_iff_not, e, InB_cons]; omega
    · by_cases b : f.getD i 0 > m
      · simp only [if_neg a, gt_iff_lt, if_pos (show m < f.getD i 0 from b)]
        refine Ev.ret ?_
        symm; rw [decide_eq_false_iff_not, e, InB_cons]; omega
      · simp only [if_neg a, if_neg b, w64 (x := (i : Int) + 1) (by omega)]
        refine Ev.to (ih (i + 1) (by omega)) ?_
        rw [Bool.eq_iff_iff]; simp only [decide_eq_true_eq]; rw [e, InB_cons]
        constructor
        · rintro ⟨h, g⟩; exact ⟨⟨by omega, h⟩, g⟩
        · rintro ⟨⟨_, h⟩, g⟩; exact ⟨h, g⟩
theorem ev_within (f : List Int) (m : Int) (hm : 0 ≤ m ∧ m ≤ 1000000000000) (hf : f.length ≤ 1000000000000000) :
    Ev (fun k => impl_within.f k f m) (decide (InB f m ∧ f.length = 24)) := by
  unfold impl_within.f
  exact ev_within_l f m hm hf f.length 0 (by omega)

theorem ev_RowOk (f : List Int) (hf : f.length ≤ 1000000000000000) : Ev (fun k => impl_RowOk.f k f) (decide (InB f 1000000000 ∧ f.length = 24)) := by
  unfold impl_RowOk.f
  exact Ev.bind (ev_within f 1000000000 (by omega) hf) (Ev.now _)

/-- Natural numbers as the program's numbers. -/
def ints (l : List Nat) : List Int := l.map (fun x : Nat => (x : Int))
theorem ints_length (l : List Nat) : (ints l).length = l.length := by simp [ints]
theorem ints_append (l m : List Nat) : ints (l ++ m) = ints l ++ ints m := by simp [ints]
theorem ints_reverse (l : List Nat) : (ints l).reverse = ints l.reverse := by simp [ints]

/-- Factors as the program tells them: rows of two numbers. -/
def rowsF (L : List (Nat × Nat)) : List (List Int) := L.map (fun x : Nat × Nat => [(x.1 : Int), (x.2 : Int)])
theorem rowsF_length (L : List (Nat × Nat)) : (rowsF L).length = L.length := by simp [rowsF]

theorem ev_fac_l1 (out : List (List Int)) (hout : out.length ≤ 1000000) (p : Nat) (hp : 2 ≤ p ∧ p ≤ 10000) (r : List (List Int)) (t m : Nat) (hm : m % p ≠ 0) (h1 : 1 ≤ m ∧ m ≤ 10000)
    (hN : Ev (fun k => impl_factors.l0 k (m : Int) (if t = 0 then out else out ++ [[(p : Int), (t : Int)]]) ((p + 1 : Nat) : Int)) r) :
    ∀ (j c : Nat), c + j = t → p ^ j * m ≤ 10000 → t ≤ 10000 →
    Ev (fun k => impl_factors.l1 k ((p ^ j * m : Nat) : Int) out (p : Int) (c : Int)) r := by
  intro j
  induction j with
  | zero =>
    intro c hc hb ht
    refine Ev.step (fun k => by rw [impl_factors.l1]) ?_
    have c0 : ¬ (p : Int) = 0 := by omega
    have c1 : ¬ ((m % p : Nat) : Int) = 0 := by omega
    simp only [Nat.pow_zero, Nat.one_mul, if_neg c0, ← Int.ofNat_tmod, if_neg c1, w64 (x := (p : Int) + 1) (by omega)]
    have e : c = t := by omega
    subst e
    by_cases z : c = 0
    · have c2 : ¬ (c : Int) > 0 := by omega
      rw [if_pos z] at hN
      simp only [if_neg c2]; exact hN
    · have c2 : (0 : Int) < (c : Int) := by omega
      have c3 : out.length < 5864062014805 := by omega
      rw [if_neg z] at hN
      simp only [gt_iff_lt, if_pos c2, if_pos c3]; exact hN
  | succ j ih =>
    intro c hc hb ht
    refine Ev.step (fun k => by rw [impl_factors.l1]) ?_
    have e : p ^ (j + 1) * m = p * (p ^ j * m) := by rw [Nat.pow_succ, Nat.mul_comm (p ^ j) p, Nat.mul_assoc]
    have c0 : ¬ (p : Int) = 0 := by omega
    have c1 : ((p ^ (j + 1) * m % p : Nat) : Int) = 0 := by rw [e, Nat.mul_mod_right]; rfl
    have c2 : p ^ (j + 1) * m / p = p ^ j * m := by rw [e, Nat.mul_div_cancel_left _ (by omega)]
    have b2 : 1 * (p ^ j * m) ≤ p * (p ^ j * m) := Nat.mul_le_mul_right _ (by omega)
    simp only [if_neg c0, ← Int.ofNat_tmod, ← Int.ofNat_tdiv, if_pos c1, c2, w64 (x := ((p ^ j * m : Nat) : Int)) (by omega), w64 (x := (c : Int) + 1) (by omega)]
    exact ih (c + 1) (by omega) (by omega) ht
theorem ev_fac_one (out : List (List Int)) (p : Int) : Ev (fun k => impl_factors.l0 k 1 out p) out := by
  refine Ev.step (fun k => by rw [impl_factors.l0]) ?_
  have c : ¬ (1 : Int) > 1 := by omega
  simp only [if_neg c]
  exact Ev.now _
theorem ev_fac_l0 : ∀ (d p n : Nat) (out : List (List Int)), p + d = 102 → 2 ≤ p → 1 ≤ n → n ≤ 10000 → out.length ≤ p → NoLow p n →
    Ev (fun k => impl_factors.l0 k (n : Int) out (p : Int)) (out ++ rowsF (fac p n)) := by
  intro d
  induction d with
  | zero =>
    intro p n out hd hp h1 hn ho hl
    by_cases c : n = 1
    · subst c; rw [fac_lt (by omega)]; simpa [rowsF] using ev_fac_one out (p : Int)
    refine Ev.step (fun k => by rw [impl_factors.l0]) ?_
    have c1 : (1 : Int) < (n : Int) := by omega
    have e : p = 102 := by omega
    subst e
    have c2 : (n : Int) < ((102 : Nat) : Int) * ((102 : Nat) : Int) := by omega
    have hpr : Pr n := pr_of_root (d := 102) (by omega) (by omega) hl
    have hf : fac 102 n = [(n, 1)] := by
      rw [← fac_skip h1 hl (by omega), fac_skip h1 (p := n) ?_ (by omega)]
      · have := fac_yes (p := n) (j := 1) (m := 1) (by omega) (by omega) (by rw [Nat.mod_eq_of_lt (by omega)]; omega) (by omega)
        rw [Nat.pow_one, Nat.mul_one] at this
        rw [this, fac_lt (by omega)]
      · intro x h2 hx e
        rcases hpr.2 x (Nat.dvd_of_mod_eq_zero e) with h | h <;> omega
    simp only [gt_iff_lt, if_pos c1, w64 (x := ((102 : Nat) : Int) * ((102 : Nat) : Int)) (by omega), if_pos c2]
    refine Ev.step (fun k => by rw [impl_factors.j1]) ?_
    rw [hf]
    have := ev_fac_l1 out (by omega) n ⟨by omega, hn⟩ (out ++ rowsF [(n, 1)]) 1 1 (by rw [Nat.mod_eq_of_lt (by omega)]; omega) (by omega) (by simpa [rowsF] using ev_fac_one (out ++ [[(n : Int), 1]]) ((n : Int) + 1)) 1 0 (by omega) (by rw [Nat.pow_one]; omega) (by omega)
    rw [Nat.pow_one, Nat.mul_one] at this
    exact this
  | succ d ih =>
    intro p n out hd hp h1 hn ho hl
    by_cases c : n = 1
    · subst c; rw [fac_lt (by omega)]; simpa [rowsF] using ev_fac_one out (p : Int)
    refine Ev.step (fun k => by rw [impl_factors.l0]) ?_
    have c1 : (1 : Int) < (n : Int) := by omega
    have pp : p * p ≤ 101 * 101 := Nat.mul_le_mul (by omega) (by omega)
    have ep : (p : Int) * (p : Int) = ((p * p : Nat) : Int) := by simp
    simp only [gt_iff_lt, if_pos c1, ep, w64 (x := ((p * p : Nat) : Int)) (by omega)]
    by_cases hpp : n < p * p
    · have c2 : (n : Int) < ((p * p : Nat) : Int) := by omega
      have hpr : Pr n := pr_of_root (d := p) (by omega) hpp hl
      have hln : NoLow n n := fun x h2 hx e => by
        rcases hpr.2 x (Nat.dvd_of_mod_eq_zero e) with h | h <;> omega
      have hf : fac p n = [(n, 1)] := by
        rw [← fac_skip h1 hl hp, fac_skip h1 (p := n) hln (by omega)]
        have := fac_yes (p := n) (j := 1) (m := 1) (by omega) (by omega) (by rw [Nat.mod_eq_of_lt (by omega)]; omega) (by omega)
        rw [Nat.pow_one, Nat.mul_one] at this
        rw [this, fac_lt (by omega)]
      simp only [if_pos c2]
      refine Ev.step (fun k => by rw [impl_factors.j1]) ?_
      rw [hf]
      have := ev_fac_l1 out (by omega) n ⟨by omega, hn⟩ (out ++ rowsF [(n, 1)]) 1 1 (by rw [Nat.mod_eq_of_lt (by omega)]; omega) (by omega) (by simpa [rowsF] using ev_fac_one (out ++ [[(n : Int), 1]]) ((n : Int) + 1)) 1 0 (by omega) (by rw [Nat.pow_one]; omega) (by omega)
      rw [Nat.pow_one, Nat.mul_one] at this
      exact this
    · have c2 : ¬ (n : Int) < ((p * p : Nat) : Int) := by omega
      simp only [if_neg c2]
      refine Ev.step (fun k => by rw [impl_factors.j1]) ?_
      obtain ⟨j, m, e, hm, hm1⟩ := exists_strip p hp n h1
      have hj : j < p ^ j := Nat.lt_pow_self (by omega)
      have b1 : p ^ j * 1 ≤ p ^ j * m := Nat.mul_le_mul_left _ hm1
      have b2 : 1 * m ≤ p ^ j * m := Nat.mul_le_mul_right _ (Nat.pow_pos (by omega))
      have hlm : NoLow (p + 1) m := (hl.of_dvd (by rw [e]; exact dvd_pow_mul p j m)).succ hm
      have ihm := ih (p + 1) m (if j = 0 then out else out ++ [[(p : Int), (j : Int)]]) (by omega) (by omega) hm1 (by omega) (by split <;> (try simp) <;> omega) hlm
      have main := ev_fac_l1 out (by omega) p ⟨hp, by omega⟩ _ j m hm ⟨hm1, by omega⟩ ihm j 0 (by omega) (by omega) (by omega)
      rw [← e] at main
      refine Ev.to main ?_
      by_cases z : j = 0
      · subst z
        rw [Nat.pow_zero, Nat.one_mul] at e
        subst e
        rw [if_pos rfl, ← fac_no hp h1 hm]
      · rw [if_neg z, e, fac_yes hp (by omega) hm hm1]; simp [rowsF]
theorem ev_factors (n : Nat) (h1 : 1 ≤ n) (hn : n ≤ 10000) : Ev (fun k => impl_factors.f k (n : Int)) (rowsF (fac 2 n)) := by
  unfold impl_factors.f
  exact ev_fac_l0 100 2 n [] (by omega) (by omega) h1 hn (by simp) (NoLow.two n)

/-- The powers of primes from 2 on below a bound. -/
def pps (d : Nat) : List Nat := (List.range' 2 (d - 2)).filter (fun n => (fac 2 n).length == 1)
theorem pps_succ (d : Nat) (h : 2 ≤ d) : pps (d + 1) = if (fac 2 d).length = 1 then pps d ++ [d] else pps d := by
  unfold pps
  obtain ⟨c, rfl⟩ : ∃ c, d = c + 2 := ⟨d - 2, by omega⟩
  simp only [show c + 2 + 1 - 2 = c + 1 by omega, show c + 2 - 2 = c by omega, List.range'_1_concat, List.filter_append, List.filter_cons, List.filter_nil, beq_iff_eq, Nat.add_comm 2 c]
  split <;> simp
theorem pps_length (d : Nat) : (pps d).length ≤ d := by
  unfold pps; exact Nat.le_trans (List.length_filter_le _ _) (by simp)

theorem ev_primePowers_l (most : Nat) (hm : most ≤ 10000) : ∀ (e d : Nat), 2 ≤ d → d + e = max 2 (most + 1) →
    Ev (fun k => impl_primePowers.l0 k (most : Int) (ints (pps d)) (d : Int)) (ints (pps (max 2 (most + 1)))) := by
  intro e
  induction e with
  | zero =>
    intro d hd he
    refine Ev.step (fun k => by rw [impl_primePowers.l0]) ?_
    have c : ¬ (d : Int) ≤ (most : Int) := by omega
    simp only [if_neg c]
    exact Ev.ret (by rw [show d = max 2 (most + 1) by omega])
  | succ e ih =>
    intro d hd he
    refine Ev.step (fun k => by rw [impl_primePowers.l0]) ?_
    have c : (d : Int) ≤ (most : Int) := by omega
    have l1 : (ints (pps d)).length < 17592186044416 := by rw [ints_length]; have := pps_length d; omega
    have ih' := ih (d + 1) (by omega) (by omega)
    rw [pps_succ d hd] at ih'
    simp only [if_pos c, if_pos l1, w64 (x := (d : Int) + 1) (by omega)]
    refine Ev.bind (ev_factors d (by omega) (by omega)) ?_
    rw [rowsF_length]
    by_cases z : (fac 2 d).length = 1
    · have z1 : ((fac 2 d).length : Int) = 1 := by omega
      rw [if_pos z, ints_append] at ih'
      simp only [if_pos z1]; exact ih'
    · have z1 : ¬ ((fac 2 d).length : Int) = 1 := by omega
      rw [if_neg z] at ih'
      simp only [if_neg z1]; exact ih'
theorem ev_primePowers (most : Nat) (hm : most ≤ 10000) : Ev (fun k => impl_primePowers.f k (most : Int)) (ints (pps (max 2 (most + 1)))) := by
  unfold impl_primePowers.f
  exact ev_primePowers_l most hm (max 2 (most + 1) - 2) 2 (by omega) (by omega)

/-- What a row is at the powers of primes. -/
def atPows (f : List Int) : List Int := (pps 25).map (fun q => At f q)
theorem pps_25 : pps 25 = [2, 3, 4, 5, 7, 8, 9, 11, 13, 16, 17, 19, 23] := by decide +kernel
theorem ints_rd (l : List Nat) (i : Nat) : rd (ints l) (i : Int) = ((l.getD i 0 : Nat) : Int) := by
  show (ints l).getD i 0 = _
  unfold ints; simp only [List.getD_eq_getElem?_getD, List.getElem?_map]
  cases l[i]? <;> simp
theorem take_at {l : List Nat} (g : Nat → Int) (i : Nat) (h : i < l.length) : (l.take (i + 1)).map g = (l.take i).map g ++ [g (l.getD i 0)] := by
  rw [List.take_succ_eq_append_getElem h, List.map_append]; simp [List.getD_eq_getElem?_getD, List.getElem?_eq_getElem h]
theorem getN_mem (l : List Nat) (i : Nat) (h : i < l.length) : l.getD i 0 ∈ l := by
  rw [List.getD_eq_getElem?_getD, List.getElem?_eq_getElem h]; exact List.getElem_mem _
theorem ev_AtPowers_l (f : List Int) (hf : f.length = 24) (L : List Nat) (hL : ∀ q ∈ L, 1 ≤ q ∧ q ≤ 24) (hl : L.length ≤ 100) : ∀ (d i : Nat), i + d = L.length →
    Ev (fun k => impl_AtPowers.l0 k f ((L.take i).map (fun q => At f q)) (ints L) (L.length : Int) (i : Int)) (L.map (fun q => At f q)) := by
  intro d
  induction d with
  | zero =>
    intro i hi
    refine Ev.step (fun k => by rw [impl_AtPowers.l0]) ?_
    have c : ¬ (i : Int) < (L.length : Int) := by omega
    simp only [if_neg c]
    exact Ev.ret (by rw [List.take_of_length_le (by omega)])
  | succ d ih =>
    intro i hi
    refine Ev.step (fun k => by rw [impl_AtPowers.l0]) ?_
    have c : (i : Int) < (L.length : Int) := by omega
    have c1 : 0 ≤ (i : Int) := by omega
    have b := hL _ (getN_mem L i (by omega))
    have c2 : 0 ≤ ((L.getD i 0 : Nat) : Int) - 1 := by omega
    have c3 : ((L.getD i 0 : Nat) : Int) - 1 < (f.length : Int) := by omega
    have c4 : ((L.take i).map (fun q => At f q)).length < 17592186044416 := by rw [List.length_map, List.length_take]; omega
    have ih' := ih (i + 1) (by omega)
    rw [take_at _ i (by omega)] at ih'
    simp only [ints_length, if_pos c, if_pos c1, ints_rd, w64 (x := ((L.getD i 0 : Nat) : Int) - 1) (by omega), if_pos c2, if_pos c3, if_pos c4, rd_at f _ b.1, w64 (x := (i : Int) + 1) (by omega)]
    exact ih'
theorem ev_AtPowers_yes (f : List Int) (h : InB f 1000000000 ∧ f.length = 24) : Ev (fun k => impl_AtPowers.f k f) (atPows f) := by
  unfold impl_AtPowers.f atPows
  refine Ev.bind (ev_RowOk f (by omega)) ?_
  simp only [decide_eq_true h, if_true]
  have e := ev_primePowers 24 (by omega)
  rw [show max 2 (24 + 1) = 25 from rfl] at e
  refine Ev.bind e ?_
  rw [ints_length]
  refine ev_AtPowers_l f h.2 (pps 25) (fun q hq => ?_) (by rw [pps_25]; decide) (pps 25).length 0 (by omega)
  rw [pps_25] at hq
  have : ∀ q ∈ [2, 3, 4, 5, 7, 8, 9, 11, 13, 16, 17, 19, 23], 1 ≤ q ∧ q ≤ 24 := by decide
  exact this q hq
theorem ev_AtPowers_no (f : List Int) (hf : f.length ≤ 1000000000000000) (h : ¬ (InB f 1000000000 ∧ f.length = 24)) : Ev (fun k => impl_AtPowers.f k f) [] := by
  unfold impl_AtPowers.f
  refine Ev.bind (ev_RowOk f hf) ?_
  simp only [decide_eq_false h, Bool.false_eq_true, if_false]
  exact Ev.now _
/-- What is told of a list at the powers of primes. -/
def atPowsZ (f : List Int) : List Int := if InB f 1000000000 ∧ f.length = 24 then atPows f else []
theorem ev_AtPowers (f : List Int) (hf : f.length ≤ 1000000000000000) : Ev (fun k => impl_AtPowers.f k f) (atPowsZ f) := by
  unfold atPowsZ
  by_cases h : InB f 1000000000 ∧ f.length = 24
  · rw [if_pos h]; exact ev_AtPowers_yes f h
  · rw [if_neg h]; exact ev_AtPowers_no f hf h
theorem atPowsZ_length (f : List Int) : (atPowsZ f).length ≤ 13 := by
  unfold atPowsZ; split
  · unfold atPows; rw [List.length_map, pps_25]; decide
  · simp

theorem atPows_spread {v : List Int} (h : v.length = 13) : atPows (spread v) = v := by
  unfold atPows
  rw [pps_25]
  obtain ⟨a0, a1, a2, a3, a4, a5, a6, a7, a8, a9, a10, a11, a12, rfl⟩ := thirteen h
  have e : ∀ (l : List Nat) (w : List Int) (q : Nat → Int), (∀ x ∈ l, q x = At (spread w) x) → l.map (fun x => At (spread w) x) = l.map q := fun l w q hq => List.map_congr_left (fun x hx => (hq x hx).symm)
  rw [e _ _ (fun n => pv [a0, a1, a2, a3, a4, a5, a6, a7, a8, a9, a10, a11, a12] (sidx n)) (fun x hx => (At_spread _ x (by
    simp only [List.mem_cons, List.not_mem_nil, or_false] at hx
    omega)).symm)]
  show [a0 * 1, a1 * 1, a2 * 1, a3 * 1, a4 * 1, a5 * 1, a6 * 1, a7 * 1, a8 * 1, a9 * 1, a10 * 1, a11 * 1, a12 * 1] = _
  simp only [Int.mul_one]

/-- The row that is at each number as told. -/
def rowOf (g : Nat → Int) : List Int := (List.range 24).map (fun i => g (i + 1))
theorem rowOf_length (g : Nat → Int) : (rowOf g).length = 24 := by simp [rowOf]
theorem At_rowOf (g : Nat → Int) (n : Nat) (h : 1 ≤ n ∧ n ≤ 24) : At (rowOf g) n = g n := by
  unfold At rowOf
  rw [List.getD_eq_getElem?_getD, List.getElem?_map, List.getElem?_range (by omega)]
  simp only [Option.map_some, Option.getD_some]
  rw [show n - 1 + 1 = n by omega]
theorem times_rowOf (f g : List Int) : times f g = rowOf (conv f g) := rfl
theorem ev_rowBy_l (GF : Nat → Int → Option Int) (g : Nat → Int) (h : ∀ n : Nat, 1 ≤ n → n ≤ 24 → Ev (fun k => GF k (n : Int)) (g n)) : ∀ (d i : Nat) (out : List Int), i + d = 24 → out.length = 24 → (∀ n, 1 ≤ n → n ≤ i → At out n = g n) →
    Ev (fun k => impl_rowBy.l0 GF k out 24 (i : Int)) (rowOf g) := by
  intro d
  induction d with
  | zero =>
    intro i out hi hl ho
    refine Ev.step (fun k => by rw [impl_rowBy.l0]) ?_
    have c : ¬ (i : Int) < 24 := by omega
    simp only [if_neg c]
    exact Ev.ret (ext_At hl (rowOf_length g) (fun n n1 n2 => by rw [ho n n1 (by omega), At_rowOf g n ⟨n1, n2⟩]))
  | succ d ih =>
    intro i out hi hl ho
    refine Ev.step (fun k => by rw [impl_rowBy.l0]) ?_
    have c : (i : Int) < 24 := by omega
    have c1 : 0 ≤ (i : Int) := by omega
    have c2 : (i : Int) < (out.length : Int) := by omega
    simp only [if_pos c, w64 (x := (i : Int) + 1) (by omega), if_pos c1, if_pos c2, Int.toNat_natCast]
    refine Ev.bind (h (i + 1) (by omega) (by omega)) ?_
    refine ih (i + 1) _ (by omega) (by rw [List.length_set]; exact hl) (fun n n1 n2 => ?_)
    have := At_set out (i + 1) (g (i + 1)) n (by omega) (by omega) n1
    rw [show i + 1 - 1 = i by omega] at this
    rw [this]
    by_cases e : n = i + 1
    · rw [if_pos e, e]
    · rw [if_neg e]; exact ho n n1 (by omega)
theorem ev_rowBy (GF : Nat → Int → Option Int) (g : Nat → Int) (h : ∀ n : Nat, 1 ≤ n → n ≤ 24 → Ev (fun k => GF k (n : Int)) (g n)) : Ev (fun k => impl_rowBy.f GF k) (rowOf g) := by
  unfold impl_rowBy.f
  have c : 24 ≤ 35184372088832 := by omega
  simp only [if_pos c, Option.bind_some, List.length_replicate]
  exact ev_rowBy_l GF g h 24 0 _ (by omega) (by simp) (fun n n1 n2 => by omega)

theorem ev_listWithin_l (f : List Int) (m : Int) (hm : 0 ≤ m ∧ m ≤ 1000000000000) (hf : f.length ≤ 1000000000000000) : ∀ (d i : Nat), i + d = f.length →
    Ev (fun k => impl_listWithin.l0 k m f (f.length : Int) (i : Int)) (decide (InB (f.drop i) m)) := by
  intro d
  induction d with
  | zero =>
    intro i hi
    refine Ev.step (fun k => by rw [impl_listWithin.l0]) ?_
    have c : ¬ (i : Int) < (f.length : Int) := by omega
    simp only [if_neg c]
    refine Ev.ret ?_
    rw [List.drop_eq_nil_of_le (by omega)]
    exact (decide_eq_true (InB_nil m)).symm
  | succ d ih =>
    intro i hi
    refine Ev.step (fun k => by rw [impl_listWithin.l0]) ?_
    have c : (i : Int) < (f.length : Int) := by omega
    have c1 : 0 ≤ (i : Int) := by omega
    have e : rd f (i : Int) = f.getD i 0 := rfl
    rw [drop_step f i (by omega)]
    simp only [if_pos c, if_pos c1, e, w64 (x := -m) (by omega), w64 (x := (i : Int) + 1) (by omega)]
    generalize f.getD i 0 = x
    by_cases h1 : x < -m
    · simp only [if_pos h1]
      exact Ev.ret (decide_eq_false (fun h => by have := ((InB_cons x _ m).1 h).1; omega)).symm
    · by_cases h2 : x > m
      · simp only [if_neg h1, if_pos h2]
        exact Ev.ret (decide_eq_false (fun h => by have := ((InB_cons x _ m).1 h).1; omega)).symm
      · simp only [if_neg h1, if_neg h2]
        refine Ev.to (ih (i + 1) (by omega)) ?_
        rw [decide_eq_decide, InB_cons]
        constructor
        · intro h; exact ⟨by omega, h⟩
        · intro h; exact h.2
theorem ev_listWithin (f : List Int) (m : Int) (hm : 0 ≤ m ∧ m ≤ 1000000000000) (hf : f.length ≤ 1000000000000000) : Ev (fun k => impl_listWithin.f k f m) (decide (InB f m)) := by
  unfold impl_listWithin.f
  exact ev_listWithin_l f m hm hf f.length 0 (by omega)

theorem ev_pws : Ev (fun k => impl_primePowers.f k 24) pws := Ev.of (fun k => impl_primePowers.mono _ k) (k := 300) (by decide +kernel)
theorem iSpread_1 (a0 a1 a2 a3 a4 a5 a6 a7 a8 a9 a10 a11 a12 : Int) : impl_SpreadOf_1.f 100 1 pws [a0, a1, a2, a3, a4, a5, a6, a7, a8, a9, a10, a11, a12] = some (wch [a0, a1, a2, a3, a4, a5, a6, a7, a8, a9, a10, a11, a12] (sidx 1)) := by kernel_rfl
theorem iSpread_2 (a0 a1 a2 a3 a4 a5 a6 a7 a8 a9 a10 a11 a12 : Int) : impl_SpreadOf_1.f 100 2 pws [a0, a1, a2, a3, a4, a5, a6, a7, a8, a9, a10, a11, a12] = some (wch [a0, a1, a2, a3, a4, a5, a6, a7, a8, a9, a10, a11, a12] (sidx 2)) := by kernel_rfl
theorem iSpread_3 (a0 a1 a2 a3 a4 a5 a6 a7 a8 a9 a10 a11 a12 : Int) : impl_SpreadOf_1.f 100 3 pws [a0, a1, a2, a3, a4, a5, a6, a7, a8, a9, a10, a11, a12] = some (wch [a0, a1, a2, a3, a4, a5, a6, a7, a8, a9, a10, a11, a12] (sidx 3)) := by kernel_rfl
theorem iSpread_4 (a0 a1 a2 a3 a4 a5 a6 a7 a8 a9 a10 a11 a12 : Int) : impl_SpreadOf_1.f 100 4 pws [a0, a1, a2, a3, a4, a5, a6, a7, a8, a9, a10, a11, a12] = some (wch [a0, a1, a2, a3, a4, a5, a6, a7, a8, a9, a10, a11, a12] (sidx 4)) := by kernel_rfl
theorem iSpread_5 (a0 a1 a2 a3 a4 a5 a6 a7 a8 a9 a10 a11 a12 : Int) : impl_SpreadOf_1.f 100 5 pws [a0, a1, a2, a3, a4, a5, a6, a7, a8, a9, a10, a11, a12] = some (wch [a0, a1, a2, a3, a4, a5, a6, a7, a8, a9, a10, a11, a12] (sidx 5)) := by kernel_rfl
theorem iSpread_6 (a0 a1 a2 a3 a4 a5 a6 a7 a8 a9 a10 a11 a12 : Int) : impl_SpreadOf_1.f 100 6 pws [a0, a1, a2, a3, a4, a5, a6, a7, a8, a9, a10, a11, a12] = some (wch [a0, a1, a2, a3, a4, a5, a6, a7, a8, a9, a10, a11, a12] (sidx 6)) := by kernel_rfl
theorem iSpread_7 (a0 a1 a2 a3 a4 a5 a6 a7 a8 a9 a10 a11 a12 : Int) : impl_SpreadOf_1.f 100 7 pws [a0, a1, a2, a3, a4, a5, a6, a7, a8, a9, a10, a11, a12] = some (wch [a0, a1, a2, a3, a4, a5, a6, a7, a8, a9, a10, a11, a12] (sidx 7)) := by kernel_rfl
theorem iSpread_8 (a0 a1 a2 a3 a4 a5 a6 a7 a8 a9 a10 a11 a12 : Int) : impl_SpreadOf_1.f 100 8 pws [a0, a1, a2, a3, a4, a5, a6, a7, a8, a9, a10, a11, a12] = some (wch [a0, a1, a2, a3, a4, a5, a6, a7, a8, a9, a10, a11, a12] (sidx 8)) := by kernel_rfl
theorem iSpread_9 (a0 a1 a2 a3 a4 a5 a6 a7 a8 a9 a10 a11 a12 : Int) : impl_SpreadOf_1.f 100 9 pws [a0, a1, a2, a3, a4, a5, a6, a7, a8, a9, a10, a11, a12] = some (wch [a0, a1, a2, a3, a4, a5, a6, a7, a8, a9, a10, a11, a12] (sidx 9)) := by kernel_rfl
theorem iSpread_10 (a0 a1 a2 a3 a4 a5 a6 a7 a8 a9 a10 a11 a12 : Int) : impl_SpreadOf_1.f 100 10 pws [a0, a1, a2, a3, a4, a5, a6, a7, a8, a9, a10, a11, a12] = some (wch [a0, a1, a2, a3, a4, a5, a6, a7, a8, a9, a10, a11, a12] (sidx 10)) := by kernel_rfl
theorem iSpread_11 (a0 a1 a2 a3 a4 a5 a6 a7 a8 a9 a10 a11 a12 : Int) : impl_SpreadOf_1.f 100 11 pws [a0, a1, a2, a3, a4, a5, a6, a7, a8, a9, a10, a11, a12] = some (wch [a0, a1, a2, a3, a4, a5, a6, a7, a8, a9, a10, a11, a12] (sidx 11)) := by kernel_rfl
theorem iSpread_12 (a0 a1 a2 a3 a4 a5 a6 a7 a8 a9 a10 a11 a12 : Int) : impl_SpreadOf_1.f 100 12 pws [a0, a1, a2, a3, a4, a5, a6, a7, a8, a9, a10, a11, a12] = some (wch [a0, a1, a2, a3, a4, a5, a6, a7, a8, a9, a10, a11, a12] (sidx 12)) := by kernel_rfl
theorem iSpread_13 (a0 a1 a2 a3 a4 a5 a6 a7 a8 a9 a10 a11 a12 : Int) : impl_SpreadOf_1.f 100 13 pws [a0, a1, a2, a3, a4, a5, a6, a7, a8, a9, a10, a11, a12] = some (wch [a0, a1, a2, a3, a4, a5, a6, a7, a8, a9, a10, a11, a12] (sidx 13)) := by kernel_rfl
theorem iSpread_14 (a0 a1 a2 a3 a4 a5 a6 a7 a8 a9 a10 a11 a12 : Int) : impl_SpreadOf_1.f 100 14 pws [a0, a1, a2, a3, a4, a5, a6, a7, a8, a9, a10, a11, a12] = some (wch [a0, a1, a2, a3, a4, a5, a6, a7, a8, a9, a10, a11, a12] (sidx 14)) := by kernel_rfl
theorem iSpread_15 (a0 a1 a2 a3 a4 a5 a6 a7 a8 a9 a10 a11 a12 : Int) : impl_SpreadOf_1.f 100 15 pws [a0, a1, a2, a3, a4, a5, a6, a7, a8, a9, a10, a11, a12] = some (wch [a0, a1, a2, a3, a4, a5, a6, a7, a8, a9, a10, a11, a12] (sidx 15)) := by kernel_rfl
theorem iSpread_16 (a0 a1 a2 a3 a4 a5 a6 a7 a8 a9 a10 a11 a12 : Int) : impl_SpreadOf_1.f 100 16 pws [a0, a1, a2, a3, a4, a5, a6, a7, a8, a9, a10, a11, a12] = some (wch [a0, a1, a2, a3, a4, a5, a6, a7, a8, a9, a10, a11, a12] (sidx 16)) := by kernel_rfl
theorem iSpread_17 (a0 a1 a2 a3 a4 a5 a6 a7 a8 a9 a10 a11 a12 : Int) : impl_SpreadOf_1.f 100 17 pws [a0, a1, a2, a3, a4, a5, a6, a7, a8, a9, a10, a11, a12] = some (wch [a0, a1, a2, a3, a4, a5, a6, a7, a8, a9, a10, a11, a12] (sidx 17)) := by kernel_rfl
theorem iSpread_18 (a0 a1 a2 a3 a4 a5 a6 a7 a8 a9 a10 a11 a12 : Int) : impl_SpreadOf_1.f 100 18 pws [a0, a1, a2, a3, a4, a5, a6, a7, a8, a9, a10, a11, a12] = some (wch [a0, a1, a2, a3, a4, a5, a6, a7, a8, a9, a10, a11, a12] (sidx 18)) := by kernel_rfl
theorem iSpread_19 (a0 a1 a2 a3 a4 a5 a6 a7 a8 a9 a10 a11 a12 : Int) : impl_SpreadOf_1.f 100 19 pws [a0, a1, a2, a3, a4, a5, a6, a7, a8, a9, a10, a11, a12] = some (wch [a0, a1, a2, a3, a4, a5, a6, a7, a8, a9, a10, a11, a12] (sidx 19)) := by kernel_rfl
theorem iSpread_20 (a0 a1 a2 a3 a4 a5 a6 a7 a8 a9 a10 a11 a12 : Int) : impl_SpreadOf_1.f 100 20 pws [a0, a1, a2, a3, a4, a5, a6, a7, a8, a9, a10, a11, a12] = some (wch [a0, a1, a2, a3, a4, a5, a6, a7, a8, a9, a10, a11, a12] (sidx 20)) := by kernel_rfl
theorem iSpread_21 (a0 a1 a2 a3 a4 a5 a6 a7 a8 a9 a10 a11 a12 : Int) : impl_SpreadOf_1.f 100 21 pws [a0, a1, a2, a3, a4, a5, a6, a7, a8, a9, a10, a11, a12] = some (wch [a0, a1, a2, a3, a4, a5, a6, a7, a8, a9, a10, a11, a12] (sidx 21)) := by kernel_rfl
theorem iSpread_22 (a0 a1 a2 a3 a4 a5 a6 a7 a8 a9 a10 a11 a12 : Int) : impl_SpreadOf_1.f 100 22 pws [a0, a1, a2, a3, a4, a5, a6, a7, a8, a9, a10, a11, a12] = some (wch [a0, a1, a2, a3, a4, a5, a6, a7, a8, a9, a10, a11, a12] (sidx 22)) := by kernel_rfl
theorem iSpread_23 (a0 a1 a2 a3 a4 a5 a6 a7 a8 a9 a10 a11 a12 : Int) : impl_SpreadOf_1.f 100 23 pws [a0, a1, a2, a3, a4, a5, a6, a7, a8, a9, a10, a11, a12] = some (wch [a0, a1, a2, a3, a4, a5, a6, a7, a8, a9, a10, a11, a12] (sidx 23)) := by kernel_rfl
theorem iSpread_24 (a0 a1 a2 a3 a4 a5 a6 a7 a8 a9 a10 a11 a12 : Int) : impl_SpreadOf_1.f 100 24 pws [a0, a1, a2, a3, a4, a5, a6, a7, a8, a9, a10, a11, a12] = some (wch [a0, a1, a2, a3, a4, a5, a6, a7, a8, a9, a10, a11, a12] (sidx 24)) := by kernel_rfl
theorem ev_iSpread_1 (v : List Int) (h : v.length = 13) (hv : InB v 1000) : ∀ n : Nat, 1 ≤ n → n ≤ 24 → Ev (fun k => impl_SpreadOf_1.f k (n : Int) pws v) (pv v (sidx n)) := by
  intro n n1 n2
  rw [← wch_pv hv (sidx n) (Nat.le_trans (sidx_len n (by omega)) (by omega))]
  obtain ⟨a0, a1, a2, a3, a4, a5, a6, a7, a8, a9, a10, a11, a12, rfl⟩ := thirteen h
  have : n = 1 ∨ n = 2 ∨ n = 3 ∨ n = 4 ∨ n = 5 ∨ n = 6 ∨ n = 7 ∨ n = 8 ∨ n = 9 ∨ n = 10 ∨ n = 11 ∨ n = 12 ∨ n = 13 ∨ n = 14 ∨ n = 15 ∨ n = 16 ∨ n = 17 ∨ n = 18 ∨ n = 19 ∨ n = 20 ∨ n = 21 ∨ n = 22 ∨ n = 23 ∨ n = 24 := by omega
  rcases this with rfl | rfl | rfl | rfl | rfl | rfl | rfl | rfl | rfl | rfl | rfl | rfl | rfl | rfl | rfl | rfl | rfl | rfl | rfl | rfl | rfl | rfl | rfl | rfl
  · exact Ev.of (fun k => impl_SpreadOf_1.mono _ _ _ k) (iSpread_1 a0 a1 a2 a3 a4 a5 a6 a7 a8 a9 a10 a11 a12)
  · exact Ev.of (fun k => impl_SpreadOf_1.mono _ _ _ k) (iSpread_2 a0 a1 a2 a3 a4 a5 a6 a7 a8 a9 a10 a11 a12)
  · exact Ev.of (fun k => impl_SpreadOf_1.mono _ _ _ k) (iSpread_3 a0 a1 a2 a3 a4 a5 a6 a7 a8 a9 a10 a11 a12)
  · exact Ev.of (fun k => impl_SpreadOf_1.mono _ _ _ k) (iSpread_4 a0 a1 a2 a3 a4 a5 a6 a7 a8 a9 a10 a11 a12)
  · exact Ev.of (fun k => impl_SpreadOf_1.mono _ _ _ k) (iSpread_5 a0 a1 a2 a3 a4 a5 a6 a7 a8 a9 a10 a11 a12)
  · exact Ev.of (fun k => impl_SpreadOf_1.mono _ _ _ k) (iSpread_6 a0 a1 a2 a3 a4 a5 a6 a7 a8 a9 a10 a11 a12)
  · exact Ev.of (fun k => impl_SpreadOf_1.mono _ _ _ k) (iSpread_7 a0 a1 a2 a3 a4 a5 a6 a7 a8 a9 a10 a11 a12)
  · exact Ev.of (fun k => impl_SpreadOf_1.mono _ _ _ k) (iSpread_8 a0 a1 a2 a3 a4 a5 a6 a7 a8 a9 a10 a11 a12)
  · exact Ev.of (fun k => impl_SpreadOf_1.mono _ _ _ k) (iSpread_9 a0 a1 a2 a3 a4 a5 a6 a7 a8 a9 a10 a11 a12)
  · exact Ev.of (fun k => impl_SpreadOf_1.mono _ _ _ k) (iSpread_10 a0 a1 a2 a3 a4 a5 a6 a7 a8 a9 a10 a11 a12)
  · exact Ev.of (fun k => impl_SpreadOf_1.mono _ _ _ k) (iSpread_11 a0 a1 a2 a3 a4 a5 a6 a7 a8 a9 a10 a11 a12)
  · exact Ev.of (fun k => impl_SpreadOf_1.mono _ _ _ k) (iSpread_12 a0 a1 a2 a3 a4 a5 a6 a7 a8 a9 a10 a11 a12)
  · exact Ev.of (fun k => impl_SpreadOf_1.mono _ _ _ k) (iSpread_13 a0 a1 a2 a3 a4 a5 a6 a7 a8 a9 a10 a11 a12)
  · exact Ev.of (fun k => impl_SpreadOf_1.mono _ _ _ k) (iSpread_14 a0 a1 a2 a3 a4 a5 a6 a7 a8 a9 a10 a11 a12)
  · exact Ev.of (fun k => impl_SpreadOf_1.mono _ _ _ k) (iSpread_15 a0 a1 a2 a3 a4 a5 a6 a7 a8 a9 a10 a11 a12)
  · exact Ev.of (fun k => impl_SpreadOf_1.mono _ _ _ k) (iSpread_16 a0 a1 a2 a3 a4 a5 a6 a7 a8 a9 a10 a11 a12)
  · exact Ev.of (fun k => impl_SpreadOf_1.mono _ _ _ k) (iSpread_17 a0 a1 a2 a3 a4 a5 a6 a7 a8 a9 a10 a11 a12)
  · exact Ev.of (fun k => impl_SpreadOf_1.mono _ _ _ k) (iSpread_18 a0 a1 a2 a3 a4 a5 a6 a7 a8 a9 a10 a11 a12)
  · exact Ev.of (fun k => impl_SpreadOf_1.mono _ _ _ k) (iSpread_19 a0 a1 a2 a3 a4 a5 a6 a7 a8 a9 a10 a11 a12)
  · exact Ev.of (fun k => impl_SpreadOf_1.mono _ _ _ k) (iSpread_20 a0 a1 a2 a3 a4 a5 a6 a7 a8 a9 a10 a11 a12)
  · exact Ev.of (fun k => impl_SpreadOf_1.mono _ _ _ k) (iSpread_21 a0 a1 a2 a3 a4 a5 a6 a7 a8 a9 a10 a11 a12)
  · exact Ev.of (fun k => impl_SpreadOf_1.mono _ _ _ k) (iSpread_22 a0 a1 a2 a3 a4 a5 a6 a7 a8 a9 a10 a11 a12)
  · exact Ev.of (fun k => impl_SpreadOf_1.mono _ _ _ k) (iSpread_23 a0 a1 a2 a3 a4 a5 a6 a7 a8 a9 a10 a11 a12)
  · exact Ev.of (fun k => impl_SpreadOf_1.mono _ _ _ k) (iSpread_24 a0 a1 a2 a3 a4 a5 a6 a7 a8 a9 a10 a11 a12)
theorem ev_iSpread (v : List Int) (hl : v.length ≤ 1000000000000000) : Ev (fun k => impl_SpreadOf.f k v) (spreadR v) := by
  unfold impl_SpreadOf.f
  refine Ev.bind ev_pws ?_
  have lp : (pws.length : Int) = 13 := rfl
  by_cases h : v.length = 13
  · have c : (v.length : Int) = 13 := by omega
    simp only [lp, if_pos c]
    refine Ev.bind (ev_listWithin v 1000 (by omega) hl) ?_
    by_cases h2 : InB v 1000
    · simp only [decide_eq_true h2, if_true]
      refine Ev.bind (Ev.to (ev_rowBy _ (fun n => pv v (sidx n)) (fun n n1 n2 => ev_iSpread_1 v h h2 n n1 n2)) (show rowOf _ = spread v from rfl)) ?_
      exact Ev.ret (by unfold spreadR; rw [if_pos ⟨h, h2⟩])
    · simp only [decide_eq_false h2, Bool.false_eq_true, if_false]
      exact Ev.ret (by unfold spreadR; rw [if_neg (fun x => h2 x.2)])
  · have c : ¬ (v.length : Int) = 13 := by omega
    simp only [lp, if_neg c]
    exact Ev.ret (by unfold spreadR; rw [if_neg (fun x => h x.1)])

theorem ev_gcd_l (b : Nat) : ∀ a : Nat, Ev (fun k => impl_gcd.l0 k (a : Int) (b : Int)) ((Nat.gcd a b : Nat) : Int) := by
  induction b using Nat.strongRecOn with
  | _ b ih =>
    intro a
    refine Ev.step (fun k => by rw [impl_gcd.l0]) ?_
    by_cases hb : b = 0
    · subst hb
      simp only [Int.natCast_zero, if_true]
      exact Ev.ret (by simp)
    · have h0 : ¬ (b : Int) = 0 := by omega
      simp only [if_neg h0, ← Int.ofNat_tmod]
      refine Ev.to (ih (a % b) (Nat.mod_lt _ (by omega)) b) ?_
      rw [Nat.gcd_comm a b, Nat.gcd_rec b a, Nat.gcd_comm]
theorem ev_gcd (a b : Nat) : Ev (fun k => impl_gcd.f k (a : Int) (b : Int)) ((Nat.gcd a b : Nat) : Int) := by
  unfold impl_gcd.f; exact ev_gcd_l b a

theorem ev_products_l1 {f : List Int} (hf : InB f 1000000000) (hl : f.length = 24) (all : Bool) (r : Bool) (hr : r = true ↔ Mult all f) (x : Nat) (hx : 1 ≤ x ∧ x ≤ 24)
    (hN : MultTo all f (x + 1) 1 → Ev (fun k => impl_productsOk.l0 k f all ((x + 1 : Nat) : Int)) r) : ∀ (m y : Nat), y + m = 25 → 1 ≤ y → MultTo all f x y →
    Ev (fun k => impl_productsOk.l1 k f all (x : Int) (y : Int)) r := by
  intro m
  induction m with
  | zero =>
    intro y hy h1 hI
    have hb : 1 * 25 ≤ x * y := Nat.mul_le_mul hx.1 (by omega)
    have hb2 : x * y ≤ 24 * 25 := Nat.mul_le_mul hx.2 (by omega)
    refine Ev.step (fun k => by rw [impl_productsOk.l1]) ?_
    have e : (x : Int) * (y : Int) = ((x * y : Nat) : Int) := by simp
    have c : ¬ ((x * y : Nat) : Int) ≤ 24 := by omega
    simp only [e, w64 (x := ((x * y : Nat) : Int)) (by omega), if_neg c, w64 (x := (x : Int) + 1) (by omega)]
    exact hN (hI.next (by omega))
  | succ m ih =>
    intro y hy h1 hI
    have hb2 : x * y ≤ 24 * 25 := Nat.mul_le_mul hx.2 (by omega)
    have hb1 : 1 * 1 ≤ x * y := Nat.mul_le_mul hx.1 h1
    refine Ev.step (fun k => by rw [impl_productsOk.l1]) ?_
    have e : (x : Int) * (y : Int) = ((x * y : Nat) : Int) := by simp
    by_cases hc : x * y ≤ 24
    · have c : ((x * y : Nat) : Int) ≤ 24 := by omega
      have c1 : 0 ≤ ((x * y : Nat) : Int) - 1 := by omega
      have c2 : ((x * y : Nat) : Int) - 1 < (f.length : Int) := by omega
      have c3 : 0 ≤ (x : Int) - 1 := by omega
      have c4 : (x : Int) - 1 < (f.length : Int) := by omega
      have c5 : 0 ≤ (y : Int) - 1 := by omega
      have c6 : (y : Int) - 1 < (f.length : Int) := by omega
      simp only [e, w64 (x := ((x * y : Nat) : Int)) (by omega), w64 (x := ((x * y : Nat) : Int) - 1) (by omega), w64 (x := (x : Int) - 1) (by omega), w64 (x := (y : Int) - 1) (by omega), w64 (x := (y : Int) + 1) (by omega),
        if_pos c, if_pos c1, if_pos c2, if_pos c3, if_pos c4, if_pos c5, if_pos c6, rd_at f (x * y) (by omega), rd_at f x (by omega), rd_at f y (by omega), w64_prod hf]
      have yes : (At f (x * y) = At f x * At f y ∨ ¬ (all = true ∨ Nat.gcd x y = 1)) → Ev (fun k => impl_productsOk.l1 k f all (x : Int) ((y : Int) + 1)) r := fun h =>
        ih (y + 1) (by omega) (by omega) (hI.step (fun _ h2 => h.elim id (fun h3 => absurd h2 h3)))
      have no : ¬ At f (x * y) = At f x * At f y → (all = true ∨ Nat.gcd x y = 1) → Ev (fun _ => some false) r := fun h h2 => Ev.ret (by
        cases r with
        | false => rfl
        | true => exact absurd ((hr.1 rfl).2 x y hx.1 h1 hc h2) h)
      cases all with
      | true =>
        simp only [if_true]
        by_cases t : At f (x * y) = At f x * At f y
        · simp only [if_pos t]; exact yes (Or.inl t)
        · simp only [if_neg t]; exact no t (Or.inl rfl)
      | false =>
        simp only [Bool.false_eq_true, if_false]
        refine Ev.bind (ev_gcd x y) ?_
        by_cases g : Nat.gcd x y = 1
        · have g' : ((Nat.gcd x y : Nat) : Int) = 1 := by omega
          simp only [if_pos g']
          by_cases t : At f (x * y) = At f x * At f y
          · simp only [if_pos t]; exact yes (Or.inl t)
          · simp only [if_neg t]; exact no t (Or.inr g)
        · have g' : ¬ ((Nat.gcd x y : Nat) : Int) = 1 := by omega
          simp only [if_neg g']
          exact yes (Or.inr (fun h => h.elim (by simp) g))
    · have c : ¬ ((x * y : Nat) : Int) ≤ 24 := by omega
      simp only [e, w64 (x := ((x * y : Nat) : Int)) (by omega), if_neg c, w64 (x := (x : Int) + 1) (by omega)]
      exact hN (hI.next (by omega))
theorem ev_products_l0 {f : List Int} (hf : InB f 1000000000) (hl : f.length = 24) (all : Bool) (r : Bool) (hr : r = true ↔ Mult all f) : ∀ (m x : Nat), x + m = 25 → 1 ≤ x → MultTo all f x 1 →
    Ev (fun k => impl_productsOk.l0 k f all (x : Int)) r := by
  intro m
  induction m with
  | zero =>
    intro x hx h1 hI
    refine Ev.step (fun k => by rw [impl_productsOk.l0]) ?_
    have c : ¬ (x : Int) ≤ 24 := by omega
    have c1 : 0 < (f.length : Int) := by omega
    simp only [if_neg c, if_pos c1, rd_at0]
    refine Ev.ret ?_
    rw [Bool.eq_iff_iff, hr, beq_iff_eq]
    constructor
    · intro e; refine ⟨e, fun a b ha hb hab hg => hI a b (Or.inl ?_) ha hb hab hg⟩
      have := Nat.mul_le_mul_left a hb; omega
    · exact fun h => h.1
  | succ m ih =>
    intro x hx h1 hI
    refine Ev.step (fun k => by rw [impl_productsOk.l0]) ?_
    have c : (x : Int) ≤ 24 := by omega
    simp only [if_pos c]
    exact ev_products_l1 hf hl all r hr x (by omega) (fun h => ih (x + 1) (by omega) (by omega) h) 24 1 (by omega) (by omega) hI
theorem ev_products {f : List Int} (hf : InB f 1000000000) (hl : f.length = 24) (all : Bool) (r : Bool) (hr : r = true ↔ Mult all f) : Ev (fun k => impl_productsOk.f k f all) r := by
  unfold impl_productsOk.f
  exact ev_products_l0 hf hl all r hr 24 1 (by omega) (by omega) (fun a b h h1 h2 => by omega)

theorem ev_MultOk (f : List Int) (hf : f.length ≤ 1000000000000000) (r : Bool) (hr : r = true ↔ (InB f 1000000000 ∧ f.length = 24) ∧ Mult false f) : Ev (fun k => impl_MultiplicativeOk.f k f) r := by
  unfold impl_MultiplicativeOk.f
  refine Ev.bind (ev_RowOk f hf) ?_
  by_cases h : InB f 1000000000 ∧ f.length = 24
  · simp only [decide_eq_true h, if_true]
    exact Ev.bind (ev_products h.1 h.2 false r (by rw [hr]; exact ⟨fun x => x.2, fun x => ⟨h, x⟩⟩)) (Ev.now _)
  · simp only [decide_eq_false h, Bool.false_eq_true, if_false]
    refine Ev.ret ?_
    cases r with
    | false => rfl
    | true => exact absurd (hr.1 rfl).1 h

theorem ev_sameInts_l (a b : List Int) (hl : a.length = b.length) (ha : a.length ≤ 1000000000000000) : ∀ (d i : Nat), i + d = a.length →
    Ev (fun k => laws_sameInts.l0 k a b (i : Int)) (decide (a.drop i = b.drop i)) := by
  intro d
  induction d with
  | zero =>
    intro i hi
    refine Ev.step (fun k => by rw [laws_sameInts.l0]) ?_
    have h1 : ¬ (i : Int) < (a.length : Int) := by omega
    simp only [if_neg h1]
    refine Ev.ret ?_
    rw [List.drop_eq_nil_of_le (by omega), List.drop_eq_nil_of_le (by omega)]; simp
  | succ d ih =>
    intro i hi
    refine Ev.step (fun k => by rw [laws_sameInts.l0]) ?_
    have h1 : (i : Int) < (a.length : Int) := by omega
    have h2 : (0 : Int) ≤ (i : Int) := by omega
    have h3 : (i : Int) < (b.length : Int) := by omega
    have ea := drop_step a i (by omega)
    have eb := drop_step b i (by omega)
    simp only [if_pos h1, if_pos h2, if_pos h3, rd_nat, w64 (x := (i : Int) + 1) (by omega)]
    by_cases e : a.getD i 0 = b.getD i 0
    · simp only [if_pos e]
      refine Ev.to (ih (i + 1) (by omega)) ?_
      rw [ea, eb, e]; simp
    · simp only [if_neg e]
      refine Ev.ret ?_
      rw [ea, eb]; simp only [List.cons.injEq, e, false_and, decide_false]
theorem ev_sameInts (a b : List Int) (ha : a.length ≤ 1000000000000000) : Ev (fun k => laws_sameInts.f k a b) (decide (a = b)) := by
  unfold laws_sameInts.f
  by_cases h : (a.length : Int) = (b.length : Int)
  · simp only [if_pos h]
    exact ev_sameInts_l a b (by omega) ha a.length 0 (by omega)
  · simp only [if_neg h]
    refine Ev.ret ?_
    symm; rw [decide_eq_false_iff_not]
    intro e; subst e; exact h rfl

theorem open_l (l : List Int) (h : ∀ x ∈ l, (Lit.int .u8 x).wf = true) : ∃ b, Bytes b ∧ spec_l20Open.f l = some (b, 0) := by
  unfold spec_l20Open.f
  by_cases c : (l.length : Int) > 2000
  · refine ⟨l.take 2000, ⟨by simp; omega, fun x hx => wf_u8 (h x (List.mem_of_mem_take hx))⟩, ?_⟩
    rw [if_pos c, if_pos (by omega)]
  · exact ⟨l, ⟨by omega, fun x hx => wf_u8 (h x hx)⟩, by rw [if_neg c]⟩

theorem numberOk_f (a : Int) : impl_numberOk.f a = some (decide (1 ≤ a ∧ a ≤ 10000)) := by
  unfold impl_numberOk.f
  by_cases h : a ≥ 1
  · rw [if_pos h]; simp [show 1 ≤ a from h]
  · rw [if_neg h]; simp [show ¬ 1 ≤ a from h]

theorem alive_f : laws_alive.f = some true := by
  unfold laws_alive.f impl_DividesOk.f
  simp only [numberOk_f, Option.bind_some]; simp

theorem FnSpreadOf : laws_FnSpreadOf.Pure := by
  intro l h1 h2 h3
  apply Ev.k
  unfold laws_FnSpreadOf.f
  by_cases hl : (l.length : Int) > 1048576
  · simp only [if_pos hl]; exact Ev.now _
  simp only [if_neg hl]
  obtain ⟨b, hb, eo⟩ := open_l l h3
  obtain ⟨v, hv, ev⟩ := ev_drawSpread_l hb 13 0 [] 0 (by omega) (by simp) (by omega)
  have ed : Ev (fun k => spec_DrawSpreadOf.f k l) v := by
    unfold spec_DrawSpreadOf.f
    simp only [eo, Option.bind_some]
    exact ev
  have z := spreadR_length v
  refine Ev.bind ed (Ev.bind (ev_iSpread v (by omega)) (Ev.bind (ev_sSpread v (by omega)) (Ev.bind (ev_sameInts (spreadR v).1 (spreadR v).1 (by omega)) ?_)))
  simp only [decide_true, if_true, bne_self_eq_false]
  refine Ev.step (fun k => by rw [laws_FnSpreadOf.j0]) ?_
  simp only [Bool.false_eq_true, if_false]
  by_cases h : (spreadR v).2 = true
  · have a := spreadR_told h
    have row : InB (spread v) 1000000000 ∧ (spread v).length = 24 := ⟨(spread_in a.1.2).mono (by omega), spread_length v⟩
    simp only [if_pos h, a.2]
    refine Ev.bind (ev_MultOk (spread v) (by omega) true ⟨fun _ => ⟨row, spread_mult v⟩, fun _ => rfl⟩) ?_
    simp only [if_true]
    refine Ev.bind (Ev.to (ev_AtPowers_yes (spread v) row) (atPows_spread a.1.1)) (Ev.bind (ev_sameInts v v (by omega)) ?_)
    simp only [decide_true]
    exact Ev.now _
  · simp only [if_neg h, spreadR_none h, List.length_nil, Int.natCast_zero, if_true, alive_f, Option.bind_some]
    exact Ev.now _

end Go.Proofs.Ytcnbiknoehcfnaa.Pure
namespace Go.Proofs.Ytcnbiknoehcfnaa.PrintWords
/-- The printed row's word, under the name by which that row calls it. -/
abbrev sized_ints := @Go.Proofs.YtcnbiknoehcfnaaW.PrintWords.sized_ints
end Go.Proofs.Ytcnbiknoehcfnaa.PrintWords
