/- The program and the reference tell the same of drawn numbers; the row that they make is fully multiplicative, and minus ones at the primes make the row of the name 7. -/
import Derived.Test.YtcnbiknoehcfnaaPFnFullOfx0
import Derived.Test.YtcnbiknoehcfnaaPFnFullOfx1
import Derived.Test.YtcnbiknoehcfnaaPFnFullOfx2
import Derived.Test.YtcnbiknoehcfnaaPFnFullOfx3
import Derived.Test.YtcnbiknoehcfnaaPFnFullOfx4
import Derived.Test.YtcnbiknoehcfnaaPFnFullOfx5
import Derived.Test.YtcnbiknoehcfnaaPFnFullOfx6
import Derived.Test.YtcnbiknoehcfnaaPFnFullOfx7
import Derived.Test.YtcnbiknoehcfnaaM1
import Derived.Test.YtcnbiknoehcfnaaM2
import Derived.Test.YtcnbiknoehcfnaaM3
import Derived.Test.YtcnbiknoehcfnaaWSized
namespace Go.Proofs.Ytcnbiknoehcfnaa.Pure
open Go.RowKit Go.Proofs.Ytcnbiknoehcfnaa.PFnFullOf Go.Proofs.YtcnbiknoehcfnaaW.PrintWords Go.Proofs.YtcnbiknoehcfnaaW.PrintLast Go.Proofs.YtcnbiknoehcfnaaW.PrintMore Go.Proofs.Ytcnbiknoehcfnaa.Math
set_option linter.unusedVariables false
set_option linter.unusedSimpArgs false
theorem w64 {x : Int} (h : -9223372036854775808 ≤ x ∧ x ≤ 9223372036854775807) : wrap64 x = x := by unfold wrap64; omega
theorem Ev.k {α : Type} {g : Nat → Option α} {r : α} (h : Ev g r) : ∃ k, g k = some r := Ev.rounds h
theorem Ev.to {α : Type} {g : Nat → Option α} {r s : α} (h : Ev g r) (e : r = s) : Ev g s := e ▸ h
theorem Ev.ret {α : Type} {r s : α} (e : r = s) : Ev (fun _ => some r) s := e ▸ Ev.now r

theorem wf_u8 {x : Int} (h : (Lit.int .u8 x).wf = true) : 0 ≤ x ∧ x ≤ 255 := by
  simp [Lit.wf, IntKind.wrap, IntKind.bits, IntKind.signed, IntKind.min, IntKind.max] at h; omega
theorem wf_i64 {x : Int} (h : (Lit.int .i64 x).wf = true) : -9223372036854775808 ≤ x ∧ x ≤ 9223372036854775807 := by
  simp [Lit.wf, IntKind.wrap, IntKind.bits, IntKind.signed, IntKind.min, IntKind.max] at h; omega
theorem xor_nonneg (x y : Int) (h0 : 0 ≤ x) (h1 : x < 4611686018427387904) (h2 : 0 ≤ y) (h3 : y < 4611686018427387904) : 0 ≤ Go.bits .xor .i64 x y := by
  obtain ⟨a, rfl⟩ := Int.eq_ofNat_of_zero_le h0
  obtain ⟨b, rfl⟩ := Int.eq_ofNat_of_zero_le h2
  have ha : a < 2 ^ 62 := by omega
  have hb : b < 2 ^ 62 := by omega
  have hx := Nat.xor_lt_two_pow ha hb
  have ha' : a % 2 ^ 64 = a := Nat.mod_eq_of_lt (by omega)
  have hb' : b % 2 ^ 64 = b := Nat.mod_eq_of_lt (by omega)
  have e : Go.bits .xor .i64 ((a : Nat) : Int) ((b : Nat) : Int) = IntKind.i64.wrap ((a ^^^ b : Nat) : Int) := by
    simp only [Go.bits, IntKind.bits, BitVec.ofInt_natCast]
    show IntKind.i64.wrap (((BitVec.ofNat 64 a ^^^ BitVec.ofNat 64 b).toNat : Nat) : Int) = _
    rw [BitVec.toNat_xor, BitVec.toNat_ofNat, BitVec.toNat_ofNat, ha', hb']
  rw [e]
  simp only [IntKind.wrap, IntKind.bits, IntKind.signed]
  simp
  omega
/-- The bytes of a draw. -/
def Bytes (b : List Int) : Prop := b.length ≤ 2000 ∧ ∀ x ∈ b, 0 ≤ x ∧ x ≤ 255
theorem Bytes.rd {b : List Int} (hb : Bytes b) (i : Int) : 0 ≤ rd b i ∧ rd b i ≤ 255 := by
  show 0 ≤ b.getD i.toNat 0 ∧ b.getD i.toNat 0 ≤ 255
  rw [List.getD_eq_getElem?_getD]
  by_cases h : i.toNat < b.length
  · rw [List.getElem?_eq_getElem h]; exact hb.2 _ (List.getElem_mem _)
  · rw [List.getElem?_eq_none (by omega)]; simp
theorem ev_pick {b : List Int} (hb : Bytes b) (p n : Int) (hp : 0 ≤ p ∧ p ≤ 1000000) (hn : 1 ≤ n ∧ n ≤ 1000000000000) :
    ∃ r, (0 ≤ r ∧ r < n) ∧ Ev (fun k => spec_l20Rd_pick.f k b p n) (r, p + 1) := by
  have g0 : ¬ n < 1 := by omega
  unfold spec_l20Rd_pick.f
  simp only [if_neg g0, w64 (x := p + 1) (by omega)]
  have e1 : p + 1 - 1 = p := by omega
  by_cases h0 : (b.length : Int) = 0
  · refine ⟨0, by omega, Ev.step (fun k => by rw [spec_l20Rd_pick.j0]) ?_⟩
    simp only [h0, beq_self_eq_true, if_true]; exact Ev.now _
  have hl := hb.1
  have n0 : ¬ n = 0 := by omega
  by_cases h1 : p < (b.length : Int)
  · have hr := hb.rd p
    refine ⟨Int.tmod (rd b p) n, ?_, Ev.step (fun k => by rw [spec_l20Rd_pick.j0]) ?_⟩
    · rw [Int.tmod_eq_emod_of_nonneg hr.1]; exact ⟨Int.emod_nonneg _ n0, Int.emod_lt_of_pos _ (by omega)⟩
    · simp only [e1, w64 (x := p) (by omega), beq_eq_false_iff_ne.2 h0, Bool.false_eq_true, if_false, if_pos h1, if_pos hp.1, if_neg n0, w64 (x := rd b p) (by omega)]
      exact Ev.now _
  · have L0 : (0 : Int) < (b.length : Int) := by omega
    have m1 : Int.tmod p (b.length : Int) = p % (b.length : Int) := Int.tmod_eq_emod_of_nonneg hp.1
    have m2 : Int.tmod (p * 7 + 3) (b.length : Int) = (p * 7 + 3) % (b.length : Int) := Int.tmod_eq_emod_of_nonneg (by omega)
    have q1 : Int.tdiv p (b.length : Int) = p / (b.length : Int) := Int.tdiv_eq_ediv_of_nonneg hp.1
    have a1 := Int.emod_nonneg p (show (b.length : Int) ≠ 0 from h0)
    have a2 := Int.emod_lt_of_pos p L0
    have a3 := Int.emod_nonneg (p * 7 + 3) (show (b.length : Int) ≠ 0 from h0)
    have a4 := Int.emod_lt_of_pos (p * 7 + 3) L0
    have a5 : 0 ≤ p / (b.length : Int) := Int.ediv_nonneg hp.1 (by omega)
    have a6 : p / (b.length : Int) ≤ p := Int.ediv_le_self _ hp.1
    have u := hb.rd (p % (b.length : Int))
    have v := hb.rd ((p * 7 + 3) % (b.length : Int))
    generalize hU : rd b (p % (b.length : Int)) = U at *
    generalize hV : rd b ((p * 7 + 3) % (b.length : Int)) = V at *
    generalize hQ : p / (b.length : Int) = Q at *
    generalize hM : p % (b.length : Int) = M at *
    generalize hM2 : (p * 7 + 3) % (b.length : Int) = M2 at *
    generalize hX : U * 131 + V * 1117 + p * 29 + Q * 53 = X at *
    have x0 : 0 ≤ X := by omega
    have x1 : X ≤ 1000000000000 := by omega
    have d1 : Int.tdiv X 64 = X / 64 := Int.tdiv_eq_ediv_of_nonneg x0
    have y := xor_nonneg X (X / 64) x0 (by omega) (by omega) (by omega)
    refine ⟨Int.tmod (Go.bits .xor .i64 X (X / 64)) n, ?_, Ev.step (fun k => by rw [spec_l20Rd_pick.j0]) ?_⟩
    · rw [Int.tmod_eq_emod_of_nonneg y]; exact ⟨Int.emod_nonneg _ n0, Int.emod_lt_of_pos _ (by omega)⟩
    · simp only [e1, w64 (x := p) (by omega), w64 (x := p * 7) (by omega), w64 (x := p * 7 + 3) (by omega), beq_eq_false_iff_ne.2 h0, Bool.false_eq_true, if_false, if_neg h1, if_neg h0, m1, m2, q1, if_pos a1, if_pos a2, if_pos a3, if_pos a4, if_neg n0, hU, hV, w64 (x := U) (by omega), w64 (x := V) (by omega), w64 (x := U * 131) (by omega), w64 (x := V * 1117) (by omega), w64 (x := U * 131 + V * 1117) (by omega), w64 (x := p * 29) (by omega), w64 (x := U * 131 + V * 1117 + p * 29) (by omega), w64 (x := Q) (by omega), w64 (x := Q * 53) (by omega), hX, w64 (x := X) (by omega), d1, w64 (x := X / 64) (by omega)]
      exact Ev.now _

theorem ev_odd {b : List Int} (hb : Bytes b) (p n : Int) (hp : 0 ≤ p ∧ p ≤ 1000000) (hn : 1 ≤ n ∧ n ≤ 1000000) :
    ∃ r, Ev (fun k => spec_l20Rd_odd.f k b p n) (r, p + 1) := by
  obtain ⟨r, hr, e⟩ := ev_pick hb p n hp (by omega)
  unfold spec_l20Rd_odd.f
  have c : n > 0 := by omega
  simp only [gt_iff_lt, if_pos (show 0 < n from c)]
  exact ⟨_, Ev.bind e (Ev.now _)⟩

theorem ev_drawFull_l {b : List Int} (hb : Bytes b) : ∀ (m i : Nat) (x : List Int) (p : Int), i + m = 9 → x.length = i → (0 ≤ p ∧ p ≤ 1000 + 2 * i) →
    ∃ v, v.length ≤ 10 ∧ Ev (fun k => spec_DrawFullOf.l0 k x (i : Int) b p) v := by
  intro m
  induction m with
  | zero =>
    intro i x p hi hx hp
    obtain ⟨o, eo⟩ := ev_odd hb p 14 (by omega) (by omega)
    have c : ¬ (i : Int) < 9 := by omega
    have l : x.length < 17592186044416 := by omega
    cases o with
    | true =>
      refine ⟨x ++ [1], by rw [List.length_append, List.length_singleton]; omega, Ev.step (fun k => by rw [spec_DrawFullOf.l0]) ?_⟩
      simp only [if_neg c]
      refine Ev.bind eo ?_
      simp only [if_true, if_pos l]; exact Ev.now _
    | false =>
      refine ⟨x, by omega, Ev.step (fun k => by rw [spec_DrawFullOf.l0]) ?_⟩
      simp only [if_neg c]
      refine Ev.bind eo ?_
      simp only [Bool.false_eq_true, if_false]; exact Ev.now _
  | succ m ih =>
    intro i x p hi hx hp
    obtain ⟨r, hr, er⟩ := ev_pick hb p 7 (by omega) (by omega)
    obtain ⟨s, hs, es⟩ := ev_pick hb (p + 1) 60 (by omega) (by omega)
    obtain ⟨v, hv, e⟩ := ih (i + 1) (x ++ [wrap64 ((wrap64 (r - 3)) + (wrap64 ((wrap64 (Int.tdiv s 59)) * 20)))]) (p + 1 + 1) (by omega) (by rw [List.length_append, List.length_singleton, hx]) (by omega)
    refine ⟨v, hv, Ev.step (fun k => by rw [spec_DrawFullOf.l0]) ?_⟩
    have c : (i : Int) < 9 := by omega
    have l : x.length < 17592186044416 := by omega
    simp only [if_pos c, w64 (x := (i : Int) + 1) (by omega)]
    refine Ev.bind er (Ev.bind es ?_)
    simp only [if_pos l]
    exact e

theorem rd_nat (xs : List Int) (i : Nat) : rd xs (i : Int) = xs.getD i 0 := rfl
theorem drop_step (f : List Int) (i : Nat) (h : i < f.length) : f.drop i = f.getD i 0 :: f.drop (i + 1) := by
  rw [List.drop_eq_getElem_cons h]; simp [List.getD_eq_getElem?_getD, List.getElem?_eq_getElem h]
def InB (f : List Int) (m : Int) : Prop := ∀ x ∈ f, -m ≤ x ∧ x ≤ m
instance (f : List Int) (m : Int) : Decidable (InB f m) := by unfold InB; infer_instance
theorem InB_cons (x : Int) (f : List Int) (m : Int) : InB (x :: f) m ↔ (-m ≤ x ∧ x ≤ m) ∧ InB f m := by
  unfold InB; simp
theorem InB_nil (m : Int) : InB [] m := fun x h => by cases h
theorem InB.mono {f : List Int} {m n : Int} (h : InB f m) (hmn : m ≤ n) : InB f n := fun x hx => by have := h x hx; omega

/-- What a row is at a number. -/
def At (f : List Int) (n : Nat) : Int := f.getD (n - 1) 0
theorem rd_at (f : List Int) (n : Nat) (h : 1 ≤ n) : rd f ((n : Int) - 1) = At f n := by
  rw [show (n : Int) - 1 = ((n - 1 : Nat) : Int) by omega]; rfl
theorem rd_at0 (f : List Int) : rd f 0 = At f 1 := rfl
theorem InB.at {f : List Int} {m : Int} (h : InB f m) (hm : 0 ≤ m) (n : Nat) : -m ≤ At f n ∧ At f n ≤ m := by
  unfold At; rw [List.getD_eq_getElem?_getD]
  by_cases c : n - 1 < f.length
  · rw [List.getElem?_eq_getElem c]; exact h _ (List.getElem_mem _)
  · rw [List.getElem?_eq_none (by omega)]; simp; omega
theorem mul_in {x y B : Int} (hx : -B ≤ x ∧ x ≤ B) (hy : -B ≤ y ∧ y ≤ B) (hB : 0 ≤ B) : -(B * B) ≤ x * y ∧ x * y ≤ B * B := by
  have h1 : x.natAbs ≤ B.toNat := by omega
  have h2 : y.natAbs ≤ B.toNat := by omega
  have h3 := Nat.mul_le_mul h1 h2
  rw [← Int.natAbs_mul] at h3
  have h4 : ((B.toNat * B.toNat : Nat) : Int) = B * B := by rw [Int.natCast_mul, Int.toNat_of_nonneg hB]
  omega
theorem w64_prod {f : List Int} (h : InB f 1000000000) (a b : Nat) : wrap64 (At f a * At f b) = At f a * At f b := by
  have := mul_in (h.at (by omega) a) (h.at (by omega) b) (by omega)
  exact w64 (by omega)
/-- A row is 1 at 1, and at each product of two numbers (that are apart, or all) the product. -/
def Mult (all : Bool) (f : List Int) : Prop := At f 1 = 1 ∧ ∀ a b, 1 ≤ a → 1 ≤ b → a * b ≤ 24 → (all = true ∨ Nat.gcd a b = 1) → At f (a * b) = At f a * At f b
/-- It is so at all pairs before one. -/
def MultTo (all : Bool) (f : List Int) (x y : Nat) : Prop := ∀ a b, (a < x ∨ a = x ∧ b < y) → 1 ≤ a → 1 ≤ b → a * b ≤ 24 → (all = true ∨ Nat.gcd a b = 1) → At f (a * b) = At f a * At f b
theorem MultTo.step {all : Bool} {f : List Int} {x y : Nat} (h : MultTo all f x y) (e : x * y ≤ 24 → (all = true ∨ Nat.gcd x y = 1) → At f (x * y) = At f x * At f y) : MultTo all f x (y + 1) := by
  intro a b hab h1 h2 h3 h4
  by_cases c : a = x ∧ b = y
  · obtain ⟨rfl, rfl⟩ := c; exact e h3 h4
  · exact h a b (by omega) h1 h2 h3 h4
theorem MultTo.next {all : Bool} {f : List Int} {x y : Nat} (h : MultTo all f x y) (hy : 24 < x * y) : MultTo all f (x + 1) 1 := by
  intro a b hab h1 h2 h3 h4
  refine h a b ?_ h1 h2 h3 h4
  by_cases c : a < x
  · exact Or.inl c
  · have e : a = x := by omega
    subst e
    refine Or.inr ⟨rfl, Nat.lt_of_not_le (fun hle => ?_)⟩
    have := Nat.mul_le_mul_left a hle; omega

/-- The primes up to 24. -/
def prms : List Int := [2, 3, 5, 7, 11, 13, 17, 19, 23]
/-- The places of a number's primes, in ascending order, each as often as it divides the number. -/
def fidx (n : Nat) : List Nat := ([[], [], [0], [1], [0, 0], [2], [0, 1], [3], [0, 0, 0], [1, 1], [0, 2], [4], [0, 0, 1], [5], [0, 3], [1, 2], [0, 0, 0, 0], [6], [0, 1, 1], [7], [0, 0, 2], [1, 3], [0, 4], [8], [0, 0, 0, 1]] : List (List Nat)).getD n []
def pv (v : List Int) (l : List Nat) : Int := l.foldr (fun i x => v.getD i 0 * x) 1
def wch (v : List Int) (l : List Nat) : Int := l.foldl (fun x i => wrap64 (x * v.getD i 0)) 1
theorem getD_in {v : List Int} {B : Int} (h : InB v B) (hB : 0 ≤ B) (i : Nat) : -B ≤ v.getD i 0 ∧ v.getD i 0 ≤ B := by
  rw [List.getD_eq_getElem?_getD]
  by_cases c : i < v.length
  · rw [List.getElem?_eq_getElem c]; exact h _ (List.getElem_mem _)
  · rw [List.getElem?_eq_none (by omega)]; simp; omega
theorem wch_go {v : List Int} (h : InB v 1000) : ∀ (l : List Nat) (a : Nat) (x : Int), a + l.length ≤ 6 → x.natAbs ≤ 1000 ^ a → l.foldl (fun x i => wrap64 (x * v.getD i 0)) x = x * pv v l := by
  intro l
  induction l with
  | nil => intro a x _ _; show x = x * 1; omega
  | cons i t ih =>
    intro a x ha hx
    have b := getD_in h (by omega) i
    have m : (x * v.getD i 0).natAbs ≤ 1000 ^ (a + 1) := by
      rw [Int.natAbs_mul, Nat.pow_succ]
      exact Nat.mul_le_mul hx (by omega)
    have m2 : 1000 ^ (a + 1) ≤ 1000 ^ 6 := Nat.pow_le_pow_right (by omega) (by simp at ha; omega)
    have m3 : (1000 : Nat) ^ 6 = 1000000000000000000 := by decide
    rw [List.foldl_cons, w64 (by omega), ih (a + 1) _ (by simp at ha; omega) m]
    show x * v.getD i 0 * pv v t = x * (v.getD i 0 * pv v t)
    rw [Int.mul_assoc]
theorem wch_pv {v : List Int} (h : InB v 1000) (l : List Nat) (hl : l.length ≤ 5) : wch v l = pv v l := by
  have := wch_go h l 0 1 (by omega) (by decide)
  rw [Int.one_mul] at this
  exact this
theorem pv_in {v : List Int} {B : Nat} (h : InB v B) : ∀ l : List Nat, (pv v l).natAbs ≤ B ^ l.length := by
  intro l
  induction l with
  | nil => exact Nat.le_refl 1
  | cons i t ih =>
    have b := getD_in h (by omega) i
    show (v.getD i 0 * pv v t).natAbs ≤ B ^ (t.length + 1)
    rw [Int.natAbs_mul, Nat.pow_succ, Nat.mul_comm]
    exact Nat.mul_le_mul ih (by omega)
/-- The fully multiplicative row that is at the primes as told. -/
def full (v : List Int) : List Int := (List.range 24).map (fun i => pv v (fidx (i + 1)))
theorem full_length (v : List Int) : (full v).length = 24 := by simp [full]
theorem At_full (v : List Int) (n : Nat) (h : 1 ≤ n ∧ n ≤ 24) : At (full v) n = pv v (fidx n) := by
  unfold full
  conv => lhs; unfold At
  rw [List.getD_eq_getElem?_getD, List.getElem?_map, List.getElem?_range (by omega)]
  simp only [Option.map_some, Option.getD_some]
  rw [show n - 1 + 1 = n by omega]
/-- What FullOf tells. -/
def fullR (v : List Int) : List Int × Bool := if v.length = 9 ∧ InB v 9 then (full v, true) else ([], false)
theorem fullR_length (v : List Int) : (fullR v).1.length ≤ 24 := by
  unfold fullR; split
  · exact Nat.le_of_eq (full_length v)
  · simp
theorem fidx_len : ∀ n, n < 25 → (fidx n).length ≤ 5 := by decide
theorem nine {v : List Int} (h : v.length = 9) : ∃ a b c d e f g i j : Int, v = [a, b, c, d, e, f, g, i, j] := by
  match v, h with
  | [a, b, c, d, e, f, g, i, j], _ => exact ⟨a, b, c, d, e, f, g, i, j, rfl⟩

/-- One term of a product over divisors. -/
def term (f g : List Int) (n d : Nat) : Int := At f d * At g (n / d)
/-- The product of two rows over divisors, at a number. -/
def conv (f g : List Int) (n : Nat) : Int := isum ((divs n).map (term f g n))
def times (f g : List Int) : List Int := (List.range 24).map (fun i => conv f g (i + 1))
theorem isum_bound {l : List Int} {B : Int} (hB : 0 ≤ B) (h : ∀ x ∈ l, -B ≤ x ∧ x ≤ B) : -((l.length : Int) * B) ≤ isum l ∧ isum l ≤ (l.length : Int) * B := by
  induction l with
  | nil => simp [isum]
  | cons x t ih =>
    have h1 := h x (by simp)
    have h2 := ih (fun y hy => h y (List.mem_cons_of_mem _ hy))
    simp only [isum, List.length_cons]
    rw [Int.natCast_add, Int.add_mul]
    omega
theorem term_in {f g : List Int} (hf : InB f 10000) (hg : InB g 10000) (n d : Nat) : -100000000 ≤ term f g n d ∧ term f g n d ≤ 100000000 := by
  have := mul_in (hf.at (by omega) d) (hg.at (by omega) (n / d)) (by omega)
  unfold term; omega
theorem isum_terms {f g : List Int} (hf : InB f 10000) (hg : InB g 10000) (n : Nat) (l : List Nat) (hl : l.length ≤ 1000) : -100000000000 ≤ isum (l.map (term f g n)) ∧ isum (l.map (term f g n)) ≤ 100000000000 := by
  have h := isum_bound (l := l.map (term f g n)) (B := 100000000) (by omega) (fun x hx => by
    obtain ⟨d, _, rfl⟩ := List.mem_map.1 hx; exact term_in hf hg n d)
  rw [List.length_map] at h
  omega
theorem times_length (f g : List Int) : (times f g).length = 24 := by simp [times]
theorem At_times (f g : List Int) (n : Nat) (h : 1 ≤ n ∧ n ≤ 24) : At (times f g) n = conv f g n := by
  unfold At times
  rw [List.getD_eq_getElem?_getD, List.getElem?_map, List.getElem?_range (by omega)]
  simp only [Option.map_some, Option.getD_some]
  rw [show n - 1 + 1 = n by omega]
theorem ext_At {a b : List Int} (ha : a.length = 24) (hb : b.length = 24) (h : ∀ n, 1 ≤ n → n ≤ 24 → At a n = At b n) : a = b := by
  refine List.ext_getElem (by omega) (fun t h1 h2 => ?_)
  have := h (t + 1) (by omega) (by omega)
  unfold At at this
  rw [show t + 1 - 1 = t by omega] at this
  simpa [List.getD_eq_getElem?_getD, List.getElem?_eq_getElem h1, List.getElem?_eq_getElem h2] using this
theorem At_set (a : List Int) (m : Nat) (x : Int) (n : Nat) (hm : 1 ≤ m) (hl : m ≤ a.length) (hn : 1 ≤ n) : At (a.set (m - 1) x) n = if n = m then x else At a n := by
  unfold At
  simp only [List.getD_eq_getElem?_getD, List.getElem?_set]
  by_cases e : n = m
  · subst e; simp [show n - 1 < a.length by omega]
  · rw [if_neg (by omega), if_neg e]

/-- What the product of two rows tells: the row and true, or nothing and false. -/
def timesR (f g : List Int) : List Int × Bool := if (InB f 10000 ∧ f.length = 24) ∧ (InB g 10000 ∧ g.length = 24) then (times f g, true) else ([], false)
theorem InB_iff_At {f : List Int} (hl : f.length = 24) (m : Int) : InB f m ↔ ∀ n, 1 ≤ n → n ≤ 24 → -m ≤ At f n ∧ At f n ≤ m := by
  constructor
  · intro h n n1 n2
    unfold At
    rw [List.getD_eq_getElem?_getD, List.getElem?_eq_getElem (show n - 1 < f.length by omega)]
    exact h _ (List.getElem_mem _)
  · intro h x hx
    obtain ⟨i, hi, rfl⟩ := List.mem_iff_getElem.1 hx
    have := h (i + 1) (by omega) (by omega)
    unfold At at this
    rw [List.getD_eq_getElem?_getD, List.getElem?_eq_getElem (show i + 1 - 1 < f.length by omega)] at this
    simpa using this
theorem timesR_length (f g : List Int) : (timesR f g).1.length ≤ 24 := by
  unfold timesR; split
  · exact Nat.le_of_eq (times_length f g)
  · simp

theorem divs_len8 : ∀ n : Nat, n < 25 → (divs n).length ≤ 8 := by decide +kernel
/-- A product of two rows is a row. -/
theorem times_in {f g : List Int} (hf : InB f 10000) (hg : InB g 10000) : InB (times f g) 1000000000 := by
  rw [InB_iff_At (times_length f g)]
  intro n n1 n2
  rw [At_times f g n ⟨n1, n2⟩]
  unfold conv
  have h := isum_bound (l := (divs n).map (term f g n)) (B := 100000000) (by omega) (fun x hx => by
    obtain ⟨d, _, rfl⟩ := List.mem_map.1 hx; exact term_in hf hg n d)
  rw [List.length_map] at h
  have := divs_len8 n (by omega)
  omega
theorem conv_one (f g : List Int) : conv f g 1 = At f 1 * At g 1 := by
  have e : divs 1 = [1] := by decide
  unfold conv
  rw [e]
  simp [term, isum]
theorem At_times_one (f g : List Int) : At (times f g) 1 = At f 1 * At g 1 := by
  rw [At_times f g 1 (by omega), conv_one]
theorem timesR_told {f g : List Int} (h : (timesR f g).2 = true) : ((InB f 10000 ∧ f.length = 24) ∧ (InB g 10000 ∧ g.length = 24)) ∧ (timesR f g).1 = times f g := by
  unfold timesR at *
  by_cases c : (InB f 10000 ∧ f.length = 24) ∧ (InB g 10000 ∧ g.length = 24)
  · rw [if_pos c]; exact ⟨c, rfl⟩
  · rw [if_neg c] at h; cases h
theorem timesR_none {f g : List Int} (h : (timesR f g).2 = false) : timesR f g = ([], false) := by
  unfold timesR at *
  by_cases c : (InB f 10000 ∧ f.length = 24) ∧ (InB g 10000 ∧ g.length = 24)
  · rw [if_pos c] at h; cases h
  · rw [if_neg c]

theorem pv_append (v : List Int) : ∀ a b : List Nat, pv v (a ++ b) = pv v a * pv v b := by
  intro a b
  induction a with
  | nil => show pv v b = 1 * pv v b; omega
  | cons i t ih =>
    show v.getD i 0 * pv v (t ++ b) = v.getD i 0 * pv v t * pv v b
    rw [ih, Int.mul_assoc]
theorem pv_perm (v : List Int) {a b : List Nat} (h : a.Perm b) : pv v a = pv v b := by
  induction h with
  | nil => rfl
  | cons x _ ih => exact congrArg (fun y => v.getD x 0 * y) ih
  | swap x y l =>
    show v.getD y 0 * (v.getD x 0 * pv v l) = v.getD x 0 * (v.getD y 0 * pv v l)
    rw [← Int.mul_assoc, ← Int.mul_assoc, Int.mul_comm (v.getD y 0)]
  | trans _ _ h1 h2 => exact h1.trans h2
theorem fidx_mul : ∀ a, a < 25 → ∀ b, b < 25 → 1 ≤ a → 1 ≤ b → a * b ≤ 24 → (fidx (a * b)).isPerm (fidx a ++ fidx b) = true := by decide +kernel
theorem full_mult (v : List Int) : Mult true (full v) := by
  refine ⟨by rw [At_full v 1 (by omega)]; rfl, fun a b ha hb hab _ => ?_⟩
  have a2 : a ≤ 24 := Nat.le_trans (Nat.le_mul_of_pos_right a hb) hab
  have b2 : b ≤ 24 := Nat.le_trans (Nat.le_mul_of_pos_left b ha) hab
  have c : 1 ≤ a * b := Nat.mul_pos ha hb
  rw [At_full v _ ⟨c, hab⟩, At_full v a ⟨ha, a2⟩, At_full v b ⟨hb, b2⟩, pv_perm v (List.isPerm_iff.1 (fidx_mul a (by omega) b (by omega) ha hb hab)), pv_append]
theorem full_in {v : List Int} (h : InB v 9) : InB (full v) 100000 := by
  rw [InB_iff_At (full_length v)]
  intro n n1 n2
  rw [At_full v n ⟨n1, n2⟩]
  have b := pv_in (B := 9) h (fidx n)
  have b2 := fidx_len n (by omega)
  have b3 : 9 ^ (fidx n).length ≤ 9 ^ 5 := Nat.pow_le_pow_right (by omega) b2
  have b4 : (9 : Nat) ^ 5 = 59049 := by decide
  omega
theorem fullR_told {v : List Int} (h : (fullR v).2 = true) : (v.length = 9 ∧ InB v 9) ∧ (fullR v).1 = full v := by
  unfold fullR at *
  split at h
  · rename_i c; rw [if_pos c]; exact ⟨c, rfl⟩
  · cases h
theorem fullR_none {v : List Int} (h : ¬ (fullR v).2 = true) : (fullR v).1 = [] := by
  unfold fullR at *
  split at h
  · exact absurd rfl h
  · rename_i c; rw [if_neg c]

/-- The row that is at each number as told. -/
def rowOf (g : Nat → Int) : List Int := (List.range 24).map (fun i => g (i + 1))
theorem rowOf_length (g : Nat → Int) : (rowOf g).length = 24 := by simp [rowOf]
theorem At_rowOf (g : Nat → Int) (n : Nat) (h : 1 ≤ n ∧ n ≤ 24) : At (rowOf g) n = g n := by
  unfold At rowOf
  rw [List.getD_eq_getElem?_getD, List.getElem?_map, List.getElem?_range (by omega)]
  simp only [Option.map_some, Option.getD_some]
  rw [show n - 1 + 1 = n by omega]
theorem times_rowOf (f g : List Int) : times f g = rowOf (conv f g) := rfl
theorem ev_rowBy_l (GF : Nat → Int → Option Int) (g : Nat → Int) (h : ∀ n : Nat, 1 ≤ n → n ≤ 24 → Ev (fun k => GF k (n : Int)) (g n)) : ∀ (d i : Nat) (out : List Int), i + d = 24 → out.length = 24 → (∀ n, 1 ≤ n → n ≤ i → At out n = g n) →
    Ev (fun k => impl_rowBy.l0 GF k out 24 (i : Int)) (rowOf g) := by
  intro d
  induction d with
  | zero =>
    intro i out hi hl ho
    refine Ev.step (fun k => by rw [impl_rowBy.l0]) ?_
    have c : ¬ (i : Int) < 24 := by omega
    simp only [if_neg c]
    exact Ev.ret (ext_At hl (rowOf_length g) (fun n n1 n2 => by rw [ho n n1 (by omega), At_rowOf g n ⟨n1, n2⟩]))
  | succ d ih =>
    intro i out hi hl ho
    refine Ev.step (fun k => by rw [impl_rowBy.l0]) ?_
    have c : (i : Int) < 24 := by omega
    have c1 : 0 ≤ (i : Int) := by omega
    have c2 : (i : Int) < (out.length : Int) := by omega
    simp only [if_pos c, w64 (x := (i : Int) + 1) (by omega), if_pos c1, if_pos c2, Int.toNat_natCast]
    refine Ev.bind (h (i + 1) (by omega) (by omega)) ?_
    refine ih (i + 1) _ (by omega) (by rw [List.length_set]; exact hl) (fun n n1 n2 => ?_)
    have := At_set out (i + 1) (g (i + 1)) n (by omega) (by omega) n1
    rw [show i + 1 - 1 = i by omega] at this
    rw [this]
    by_cases e : n = i + 1
    · rw [if_pos e, e]
    · rw [if_neg e]; exact ho n n1 (by omega)
theorem ev_rowBy (GF : Nat → Int → Option Int) (g : Nat → Int) (h : ∀ n : Nat, 1 ≤ n → n ≤ 24 → Ev (fun k => GF k (n : Int)) (g n)) : Ev (fun k => impl_rowBy.f GF k) (rowOf g) := by
  unfold impl_rowBy.f
  have c : 24 ≤ 35184372088832 := by omega
  simp only [if_pos c, Option.bind_some, List.length_replicate]
  exact ev_rowBy_l GF g h 24 0 _ (by omega) (by simp) (fun n n1 n2 => by omega)

theorem ev_listWithin_l (f : List Int) (m : Int) (hm : 0 ≤ m ∧ m ≤ 1000000000000) (hf : f.length ≤ 1000000000000000) : ∀ (d i : Nat), i + d = f.length →
    Ev (fun k => impl_listWithin.l0 k m f (f.length : Int) (i : Int)) (decide (InB (f.drop i) m)) := by
  intro d
  induction d with
  | zero =>
    intro i hi
    refine Ev.step (fun k => by rw [impl_listWithin.l0]) ?_
    have c : ¬ (i : Int) < (f.length : Int) := by omega
    simp only [if_neg c]
    refine Ev.ret ?_
    rw [List.drop_eq_nil_of_le (by omega)]
    exact (decide_eq_true (InB_nil m)).symm
  | succ d ih =>
    intro i hi
    refine Ev.step (fun k => by rw [impl_listWithin.l0]) ?_
    have c : (i : Int) < (f.length : Int) := by omega
    have c1 : 0 ≤ (i : Int) := by omega
    have e : rd f (i : Int) = f.getD i 0 := rfl
    rw [drop_step f i (by omega)]
    simp only [if_pos c, if_pos c1, e, w64 (x := -m) (by omega), w64 (x := (i : Int) + 1) (by omega)]
    generalize f.getD i 0 = x
    by_cases h1 : x < -m
    · simp only [if_pos h1]
      exact Ev.ret (decide_eq_false (fun h => by have := ((InB_cons x _ m).1 h).1; omega)).symm
    · by_cases h2 : x > m
      · simp only [if_neg h1, if_pos h2]
        exact Ev.ret (decide_eq_false (fun h => by have := ((InB_cons x _ m).1 h).1; omega)).symm
      · simp only [if_neg h1, if_neg h2]
        refine Ev.to (ih (i + 1) (by omega)) ?_
        rw [decide_eq_decide, InB_cons]
        constructor
        · intro h; exact ⟨by omega, h⟩
        · intro h; exact h.2
theorem ev_listWithin (f : List Int) (m : Int) (hm : 0 ≤ m ∧ m ≤ 1000000000000) (hf : f.length ≤ 1000000000000000) : Ev (fun k => impl_listWithin.f k f m) (decide (InB f m)) := by
  unfold impl_listWithin.f
  exact ev_listWithin_l f m hm hf f.length 0 (by omega)

theorem ev_primesUpTo : Ev (fun k => impl_primesUpTo.f k 24) prms := Ev.of (fun k => impl_primesUpTo.mono _ k) (k := 300) (by decide +kernel)
theorem iFull_1 (a b c d e f g i j : Int) : impl_FullOf_1.f 100 1 prms [a, b, c, d, e, f, g, i, j] = some (wch [a, b, c, d, e, f, g, i, j] (fidx 1)) := by kernel_rfl
theorem iFull_2 (a b c d e f g i j : Int) : impl_FullOf_1.f 100 2 prms [a, b, c, d, e, f, g, i, j] = some (wch [a, b, c, d, e, f, g, i, j] (fidx 2)) := by kernel_rfl
theorem iFull_3 (a b c d e f g i j : Int) : impl_FullOf_1.f 100 3 prms [a, b, c, d, e, f, g, i, j] = some (wch [a, b, c, d, e, f, g, i, j] (fidx 3)) := by kernel_rfl
theorem iFull_4 (a b c d e f g i j : Int) : impl_FullOf_1.f 100 4 prms [a, b, c, d, e, f, g, i, j] = some (wch [a, b, c, d, e, f, g, i, j] (fidx 4)) := by kernel_rfl
theorem iFull_5 (a b c d e f g i j : Int) : impl_FullOf_1.f 100 5 prms [a, b, c, d, e, f, g, i, j] = some (wch [a, b, c, d, e, f, g, i, j] (fidx 5)) := by kernel_rfl
theorem iFull_6 (a b c d e f g i j : Int) : impl_FullOf_1.f 100 6 prms [a, b, c, d, e, f, g, i, j] = some (wch [a, b, c, d, e, f, g, i, j] (fidx 6)) := by kernel_rfl
theorem iFull_7 (a b c d e f g i j : Int) : impl_FullOf_1.f 100 7 prms [a, b, c, d, e, f, g, i, j] = some (wch [a, b, c, d, e, f, g, i, j] (fidx 7)) := by kernel_rfl
theorem iFull_8 (a b c d e f g i j : Int) : impl_FullOf_1.f 100 8 prms [a, b, c, d, e, f, g, i, j] = some (wch [a, b, c, d, e, f, g, i, j] (fidx 8)) := by kernel_rfl
theorem iFull_9 (a b c d e f g i j : Int) : impl_FullOf_1.f 100 9 prms [a, b, c, d, e, f, g, i, j] = some (wch [a, b, c, d, e, f, g, i, j] (fidx 9)) := by kernel_rfl
theorem iFull_10 (a b c d e f g i j : Int) : impl_FullOf_1.f 100 10 prms [a, b, c, d, e, f, g, i, j] = some (wch [a, b, c, d, e, f, g, i, j] (fidx 10)) := by kernel_rfl
theorem iFull_11 (a b c d e f g i j : Int) : impl_FullOf_1.f 100 11 prms [a, b, c, d, e, f, g, i, j] = some (wch [a, b, c, d, e, f, g, i, j] (fidx 11)) := by kernel_rfl
theorem iFull_12 (a b c d e f g i j : Int) : impl_FullOf_1.f 100 12 prms [a, b, c, d, e, f, g, i, j] = some (wch [a, b, c, d, e, f, g, i, j] (fidx 12)) := by kernel_rfl
theorem iFull_13 (a b c d e f g i j : Int) : impl_FullOf_1.f 100 13 prms [a, b, c, d, e, f, g, i, j] = some (wch [a, b, c, d, e, f, g, i, j] (fidx 13)) := by kernel_rfl
theorem iFull_14 (a b c d e f g i j : Int) : impl_FullOf_1.f 100 14 prms [a, b, c, d, e, f, g, i, j] = some (wch [a, b, c, d, e, f, g, i, j] (fidx 14)) := by kernel_rfl
theorem iFull_15 (a b c d e f g i j : Int) : impl_FullOf_1.f 100 15 prms [a, b, c, d, e, f, g, i, j] = some (wch [a, b, c, d, e, f, g, i, j] (fidx 15)) := by kernel_rfl
theorem iFull_16 (a b c d e f g i j : Int) : impl_FullOf_1.f 100 16 prms [a, b, c, d, e, f, g, i, j] = some (wch [a, b, c, d, e, f, g, i, j] (fidx 16)) := by kernel_rfl
theorem iFull_17 (a b c d e f g i j : Int) : impl_FullOf_1.f 100 17 prms [a, b, c, d, e, f, g, i, j] = some (wch [a, b, c, d, e, f, g, i, j] (fidx 17)) := by kernel_rfl
theorem iFull_18 (a b c d e f g i j : Int) : impl_FullOf_1.f 100 18 prms [a, b, c, d, e, f, g, i, j] = some (wch [a, b, c, d, e, f, g, i, j] (fidx 18)) := by kernel_rfl
theorem iFull_19 (a b c d e f g i j : Int) : impl_FullOf_1.f 100 19 prms [a, b, c, d, e, f, g, i, j] = some (wch [a, b, c, d, e, f, g, i, j] (fidx 19)) := by kernel_rfl
theorem iFull_20 (a b c d e f g i j : Int) : impl_FullOf_1.f 100 20 prms [a, b, c, d, e, f, g, i, j] = some (wch [a, b, c, d, e, f, g, i, j] (fidx 20)) := by kernel_rfl
theorem iFull_21 (a b c d e f g i j : Int) : impl_FullOf_1.f 100 21 prms [a, b, c, d, e, f, g, i, j] = some (wch [a, b, c, d, e, f, g, i, j] (fidx 21)) := by kernel_rfl
theorem iFull_22 (a b c d e f g i j : Int) : impl_FullOf_1.f 100 22 prms [a, b, c, d, e, f, g, i, j] = some (wch [a, b, c, d, e, f, g, i, j] (fidx 22)) := by kernel_rfl
theorem iFull_23 (a b c d e f g i j : Int) : impl_FullOf_1.f 100 23 prms [a, b, c, d, e, f, g, i, j] = some (wch [a, b, c, d, e, f, g, i, j] (fidx 23)) := by kernel_rfl
theorem iFull_24 (a b c d e f g i j : Int) : impl_FullOf_1.f 100 24 prms [a, b, c, d, e, f, g, i, j] = some (wch [a, b, c, d, e, f, g, i, j] (fidx 24)) := by kernel_rfl
theorem ev_iFull_1 (v : List Int) (h : v.length = 9) (hv : InB v 9) : ∀ n : Nat, 1 ≤ n → n ≤ 24 → Ev (fun k => impl_FullOf_1.f k (n : Int) prms v) (pv v (fidx n)) := by
  intro n n1 n2
  rw [← wch_pv (hv.mono (by omega)) (fidx n) (fidx_len n (by omega))]
  obtain ⟨a, b, c, d, e, f, g, i, j, rfl⟩ := nine h
  have : n = 1 ∨ n = 2 ∨ n = 3 ∨ n = 4 ∨ n = 5 ∨ n = 6 ∨ n = 7 ∨ n = 8 ∨ n = 9 ∨ n = 10 ∨ n = 11 ∨ n = 12 ∨ n = 13 ∨ n = 14 ∨ n = 15 ∨ n = 16 ∨ n = 17 ∨ n = 18 ∨ n = 19 ∨ n = 20 ∨ n = 21 ∨ n = 22 ∨ n = 23 ∨ n = 24 := by omega
  rcases this with rfl | rfl | rfl | rfl | rfl | rfl | rfl | rfl | rfl | rfl | rfl | rfl | rfl | rfl | rfl | rfl | rfl | rfl | rfl | rfl | rfl | rfl | rfl | rfl
  · exact Ev.of (fun k => impl_FullOf_1.mono _ _ _ k) (iFull_1 a b c d e f g i j)
  · exact Ev.of (fun k => impl_FullOf_1.mono _ _ _ k) (iFull_2 a b c d e f g i j)
  · exact Ev.of (fun k => impl_FullOf_1.mono _ _ _ k) (iFull_3 a b c d e f g i j)
  · exact Ev.of (fun k => impl_FullOf_1.mono _ _ _ k) (iFull_4 a b c d e f g i j)
  · exact Ev.of (fun k => impl_FullOf_1.mono _ _ _ k) (iFull_5 a b c d e f g i j)
  · exact Ev.of (fun k => impl_FullOf_1.mono _ _ _ k) (iFull_6 a b c d e f g i j)
  · exact Ev.of (fun k => impl_FullOf_1.mono _ _ _ k) (iFull_7 a b c d e f g i j)
  · exact Ev.of (fun k => impl_FullOf_1.mono _ _ _ k) (iFull_8 a b c d e f g i j)
  · exact Ev.of (fun k => impl_FullOf_1.mono _ _ _ k) (iFull_9 a b c d e f g i j)
  · exact Ev.of (fun k => impl_FullOf_1.mono _ _ _ k) (iFull_10 a b c d e f g i j)
  · exact Ev.of (fun k => impl_FullOf_1.mono _ _ _ k) (iFull_11 a b c d e f g i j)
  · exact Ev.of (fun k => impl_FullOf_1.mono _ _ _ k) (iFull_12 a b c d e f g i j)
  · exact Ev.of (fun k => impl_FullOf_1.mono _ _ _ k) (iFull_13 a b c d e f g i j)
  · exact Ev.of (fun k => impl_FullOf_1.mono _ _ _ k) (iFull_14 a b c d e f g i j)
  · exact Ev.of (fun k => impl_FullOf_1.mono _ _ _ k) (iFull_15 a b c d e f g i j)
  · exact Ev.of (fun k => impl_FullOf_1.mono _ _ _ k) (iFull_16 a b c d e f g i j)
  · exact Ev.of (fun k => impl_FullOf_1.mono _ _ _ k) (iFull_17 a b c d e f g i j)
  · exact Ev.of (fun k => impl_FullOf_1.mono _ _ _ k) (iFull_18 a b c d e f g i j)
  · exact Ev.of (fun k => impl_FullOf_1.mono _ _ _ k) (iFull_19 a b c d e f g i j)
  · exact Ev.of (fun k => impl_FullOf_1.mono _ _ _ k) (iFull_20 a b c d e f g i j)
  · exact Ev.of (fun k => impl_FullOf_1.mono _ _ _ k) (iFull_21 a b c d e f g i j)
  · exact Ev.of (fun k => impl_FullOf_1.mono _ _ _ k) (iFull_22 a b c d e f g i j)
  · exact Ev.of (fun k => impl_FullOf_1.mono _ _ _ k) (iFull_23 a b c d e f g i j)
  · exact Ev.of (fun k => impl_FullOf_1.mono _ _ _ k) (iFull_24 a b c d e f g i j)
theorem ev_iFull (v : List Int) (hl : v.length ≤ 1000000000000000) : Ev (fun k => impl_FullOf.f k v) (fullR v) := by
  unfold impl_FullOf.f
  refine Ev.bind ev_primesUpTo ?_
  have lp : (prms.length : Int) = 9 := rfl
  by_cases h : v.length = 9
  · have c : (v.length : Int) = 9 := by omega
    simp only [lp, if_pos c]
    refine Ev.bind (ev_listWithin v 9 (by omega) hl) ?_
    by_cases h2 : InB v 9
    · simp only [decide_eq_true h2, if_true]
      refine Ev.bind (Ev.to (ev_rowBy _ (fun n => pv v (fidx n)) (fun n n1 n2 => ev_iFull_1 v h h2 n n1 n2)) (show rowOf _ = full v from rfl)) ?_
      exact Ev.ret (by unfold fullR; rw [if_pos ⟨h, h2⟩])
    · simp only [decide_eq_false h2, Bool.false_eq_true, if_false]
      exact Ev.ret (by unfold fullR; rw [if_neg (fun x => h2 x.2)])
  · have c : ¬ (v.length : Int) = 9 := by omega
    simp only [lp, if_neg c]
    exact Ev.ret (by unfold fullR; rw [if_neg (fun x => h x.1)])

theorem l1In_f (a b c : Int) : spec_l1In.f a b c = some (decide (b ≤ a ∧ a ≤ c)) := by
  unfold spec_l1In.f
  by_cases h : a ≥ b
  · rw [if_pos h]; simp [show b ≤ a from h]
  · rw [if_neg h]; simp [show ¬ b ≤ a from h]

theorem prime_f : ∀ n : Nat, n < 25 → 2 ≤ n → spec_PrimeOk.f 100 (n : Int) = some (decide ((n : Int) ∈ prms)) := by decide +kernel
theorem prms_step : ∀ n : Nat, n < 25 → 2 ≤ n → prms.filter (fun p => decide (p < ((n + 1 : Nat) : Int))) = prms.filter (fun p => decide (p < (n : Int))) ++ (if decide ((n : Int) ∈ prms) = true then [(n : Int)] else []) := by decide +kernel
/-- The place of a number's least prime. -/
def lidx (n : Nat) : Nat := (fidx n).headD 0
theorem fact_f : ∀ n : Nat, n < 25 → 2 ≤ n → (spec_FactorsOf.f 100 (n : Int)).map (fun t => (decide (0 < (t.length : Int)), decide (0 < ((rd_L1 t 0).length : Int)), rd (rd_L1 t 0) 0)) = some (true, true, prms.getD (lidx n) 0) := by decide +kernel
theorem fidx_step : ∀ n : Nat, n < 25 → 2 ≤ n → fidx n = lidx n :: fidx (n / (prms.getD (lidx n) 0).toNat) ∧ 1 ≤ n / (prms.getD (lidx n) 0).toNat ∧ n / (prms.getD (lidx n) 0).toNat < n ∧ lidx n < 9 := by decide +kernel
theorem prms_pos : ∀ i : Nat, i < 9 → 2 ≤ prms.getD i 0 ∧ (prms.getD i 0).toNat < 25 := by decide
theorem prms_inj : ∀ i j : Nat, i < 9 → j < 9 → prms.getD i 0 = prms.getD j 0 → i = j := by
  have : ∀ i, i < 9 → ∀ j, j < 9 → prms.getD i 0 = prms.getD j 0 → i = j := by decide
  exact fun i j hi hj h => this i hi j hj h
theorem ev_sFull_l2 (v : List Int) (hl : v.length = 9) (n : Nat) (hn : 2 ≤ n ∧ n ≤ 24) (out : List Int) (lo : out.length = n - 1) (ho : ∀ j, 1 ≤ j → j < n → InB v 9 → At out j = pv v (fidx j)) (hb : ∀ j, -100000 ≤ At out j ∧ At out j ≤ 100000)
    (hN : InB v 9 → ∀ x, x = prms.getD (lidx n) 0 → Ev (fun k => spec_FullOf.l1 k v prms (out ++ [v.getD (lidx n) 0 * At out (n / x.toNat)]) ((n + 1 : Nat) : Int)) (fullR v)) :
    ∀ (m j : Nat) (o : List Int), j + m = 9 → (∀ i, i < j → -9 ≤ v.getD i 0 ∧ v.getD i 0 ≤ 9) → o = (if lidx n < j then out ++ [v.getD (lidx n) 0 * At out (n / (prms.getD (lidx n) 0).toNat)] else out) →
    Ev (fun k => spec_FullOf.l2 k v prms o (n : Int) (prms.getD (lidx n) 0) (j : Int)) (fullR v) := by
  have st := fidx_step n (by omega) hn.1
  have pp := prms_pos (lidx n) st.2.2.2
  have lp : (prms.length : Int) = 9 := rfl
  intro m
  induction m with
  | zero =>
    intro j o hj hI eo
    refine Ev.step (fun k => by rw [spec_FullOf.l2]) ?_
    have c : ¬ (j : Int) < 9 := by omega
    have hv : InB v 9 := fun y hy => by
      obtain ⟨i, hi, rfl⟩ := List.mem_iff_getElem.1 hy
      have := hI i (by omega)
      rw [List.getD_eq_getElem?_getD, List.getElem?_eq_getElem hi] at this
      exact this
    rw [if_pos (by omega)] at eo
    subst eo
    simp only [lp, if_neg c, w64 (x := (n : Int) + 1) (by omega)]
    exact hN hv _ rfl
  | succ m ih =>
    intro j o hj hI eo
    refine Ev.step (fun k => by rw [spec_FullOf.l2]) ?_
    have c : (j : Int) < 9 := by omega
    have c1 : 0 ≤ (j : Int) := by omega
    have c2 : (j : Int) < (v.length : Int) := by omega
    have ev : rd v (j : Int) = v.getD j 0 := rfl
    have ep : rd prms (j : Int) = prms.getD j 0 := rfl
    simp only [lp, if_pos c, if_pos c1, if_pos c2, ev, ep, l1In_f, Option.bind_some, w64 (x := (j : Int) + 1) (by omega)]
    by_cases h : -9 ≤ v.getD j 0 ∧ v.getD j 0 ≤ 9
    · simp only [decide_eq_true h, if_true]
      have hI' : ∀ i, i < j + 1 → -9 ≤ v.getD i 0 ∧ v.getD i 0 ≤ 9 := fun i hi => by
        by_cases e : i = j
        · subst e; exact h
        · exact hI i (by omega)
      by_cases e : j = lidx n
      · have ej : prms.getD j 0 = prms.getD (lidx n) 0 := by rw [e]
        rw [if_neg (by omega)] at eo
        subst eo
        have q2 := st.2.2.1
        have q1 := st.2.1
        obtain ⟨p, hp⟩ : ∃ p : Nat, prms.getD (lidx n) 0 = (p : Int) := ⟨(prms.getD (lidx n) 0).toNat, by omega⟩
        have bv := hb (n / p)
        rw [hp] at ej ih q1 q2 pp ⊢
        rw [Int.toNat_natCast] at ih q1 q2 pp
        have z : ¬ ((p : Nat) : Int) = 0 := by omega
        have q0 : (0 : Int) ≤ ((n / p : Nat) : Int) := Int.natCast_nonneg _
        have lo2 : o.length < 17592186044416 := by omega
        generalize hq : n / p = q at *
        have c3 : 0 ≤ (q : Int) - 1 := by omega
        have c4 : (q : Int) - 1 < (o.length : Int) := by omega
        have tb := mul_in (B := 100000) (x := v.getD j 0) (y := At o q) (by omega) bv (by omega)
        simp only [ej, if_true, if_neg z, ← Int.ofNat_tdiv, hq, w64 (x := (q : Int)) (by omega), w64 (x := (q : Int) - 1) (by omega), if_pos c3, if_pos c4, if_pos lo2, rd_at o q q1, w64 (x := v.getD j 0 * At o q) (by omega)]
        refine ih (j + 1) _ (by omega) hI' ?_
        rw [if_pos (by omega), ← e]
      · have ne : ¬ prms.getD j 0 = prms.getD (lidx n) 0 := fun x => e (prms_inj j (lidx n) (by omega) st.2.2.2 x)
        simp only [if_neg ne]
        refine ih (j + 1) o (by omega) hI' ?_
        rw [eo]
        by_cases l : lidx n < j
        · rw [if_pos l, if_pos (by omega)]
        · rw [if_neg l, if_neg (by omega)]
    · simp only [decide_eq_false h, Bool.false_eq_true, if_false]
      refine Ev.ret ?_
      unfold fullR
      rw [if_neg]
      rintro ⟨_, hv⟩
      exact h (getD_in hv (by omega) j)
theorem ev_sFull_l1 (v : List Int) (hl : v.length = 9) : ∀ (m n : Nat) (out : List Int), n + m = 25 → 2 ≤ n → out.length = n - 1 → (∀ j, 1 ≤ j → j < n → InB v 9 → At out j = pv v (fidx j)) → (∀ j, -100000 ≤ At out j ∧ At out j ≤ 100000) → (2 < n → InB v 9) →
    Ev (fun k => spec_FullOf.l1 k v prms out (n : Int)) (fullR v) := by
  intro m
  induction m with
  | zero =>
    intro n out hn h2 lo ho hb hv
    refine Ev.step (fun k => by rw [spec_FullOf.l1]) ?_
    have c : ¬ (n : Int) ≤ 24 := by omega
    simp only [if_neg c]
    refine Ev.ret ?_
    have hv' := hv (by omega)
    unfold fullR
    rw [if_pos ⟨hl, hv'⟩]
    have e : out = full v := ext_At (by omega) (full_length v) (fun j j1 j2 => by rw [ho j j1 (by omega) hv', At_full v j ⟨j1, j2⟩])
    rw [e]
  | succ m ih =>
    intro n out hn h2 lo ho hb hv
    refine Ev.step (fun k => by rw [spec_FullOf.l1]) ?_
    have c : (n : Int) ≤ 24 := by omega
    have st := fidx_step n (by omega) h2
    simp only [if_pos c]
    have f := fact_f n (by omega) h2
    rw [Option.map_eq_some_iff] at f
    obtain ⟨t, ft, et⟩ := f
    simp only [Prod.mk.injEq, decide_eq_true_eq] at et
    refine Ev.bind (Ev.of (fun k => spec_FactorsOf.mono _ k) ft) ?_
    simp only [if_pos et.1, if_pos et.2.1, et.2.2]
    refine ev_sFull_l2 v hl n ⟨h2, by omega⟩ out lo ho hb (fun hv' x hx => ?_) 9 0 out (by omega) (fun i hi => by omega) (by rw [if_neg (by omega)])
    subst hx
    have at1 : ∀ j, 1 ≤ j → j < n → At (out ++ [v.getD (lidx n) 0 * At out (n / (prms.getD (lidx n) 0).toNat)]) j = At out j := fun j j1 j2 => by
      unfold At
      rw [List.getD_eq_getElem?_getD, List.getElem?_append_left (by omega), List.getD_eq_getElem?_getD]
    have at2 : At (out ++ [v.getD (lidx n) 0 * At out (n / (prms.getD (lidx n) 0).toNat)]) n = v.getD (lidx n) 0 * At out (n / (prms.getD (lidx n) 0).toNat) := by
      conv => lhs; unfold At
      rw [List.getD_eq_getElem?_getD, List.getElem?_append_right (by omega), lo, Nat.sub_self]
      rfl
    have atn : At (out ++ [v.getD (lidx n) 0 * At out (n / (prms.getD (lidx n) 0).toNat)]) n = pv v (fidx n) := by
      rw [at2, ho _ st.2.1 st.2.2.1 hv', st.1]
      rfl
    refine ih (n + 1) _ (by omega) (by omega) (by rw [List.length_append, lo, List.length_singleton]; omega) (fun j j1 j2 _ => ?_) (fun j => ?_) (fun _ => hv')
    · by_cases e : j = n
      · subst e; exact atn
      · rw [at1 j j1 (by omega)]; exact ho j j1 (by omega) hv'
    · by_cases j1 : 1 ≤ j ∧ j < n
      · rw [at1 j j1.1 j1.2]; exact hb j
      · by_cases e : j = n
        · subst e
          rw [atn]
          have b := pv_in (B := 9) hv' (fidx j)
          have b2 := fidx_len j (by omega)
          have b3 : 9 ^ (fidx j).length ≤ 9 ^ 5 := Nat.pow_le_pow_right (by omega) b2
          have b4 : (9 : Nat) ^ 5 = 59049 := by decide
          omega
        · by_cases j0 : j = 0
          · subst j0
            have e0 : ∀ l : List Int, At l 0 = At l 1 := fun l => rfl
            rw [e0, at1 1 (by omega) (by omega)]; exact hb 1
          · unfold At
            rw [List.getD_eq_getElem?_getD, List.getElem?_eq_none (by rw [List.length_append, List.length_singleton]; omega)]
            simp
theorem ev_sFull_l0 (v : List Int) (hv : v.length ≤ 1000000000000000) : ∀ (m n : Nat), n + m = 25 → 2 ≤ n → Ev (fun k => spec_FullOf.l0 k v (prms.filter (fun p => decide (p < (n : Int)))) (n : Int)) (fullR v) := by
  intro m
  induction m with
  | zero =>
    intro n hn h2
    refine Ev.step (fun k => by rw [spec_FullOf.l0]) ?_
    have c : ¬ (n : Int) ≤ 24 := by omega
    have e : n = 25 := by omega
    subst e
    have ep : prms.filter (fun p => decide (p < ((25 : Nat) : Int))) = prms := by decide
    have lp : (prms.length : Int) = 9 := rfl
    simp only [if_neg c, ep, lp]
    by_cases h : (v.length : Int) = 9
    · simp only [if_pos h]
      refine ev_sFull_l1 v (by omega) 23 2 [1] (by omega) (by omega) (by simp) (fun j j1 j2 _ => ?_) (fun j => ?_) (fun x => by omega)
      · have : j = 1 := by omega
        subst this; rfl
      · unfold At
        by_cases e : j - 1 = 0
        · rw [e]; decide
        · rw [List.getD_eq_getElem?_getD, List.getElem?_eq_none (by simp; omega)]; simp
    · simp only [if_neg h]
      exact Ev.ret (by unfold fullR; rw [if_neg (fun x => by omega)])
  | succ m ih =>
    intro n hn h2
    refine Ev.step (fun k => by rw [spec_FullOf.l0]) ?_
    have c : (n : Int) ≤ 24 := by omega
    simp only [if_pos c, w64 (x := (n : Int) + 1) (by omega)]
    refine Ev.bind (Ev.of (fun k => spec_PrimeOk.mono _ k) (prime_f n (by omega) h2)) ?_
    have s := prms_step n (by omega) h2
    have i := ih (n + 1) (by omega) (by omega)
    rw [s] at i
    by_cases p : decide ((n : Int) ∈ prms) = true
    · have l : (prms.filter (fun p => decide (p < (n : Int)))).length < 17592186044416 := Nat.lt_of_le_of_lt (List.length_filter_le _ _) (by decide)
      rw [if_pos p] at i
      simp only [if_pos p, if_pos l]
      exact i
    · rw [if_neg p, List.append_nil] at i
      simp only [if_neg p]
      exact i
theorem ev_sFull (v : List Int) (hv : v.length ≤ 1000000000000000) : Ev (fun k => spec_FullOf.f k v) (fullR v) := by
  unfold spec_FullOf.f
  exact ev_sFull_l0 v hv 23 2 (by omega) (by omega)

theorem ev_gcd_l (b : Nat) : ∀ a : Nat, Ev (fun k => impl_gcd.l0 k (a : Int) (b : Int)) ((Nat.gcd a b : Nat) : Int) := by
  induction b using Nat.strongRecOn with
  | _ b ih =>
    intro a
    refine Ev.step (fun k => by rw [impl_gcd.l0]) ?_
    by_cases hb : b = 0
    · subst hb
      simp only [Int.natCast_zero, if_true]
      exact Ev.ret (by simp)
    · have h0 : ¬ (b : Int) = 0 := by omega
      simp only [if_neg h0, ← Int.ofNat_tmod]
      refine Ev.to (ih (a % b) (Nat.mod_lt _ (by omega)) b) ?_
      rw [Nat.gcd_comm a b, Nat.gcd_rec b a, Nat.gcd_comm]
theorem ev_gcd (a b : Nat) : Ev (fun k => impl_gcd.f k (a : Int) (b : Int)) ((Nat.gcd a b : Nat) : Int) := by
  unfold impl_gcd.f; exact ev_gcd_l b a

theorem ev_products_l1 {f : List Int} (hf : InB f 1000000000) (hl : f.length = 24) (all : Bool) (r : Bool) (hr : r = true ↔ Mult all f) (x : Nat) (hx : 1 ≤ x ∧ x ≤ 24)
    (hN : MultTo all f (x + 1) 1 → Ev (fun k => impl_productsOk.l0 k f all ((x + 1 : Nat) : Int)) r) : ∀ (m y : Nat), y + m = 25 → 1 ≤ y → MultTo all f x y →
    Ev (fun k => impl_productsOk.l1 k f all (x : Int) (y : Int)) r := by
  intro m
  induction m with
  | zero =>
    intro y hy h1 hI
    have hb : 1 * 25 ≤ x * y := Nat.mul_le_mul hx.1 (by omega)
    have hb2 : x * y ≤ 24 * 25 := Nat.mul_le_mul hx.2 (by omega)
    refine Ev.step (fun k => by rw [impl_productsOk.l1]) ?_
    have e : (x : Int) * (y : Int) = ((x * y : Nat) : Int) := by simp
    have c : ¬ ((x * y : Nat) : Int) ≤ 24 := by omega
    simp only [e, w64 (x := ((x * y : Nat) : Int)) (by omega), if_neg c, w64 (x := (x : Int) + 1) (by omega)]
    exact hN (hI.next (by omega))
  | succ m ih =>
    intro y hy h1 hI
    have hb2 : x * y ≤ 24 * 25 := Nat.mul_le_mul hx.2 (by omega)
    have hb1 : 1 * 1 ≤ x * y := Nat.mul_le_mul hx.1 h1
    refine Ev.step (fun k => by rw [impl_productsOk.l1]) ?_
    have e : (x : Int) * (y : Int) = ((x * y : Nat) : Int) := by simp
    by_cases hc : x * y ≤ 24
    · have c : ((x * y : Nat) : Int) ≤ 24 := by omega
      have c1 : 0 ≤ ((x * y : Nat) : Int) - 1 := by omega
      have c2 : ((x * y : Nat) : Int) - 1 < (f.length : Int) := by omega
      have c3 : 0 ≤ (x : Int) - 1 := by omega
      have c4 : (x : Int) - 1 < (f.length : Int) := by omega
      have c5 : 0 ≤ (y : Int) - 1 := by omega
      have c6 : (y : Int) - 1 < (f.length : Int) := by omega
      simp only [e, w64 (x := ((x * y : Nat) : Int)) (by omega), w64 (x := ((x * y : Nat) : Int) - 1) (by omega), w64 (x := (x : Int) - 1) (by omega), w64 (x := (y : Int) - 1) (by omega), w64 (x := (y : Int) + 1) (by omega),
        if_pos c, if_pos c1, if_pos c2, if_pos c3, if_pos c4, if_pos c5, if_pos c6, rd_at f (x * y) (by omega), rd_at f x (by omega), rd_at f y (by omega), w64_prod hf]
      have yes : (At f (x * y) = At f x * At f y ∨ ¬ (all = true ∨ Nat.gcd x y = 1)) → Ev (fun k => impl_productsOk.l1 k f all (x : Int) ((y : Int) + 1)) r := fun h =>
        ih (y + 1) (by omega) (by omega) (hI.step (fun _ h2 => h.elim id (fun h3 => absurd h2 h3)))
      have no : ¬ At f (x * y) = At f x * At f y → (all = true ∨ Nat.gcd x y = 1) → Ev (fun _ => some false) r := fun h h2 => Ev.ret (by
        cases r with
        | false => rfl
        | true => exact absurd ((hr.1 rfl).2 x y hx.1 h1 hc h2) h)
      cases all with
      | true =>
        simp only [if_true]
        by_cases t : At f (x * y) = At f x * At f y
        · simp only [if_pos t]; exact yes (Or.inl t)
        · simp only [if_neg t]; exact no t (Or.inl rfl)
      | false =>
        simp only [Bool.false_eq_true, if_false]
        refine Ev.bind (ev_gcd x y) ?_
        by_cases g : Nat.gcd x y = 1
        · have g' : ((Nat.gcd x y : Nat) : Int) = 1 := by omega
          simp only [if_pos g']
          by_cases t : At f (x * y) = At f x * At f y
          · simp only [if_pos t]; exact yes (Or.inl t)
          · simp only [if_neg t]; exact no t (Or.inr g)
        · have g' : ¬ ((Nat.gcd x y : Nat) : Int) = 1 := by omega
          simp only [if_neg g']
          exact yes (Or.inr (fun h => h.elim (by simp) g))
    · have c : ¬ ((x * y : Nat) : Int) ≤ 24 := by omega
      simp only [e, w64 (x := ((x * y : Nat) : Int)) (by omega), if_neg c, w64 (x := (x : Int) + 1) (by omega)]
      exact hN (hI.next (by omega))
theorem ev_products_l0 {f : List Int} (hf : InB f 1000000000) (hl : f.length = 24) (all : Bool) (r : Bool) (hr : r = true ↔ Mult all f) : ∀ (m x : Nat), x + m = 25 → 1 ≤ x → MultTo all f x 1 →
    Ev (fun k => impl_productsOk.l0 k f all (x : Int)) r := by
  intro m
  induction m with
  | zero =>
    intro x hx h1 hI
    refine Ev.step (fun k => by rw [impl_productsOk.l0]) ?_
    have c : ¬ (x : Int) ≤ 24 := by omega
    have c1 : 0 < (f.length : Int) := by omega
    simp only [if_neg c, if_pos c1, rd_at0]
    refine Ev.ret ?_
    rw [Bool.eq_iff_iff, hr, beq_iff_eq]
    constructor
    · intro e; refine ⟨e, fun a b ha hb hab hg => hI a b (Or.inl ?_) ha hb hab hg⟩
      have := Nat.mul_le_mul_left a hb; omega
    · exact fun h => h.1
  | succ m ih =>
    intro x hx h1 hI
    refine Ev.step (fun k => by rw [impl_productsOk.l0]) ?_
    have c : (x : Int) ≤ 24 := by omega
    simp only [if_pos c]
    exact ev_products_l1 hf hl all r hr x (by omega) (fun h => ih (x + 1) (by omega) (by omega) h) 24 1 (by omega) (by omega) hI
theorem ev_products {f : List Int} (hf : InB f 1000000000) (hl : f.length = 24) (all : Bool) (r : Bool) (hr : r = true ↔ Mult all f) : Ev (fun k => impl_productsOk.f k f all) r := by
  unfold impl_productsOk.f
  exact ev_products_l0 hf hl all r hr 24 1 (by omega) (by omega) (fun a b h h1 h2 => by omega)

theorem ev_within_l (f : List Int) (m : Int) (hm : 0 ≤ m ∧ m ≤ 1000000000000) (hf : f.length ≤ 1000000000000000) : ∀ (d i : Nat), i + d = f.length →
    Ev (fun k => impl_within.l0 k f m f (f.length : Int) (i : Int)) (decide (InB (f.drop i) m ∧ f.length = 24)) := by
  intro d
  induction d with
  | zero =>
    intro i hi
    refine Ev.step (fun k => by rw [impl_within.l0]) ?_
    have h1 : ¬ (i : Int) < (f.length : Int) := by omega
    simp only [if_neg h1]
    refine Ev.ret ?_
    rw [List.drop_eq_nil_of_le (by omega), Bool.eq_iff_iff]; simp [InB_nil]; omega
  | succ d ih =>
    intro i hi
    refine Ev.step (fun k => by rw [impl_within.l0]) ?_
    have h1 : (i : Int) < (f.length : Int) := by omega
    have h2 : (0 : Int) ≤ (i : Int) := by omega
    simp only [if_pos h1, if_pos h2, rd_nat, w64 (x := -m) (by omega)]
    have e := drop_step f i (by omega)
    by_cases a : f.getD i 0 < -m
    · simp only [if_pos a]
      refine Ev.ret ?_
      symm; rw [decide_eq_false_iff_not, e, InB_cons]; omega
    · by_cases b : f.getD i 0 > m
      · simp only [if_neg a, gt_iff_lt, if_pos (show m < f.getD i 0 from b)]
        refine Ev.ret ?_
        symm; rw [decide_eq_false_iff_not, e, InB_cons]; omega
      · simp only [if_neg a, if_neg b, w64 (x := (i : Int) + 1) (by omega)]
        refine Ev.to (ih (i + 1) (by omega)) ?_
        rw [Bool.eq_iff_iff]; simp only [decide_eq_true_eq]; rw [e, InB_cons]
        constructor
        · rintro ⟨h, g⟩; exact ⟨⟨by omega, h⟩, g⟩
        · rintro ⟨⟨_, h⟩, g⟩; exact ⟨h, g⟩
theorem ev_within (f : List Int) (m : Int) (hm : 0 ≤ m ∧ m ≤ 1000000000000) (hf : f.length ≤ 1000000000000000) :
    Ev (fun k => impl_within.f k f m) (decide (InB f m ∧ f.length = 24)) := by
  unfold impl_within.f
  exact ev_within_l f m hm hf f.length 0 (by omega)

theorem ev_RowOk (f : List Int) (hf : f.length ≤ 1000000000000000) : Ev (fun k => impl_RowOk.f k f) (decide (InB f 1000000000 ∧ f.length = 24)) := by
  unfold impl_RowOk.f
  exact Ev.bind (ev_within f 1000000000 (by omega) hf) (Ev.now _)

theorem ev_FullyOk (f : List Int) (hf : f.length ≤ 1000000000000000) (r : Bool) (hr : r = true ↔ (InB f 1000000000 ∧ f.length = 24) ∧ Mult true f) : Ev (fun k => impl_FullyOk.f k f) r := by
  unfold impl_FullyOk.f
  refine Ev.bind (ev_RowOk f hf) ?_
  by_cases h : InB f 1000000000 ∧ f.length = 24
  · simp only [decide_eq_true h, if_true]
    exact Ev.bind (ev_products h.1 h.2 true r (by rw [hr]; exact ⟨fun x => x.2, fun x => ⟨h, x⟩⟩)) (Ev.now _)
  · simp only [decide_eq_false h, Bool.false_eq_true, if_false]
    refine Ev.ret ?_
    cases r with
    | false => rfl
    | true => exact absurd (hr.1 rfl).1 h

/-- The rows with names. -/
def named : Nat → List Int
  | 0 => [1, 0, 0, 0, 0, 0, 0, 0, 0, 0, 0, 0, 0, 0, 0, 0, 0, 0, 0, 0, 0, 0, 0, 0]
  | 1 => [1, 1, 1, 1, 1, 1, 1, 1, 1, 1, 1, 1, 1, 1, 1, 1, 1, 1, 1, 1, 1, 1, 1, 1]
  | 2 => [1, 2, 3, 4, 5, 6, 7, 8, 9, 10, 11, 12, 13, 14, 15, 16, 17, 18, 19, 20, 21, 22, 23, 24]
  | 3 => [1, 2, 2, 3, 2, 4, 2, 4, 3, 4, 2, 6, 2, 4, 4, 5, 2, 6, 2, 6, 4, 4, 2, 8]
  | 4 => [1, 3, 4, 7, 6, 12, 8, 15, 13, 18, 12, 28, 14, 24, 24, 31, 18, 39, 20, 42, 32, 36, 24, 60]
  | 5 => [1, 1, 2, 2, 4, 2, 6, 4, 6, 4, 10, 4, 12, 6, 8, 8, 16, 6, 18, 8, 12, 10, 22, 8]
  | 6 => [1, -1, -1, 0, -1, 1, -1, 0, 0, 1, -1, 0, -1, 1, 1, 0, -1, 0, -1, 0, 1, 1, -1, 0]
  | _ => [1, -1, -1, 1, -1, 1, -1, -1, 1, 1, -1, -1, -1, 1, 1, 1, -1, -1, -1, -1, 1, 1, -1, 1]
theorem named_length (i : Nat) : (named i).length = 24 := by
  unfold named; split <;> rfl
theorem named_in (i : Nat) : InB (named i) 60 := by
  unfold named; split <;> decide

theorem ev_iNamedRow (i : Nat) (h : i < 8) : Ev (fun k => impl_NamedRow.f k (i : Int)) (named i) := by
  have : i = 0 ∨ i = 1 ∨ i = 2 ∨ i = 3 ∨ i = 4 ∨ i = 5 ∨ i = 6 ∨ i = 7 := by omega
  rcases this with rfl | rfl | rfl | rfl | rfl | rfl | rfl | rfl <;> exact Ev.of (fun k => impl_NamedRow.mono _ k) (k := 200) (by decide +kernel)

theorem ev_sameInts_l (a b : List Int) (hl : a.length = b.length) (ha : a.length ≤ 1000000000000000) : ∀ (d i : Nat), i + d = a.length →
    Ev (fun k => laws_sameInts.l0 k a b (i : Int)) (decide (a.drop i = b.drop i)) := by
  intro d
  induction d with
  | zero =>
    intro i hi
    refine Ev.step (fun k => by rw [laws_sameInts.l0]) ?_
    have h1 : ¬ (i : Int) < (a.length : Int) := by omega
    simp only [if_neg h1]
    refine Ev.ret ?_
    rw [List.drop_eq_nil_of_le (by omega), List.drop_eq_nil_of_le (by omega)]; simp
  | succ d ih =>
    intro i hi
    refine Ev.step (fun k => by rw [laws_sameInts.l0]) ?_
    have h1 : (i : Int) < (a.length : Int) := by omega
    have h2 : (0 : Int) ≤ (i : Int) := by omega
    have h3 : (i : Int) < (b.length : Int) := by omega
    have ea := drop_step a i (by omega)
    have eb := drop_step b i (by omega)
    simp only [if_pos h1, if_pos h2, if_pos h3, rd_nat, w64 (x := (i : Int) + 1) (by omega)]
    by_cases e : a.getD i 0 = b.getD i 0
    · simp only [if_pos e]
      refine Ev.to (ih (i + 1) (by omega)) ?_
      rw [ea, eb, e]; simp
    · simp only [if_neg e]
      refine Ev.ret ?_
      rw [ea, eb]; simp only [List.cons.injEq, e, false_and, decide_false]
theorem ev_sameInts (a b : List Int) (ha : a.length ≤ 1000000000000000) : Ev (fun k => laws_sameInts.f k a b) (decide (a = b)) := by
  unfold laws_sameInts.f
  by_cases h : (a.length : Int) = (b.length : Int)
  · simp only [if_pos h]
    exact ev_sameInts_l a b (by omega) ha a.length 0 (by omega)
  · simp only [if_neg h]
    refine Ev.ret ?_
    symm; rw [decide_eq_false_iff_not]
    intro e; subst e; exact h rfl

theorem open_l (l : List Int) (h : ∀ x ∈ l, (Lit.int .u8 x).wf = true) : ∃ b, Bytes b ∧ spec_l20Open.f l = some (b, 0) := by
  unfold spec_l20Open.f
  by_cases c : (l.length : Int) > 2000
  · refine ⟨l.take 2000, ⟨by simp; omega, fun x hx => wf_u8 (h x (List.mem_of_mem_take hx))⟩, ?_⟩
    rw [if_pos c, if_pos (by omega)]
  · exact ⟨l, ⟨by omega, fun x hx => wf_u8 (h x hx)⟩, by rw [if_neg c]⟩

theorem full_minus : fullR (List.replicate 9 (-1)) = (named 7, true) := by decide +kernel
theorem flO_l (v : List Int) : ∀ (m i : Nat), i + m = 9 → Ev (fun k => laws_FnFullOf.l0 k (fullR v).1 (fullR v).2 (List.replicate i (-1)) (i : Int)) true := by
  intro m
  induction m with
  | zero =>
    intro i hi
    have e : i = 9 := by omega
    subst e
    refine Ev.step (fun k => by rw [laws_FnFullOf.l0]) ?_
    have c : ¬ ((9 : Nat) : Int) < 9 := by omega
    have nl := named_length 7
    simp only [if_neg c]
    refine Ev.bind (Ev.to (ev_iFull (List.replicate 9 (-1)) (by simp)) full_minus) ?_
    simp only [if_true]
    refine Ev.bind (ev_iNamedRow 7 (by omega)) (Ev.bind (ev_sameInts (named 7) (named 7) (by omega)) ?_)
    simp only [decide_true, if_true]
    by_cases h : (fullR v).2 = true
    · have a := fullR_told h
      have row : InB (full v) 1000000000 ∧ (full v).length = 24 := ⟨(full_in a.1.2).mono (by omega), full_length v⟩
      simp only [if_pos h, a.2]
      exact Ev.bind (ev_FullyOk (full v) (by omega) true ⟨fun _ => ⟨row, full_mult v⟩, fun _ => rfl⟩) (Ev.now _)
    · simp only [if_neg h, fullR_none h, List.length_nil, Int.natCast_zero, if_true]
      exact Ev.now _
  | succ m ih =>
    intro i hi
    refine Ev.step (fun k => by rw [laws_FnFullOf.l0]) ?_
    have c : (i : Int) < 9 := by omega
    have l : (List.replicate i (-1 : Int)).length < 17592186044416 := by simp; omega
    simp only [if_pos c, if_pos l, w64 (x := (i : Int) + 1) (by omega)]
    have z := ih (i + 1) (by omega)
    rw [List.replicate_succ'] at z
    exact z
theorem FnFullOf : laws_FnFullOf.Pure := by
  intro l h1 h2 h3
  apply Ev.k
  unfold laws_FnFullOf.f
  by_cases hl : (l.length : Int) > 1048576
  · simp only [if_pos hl]; exact Ev.now _
  simp only [if_neg hl]
  obtain ⟨b, hb, eo⟩ := open_l l h3
  obtain ⟨v, hv, ev⟩ := ev_drawFull_l hb 9 0 [] 0 (by omega) (by simp) (by omega)
  have ed : Ev (fun k => spec_DrawFullOf.f k l) v := by
    unfold spec_DrawFullOf.f
    simp only [eo, Option.bind_some]
    exact ev
  have z := fullR_length v
  refine Ev.bind ed (Ev.bind (ev_iFull v (by omega)) (Ev.bind (ev_sFull v (by omega)) (Ev.bind (ev_sameInts (fullR v).1 (fullR v).1 (by omega)) ?_)))
  simp only [decide_true, if_true, bne_self_eq_false]
  refine Ev.step (fun k => by rw [laws_FnFullOf.j0]) ?_
  simp only [Bool.false_eq_true, if_false]
  exact flO_l v 9 0 (by omega)

end Go.Proofs.Ytcnbiknoehcfnaa.Pure
namespace Go.Proofs.Ytcnbiknoehcfnaa.PrintWords
/-- The printed row's word, under the name by which that row calls it. -/
abbrev sized_ints := @Go.Proofs.YtcnbiknoehcfnaaW.PrintWords.sized_ints
end Go.Proofs.Ytcnbiknoehcfnaa.PrintWords
