/- The divisors of a drawn number ascend from 1, and the first and the last one, the second and the last but one, and so on, have the number as their product. -/
import Derived.Test.YteeejjfoghmnpaaPFnDivisorsOfx0
import Derived.Test.YteeejjfoghmnpaaPFnDivisorsOfx1
import Derived.Test.YteeejjfoghmnpaaPFnDivisorsOfx2
import Derived.Test.YteeejjfoghmnpaaPFnDivisorsOfx3
import Derived.Test.YteeejjfoghmnpaaM1
import Derived.Test.YteeejjfoghmnpaaWSized
namespace Go.Proofs.Yteeejjfoghmnpaa.Pure
open Go.RowKit Go.Proofs.Yteeejjfoghmnpaa.PFnDivisorsOf Go.Proofs.YteeejjfoghmnpaaW.PrintWords Go.Proofs.YteeejjfoghmnpaaW.PrintLast Go.Proofs.YteeejjfoghmnpaaW.PrintMore Go.Proofs.Yteeejjfoghmnpaa.Math
set_option linter.unusedVariables false
set_option linter.unusedSimpArgs false
theorem w64 {x : Int} (h : -9223372036854775808 ≤ x ∧ x ≤ 9223372036854775807) : wrap64 x = x := by unfold wrap64; omega
theorem Ev.k {α : Type} {g : Nat → Option α} {r : α} (h : Ev g r) : ∃ k, g k = some r := Ev.rounds h
theorem Ev.to {α : Type} {g : Nat → Option α} {r s : α} (h : Ev g r) (e : r = s) : Ev g s := e ▸ h
theorem Ev.ret {α : Type} {r s : α} (e : r = s) : Ev (fun _ => some r) s := e ▸ Ev.now r

theorem numberOk_f (a : Int) : impl_numberOk.f a = some (decide (1 ≤ a ∧ a ≤ 10000)) := by
  unfold impl_numberOk.f
  by_cases h : a ≥ 1
  · rw [if_pos h]; simp [show 1 ≤ a from h]
  · rw [if_neg h]; simp [show ¬ 1 ≤ a from h]

theorem rd_nat (xs : List Int) (i : Nat) : rd xs (i : Int) = xs.getD i 0 := rfl
theorem drop_step (f : List Int) (i : Nat) (h : i < f.length) : f.drop i = f.getD i 0 :: f.drop (i + 1) := by
  rw [List.drop_eq_getElem_cons h]; simp [List.getD_eq_getElem?_getD, List.getElem?_eq_getElem h]
def InB (f : List Int) (m : Int) : Prop := ∀ x ∈ f, -m ≤ x ∧ x ≤ m
instance (f : List Int) (m : Int) : Decidable (InB f m) := by unfold InB; infer_instance
theorem InB_cons (x : Int) (f : List Int) (m : Int) : InB (x :: f) m ↔ (-m ≤ x ∧ x ≤ m) ∧ InB f m := by
  unfold InB; simp
theorem InB_nil (m : Int) : InB [] m := fun x h => by cases h
theorem InB.mono {f : List Int} {m n : Int} (h : InB f m) (hmn : m ≤ n) : InB f n := fun x hx => by have := h x hx; omega

theorem ext_getD {a b : List Int} (h : a.length = b.length) (e : ∀ t, t < a.length → a.getD t 0 = b.getD t 0) : a = b := by
  refine List.ext_getElem h (fun t h1 h2 => ?_)
  have := e t h1
  simpa [List.getD_eq_getElem?_getD, List.getElem?_eq_getElem h1, List.getElem?_eq_getElem h2] using this
theorem getD_set (a : List Int) (i : Nat) (x : Int) (t : Nat) (h : i < a.length) : (a.set i x).getD t 0 = if t = i then x else a.getD t 0 := by
  simp only [List.getD_eq_getElem?_getD, List.getElem?_set]
  by_cases e : i = t
  · subst e; simp [h]
  · simp [e, Ne.symm e]
def RevAt (l xs : List Int) (i : Nat) : Prop := xs.length = l.length ∧ ∀ t, t < l.length → xs.getD t 0 = if t < i ∨ l.length - i ≤ t then l.getD (l.length - 1 - t) 0 else l.getD t 0
theorem ev_Reverse_l (l : List Int) (hn : l.length ≤ 1000000000000) : ∀ (d i : Nat) (xs : List Int), RevAt l xs i → l.length ≤ 2 * i + d →
    Ev (fun k => slices_Reverse_int_int.l0 k xs (i : Int) ((l.length : Int) - 1 - (i : Int))) l.reverse := by
  intro d
  induction d with
  | zero =>
    intro i xs ⟨hl, hx⟩ hd
    refine Ev.step (fun k => by rw [slices_Reverse_int_int.l0]) ?_
    have h1 : ¬ (i : Int) < (l.length : Int) - 1 - (i : Int) := by omega
    simp only [if_neg h1]
    refine Ev.ret (ext_getD (by simp [hl]) (fun t ht => ?_))
    rw [hx t (by omega)]
    simp only [List.getD_eq_getElem?_getD]
    rw [List.getElem?_reverse (by omega), if_pos (by omega)]
  | succ d ih =>
    intro i xs ⟨hl, hx⟩ hd
    refine Ev.step (fun k => by rw [slices_Reverse_int_int.l0]) ?_
    by_cases h1 : (i : Int) < (l.length : Int) - 1 - (i : Int)
    · have a1 : (0 : Int) ≤ (l.length : Int) - 1 - (i : Int) := by omega
      have a2 : (l.length : Int) - 1 - (i : Int) < (xs.length : Int) := by omega
      have a3 : (0 : Int) ≤ (i : Int) := by omega
      have a4 : (i : Int) < (xs.length : Int) := by omega
      have ej : (l.length : Int) - 1 - (i : Int) = ((l.length - 1 - i : Nat) : Int) := by omega
      simp only [if_pos h1, if_pos a1, if_pos a2, if_pos a3, if_pos a4, w64 (x := (i : Int) + 1) (by omega), w64 (x := (l.length : Int) - 1 - (i : Int) - 1) (by omega)]
      rw [show (l.length : Int) - 1 - (i : Int) - 1 = (l.length : Int) - 1 - ((i + 1 : Nat) : Int) by omega, show (i : Int) + 1 = ((i + 1 : Nat) : Int) by omega]
      refine ih (i + 1) _ ⟨by simp [hl], fun t ht => ?_⟩ (by omega)
      rw [ej]
      simp only [Int.toNat_natCast, rd_nat]
      rw [getD_set _ _ _ _ (by simp; omega), getD_set _ _ _ _ (by omega)]
      by_cases e1 : t = l.length - 1 - i
      · rw [if_pos e1, if_pos (by omega), hx i (by omega), if_neg (by omega), e1]; congr 1; omega
      · rw [if_neg e1]
        by_cases e2 : t = i
        · rw [if_pos e2, if_pos (by omega), hx _ (by omega), if_neg (by omega), e2]
        · rw [if_neg e2, hx t ht]
          by_cases e3 : t < i ∨ l.length - i ≤ t
          · rw [if_pos e3, if_pos (by omega)]
          · rw [if_neg e3, if_neg (by omega)]
    · simp only [if_neg h1]
      refine Ev.ret (ext_getD (by simp [hl]) (fun t ht => ?_))
      rw [hx t (by omega)]
      simp only [List.getD_eq_getElem?_getD]
      rw [List.getElem?_reverse (by omega)]
      by_cases e3 : t < i ∨ l.length - i ≤ t
      · rw [if_pos e3]
      · rw [if_neg e3]; congr 2; omega
theorem ev_Reverse (l : List Int) (hn : l.length ≤ 1000000000000) : Ev (fun k => slices_Reverse_int_int.f k l) l.reverse := by
  unfold slices_Reverse_int_int.f
  rw [w64 (by omega)]
  have := ev_Reverse_l l hn l.length 0 l ⟨rfl, fun t ht => by rw [if_neg (by omega)]⟩ (by omega)
  simpa using this

/-- Natural numbers as the program's numbers. -/
def ints (l : List Nat) : List Int := l.map (fun x : Nat => (x : Int))
theorem ints_length (l : List Nat) : (ints l).length = l.length := by simp [ints]
theorem ints_append (l m : List Nat) : ints (l ++ m) = ints l ++ ints m := by simp [ints]
theorem ints_reverse (l : List Nat) : (ints l).reverse = ints l.reverse := by simp [ints]
theorem sq_le {d n : Nat} (h : d * d ≤ n) (hn : n ≤ 10000) : d ≤ 100 := by
  refine Nat.le_of_not_lt (fun hl => ?_)
  have := Nat.mul_le_mul (show 101 ≤ d from hl) (show 101 ≤ d from hl)
  omega
theorem ev_divisors_l (n : Nat) (h1 : 1 ≤ n) (hn : n ≤ 10000) : ∀ (m d : Nat), 1 ≤ d → d + m = 102 → (∀ x, x < d → x * x ≤ n) →
    Ev (fun k => impl_divisors.l0 k (n : Int) (ints (lowD n d)) (ints ((lowS n d).map (fun x => n / x))) (d : Int)) (ints (divs n)) := by
  intro m
  induction m with
  | zero =>
    intro d hd hm hlow
    have := hlow 101 (by omega)
    omega
  | succ m ih =>
    intro d hd hm hlow
    refine Ev.step (fun k => by rw [impl_divisors.l0]) ?_
    have dd : ((d * d : Nat) : Int) = (d : Int) * (d : Int) := by simp
    have hb : d * d ≤ 101 * 101 := Nat.mul_le_mul (by omega) (by omega)
    simp only [w64 (x := (d : Int) * (d : Int)) (by omega), w64 (x := (d : Int) + 1) (by omega)]
    by_cases hc : d * d ≤ n
    · have c1 : (d : Int) * (d : Int) ≤ (n : Int) := by omega
      have c2 : ¬ (d : Int) = 0 := by omega
      have low' : ∀ x, x < d + 1 → x * x ≤ n := fun x hx => by
        by_cases e : x = d
        · subst e; exact hc
        · exact hlow x (by omega)
      simp only [if_pos c1, if_neg c2, ← Int.ofNat_tmod, ← Int.ofNat_tdiv]
      have l1 : (ints (lowD n d)).length < 17592186044416 := by rw [ints_length]; have := length_lowD n d; omega
      have l2 : (ints ((lowS n d).map (fun x => n / x))).length < 17592186044416 := by rw [ints_length, List.length_map]; have := length_lowS n d; omega
      have ih' := ih (d + 1) (by omega) (by omega) low'
      by_cases hz : n % d = 0
      · have z1 : ((n % d : Nat) : Int) = 0 := by omega
        simp only [if_pos z1, if_pos l1, Option.bind_some]
        have eD : ints (lowD n (d + 1)) = ints (lowD n d) ++ [(d : Int)] := by rw [lowD_succ n d hd, if_pos hz, ints_append]; rfl
        by_cases hs : d * d < n
        · have s1 : (d : Int) * (d : Int) < (n : Int) := by omega
          have nb : n / d ≤ 10000 := Nat.le_trans (Nat.div_le_self _ _) hn
          have q0 : (0 : Int) ≤ ((n / d : Nat) : Int) := Int.natCast_nonneg _
          simp only [if_pos s1, if_pos l2, w64 (x := ((n / d : Nat) : Int)) (by omega)]
          rw [lowS_succ n d hd, if_pos ⟨hz, hs⟩, List.map_append, ints_append, eD] at ih'
          exact ih'
        · have s1 : ¬ (d : Int) * (d : Int) < (n : Int) := by omega
          simp only [if_neg s1]
          rw [lowS_succ n d hd, if_neg (fun h => hs h.2), eD] at ih'
          exact ih'
      · have z1 : ¬ ((n % d : Nat) : Int) = 0 := by omega
        simp only [if_neg z1]
        rw [lowD_succ n d hd, if_neg hz, lowS_succ n d hd, if_neg (fun h => hz h.1)] at ih'
        exact ih'
    · have c1 : ¬ (d : Int) * (d : Int) ≤ (n : Int) := by omega
      simp only [if_neg c1]
      have l2 : (ints ((lowS n d).map (fun x => n / x))).length ≤ 1000 := by rw [ints_length, List.length_map]; have := length_lowS n d; omega
      refine Ev.bind (ev_Reverse _ (by omega)) ?_
      have l3 : (ints (lowD n d)).length + (ints ((lowS n d).map (fun x => n / x))).reverse.length < 17592186044416 := by
        rw [List.length_reverse, ints_length]; have := length_lowD n d; omega
      simp only [if_pos l3]
      refine Ev.ret ?_
      rw [ints_reverse, ← ints_append, divs_parts n d h1 (by omega) hlow]
theorem ev_divisors (n : Nat) (h1 : 1 ≤ n) (hn : n ≤ 10000) : Ev (fun k => impl_divisors.f k (n : Int)) (ints (divs n)) := by
  unfold impl_divisors.f
  exact ev_divisors_l n h1 hn 101 1 (by omega) (by omega) (fun x hx => by
    have : x = 0 := by omega
    subst this; omega)

/-- The divisors of a number in its range; none for others. -/
def divsZ (n : Int) : List Int := if 1 ≤ n ∧ n ≤ 10000 then ints (divs n.toNat) else []
theorem divsZ_length (n : Int) : (divsZ n).length ≤ 10000 := by
  unfold divsZ
  by_cases h : 1 ≤ n ∧ n ≤ 10000
  · rw [if_pos h, ints_length]; have := length_divs_le n.toNat; omega
  · rw [if_neg h]; simp
theorem ev_DivisorsOf (n : Int) : Ev (fun k => impl_DivisorsOf.f k n) (divsZ n) := by
  unfold impl_DivisorsOf.f divsZ
  simp only [numberOk_f, Option.bind_some, decide_eq_true_eq]
  by_cases h : 1 ≤ n ∧ n ≤ 10000
  · obtain ⟨m, rfl⟩ := Int.eq_ofNat_of_zero_le (show 0 ≤ n by omega)
    simp only [if_pos h, Int.toNat_natCast]
    exact Ev.bind (ev_divisors m (by omega) (by omega)) (Ev.now _)
  · simp only [if_neg h]; exact Ev.now _

theorem ev_sDivisorsOf_l (n : Nat) (h1 : 1 ≤ n) (hn : n ≤ 10000) : ∀ (m d : Nat), 1 ≤ d → d + m = n + 1 →
    Ev (fun k => spec_DivisorsOf.l0 k (n : Int) (ints (lowD n d)) (d : Int)) (ints (divs n)) := by
  intro m
  induction m with
  | zero =>
    intro d hd hm
    refine Ev.step (fun k => by rw [spec_DivisorsOf.l0]) ?_
    have c : ¬ (d : Int) ≤ (n : Int) := by omega
    simp only [if_neg c]
    refine Ev.step (fun k => by rw [spec_DivisorsOf.j1]) ?_
    simp only [Bool.false_eq_true, if_false]
    refine Ev.ret ?_
    unfold lowD divs; rw [show d - 1 = n by omega]
  | succ m ih =>
    intro d hd hm
    refine Ev.step (fun k => by rw [spec_DivisorsOf.l0]) ?_
    have c : (d : Int) ≤ (n : Int) := by omega
    have c0 : (n : Int) ≤ 10000 := by omega
    simp only [if_pos c, decide_eq_true c0]
    refine Ev.step (fun k => by rw [spec_DivisorsOf.j1]) ?_
    have c2 : ¬ (d : Int) = 0 := by omega
    have l1 : (ints (lowD n d)).length < 17592186044416 := by rw [ints_length]; have := length_lowD n d; omega
    simp only [if_true, if_neg c2, if_pos l1, ← Int.ofNat_tmod, w64 (x := (d : Int) + 1) (by omega)]
    have ih' := ih (d + 1) (by omega) (by omega)
    rw [lowD_succ n d hd] at ih'
    by_cases hz : n % d = 0
    · have z1 : ((n % d : Nat) : Int) = 0 := by omega
      rw [if_pos hz, ints_append] at ih'
      simp only [if_pos z1]; exact ih'
    · have z1 : ¬ ((n % d : Nat) : Int) = 0 := by omega
      rw [if_neg hz] at ih'
      simp only [if_neg z1]; exact ih'
theorem ev_sDivisorsOf (n : Int) : Ev (fun k => spec_DivisorsOf.f k n) (divsZ n) := by
  unfold spec_DivisorsOf.f divsZ
  by_cases h : 1 ≤ n ∧ n ≤ 10000
  · obtain ⟨m, rfl⟩ := Int.eq_ofNat_of_zero_le (show 0 ≤ n by omega)
    rw [if_pos h]
    simp only [Int.toNat_natCast]
    exact ev_sDivisorsOf_l m (by omega) (by omega) m 1 (by omega) (by omega)
  · rw [if_neg h]
    refine Ev.step (fun k => by rw [spec_DivisorsOf.l0]) ?_
    by_cases c : (1 : Int) ≤ n
    · have c0 : ¬ n ≤ 10000 := by omega
      simp only [if_pos c, decide_eq_false c0]
      refine Ev.step (fun k => by rw [spec_DivisorsOf.j1]) ?_
      simp only [Bool.false_eq_true, if_false]; exact Ev.now _
    · simp only [if_neg c]
      refine Ev.step (fun k => by rw [spec_DivisorsOf.j1]) ?_
      simp only [Bool.false_eq_true, if_false]; exact Ev.now _

theorem ev_sameInts_l (a b : List Int) (hl : a.length = b.length) (ha : a.length ≤ 1000000000000000) : ∀ (d i : Nat), i + d = a.length →
    Ev (fun k => laws_sameInts.l0 k a b (i : Int)) (decide (a.drop i = b.drop i)) := by
  intro d
  induction d with
  | zero =>
    intro i hi
    refine Ev.step (fun k => by rw [laws_sameInts.l0]) ?_
    have h1 : ¬ (i : Int) < (a.length : Int) := by omega
    simp only [if_neg h1]
    refine Ev.ret ?_
    rw [List.drop_eq_nil_of_le (by omega), List.drop_eq_nil_of_le (by omega)]; simp
  | succ d ih =>
    intro i hi
    refine Ev.step (fun k => by rw [laws_sameInts.l0]) ?_
    have h1 : (i : Int) < (a.length : Int) := by omega
    have h2 : (0 : Int) ≤ (i : Int) := by omega
    have h3 : (i : Int) < (b.length : Int) := by omega
    have ea := drop_step a i (by omega)
    have eb := drop_step b i (by omega)
    simp only [if_pos h1, if_pos h2, if_pos h3, rd_nat, w64 (x := (i : Int) + 1) (by omega)]
    by_cases e : a.getD i 0 = b.getD i 0
    · simp only [if_pos e]
      refine Ev.to (ih (i + 1) (by omega)) ?_
      rw [ea, eb, e]; simp
    · simp only [if_neg e]
      refine Ev.ret ?_
      rw [ea, eb]; simp only [List.cons.injEq, e, false_and, decide_false]
theorem ev_sameInts (a b : List Int) (ha : a.length ≤ 1000000000000000) : Ev (fun k => laws_sameInts.f k a b) (decide (a = b)) := by
  unfold laws_sameInts.f
  by_cases h : (a.length : Int) = (b.length : Int)
  · simp only [if_pos h]
    exact ev_sameInts_l a b (by omega) ha a.length 0 (by omega)
  · simp only [if_neg h]
    refine Ev.ret ?_
    symm; rw [decide_eq_false_iff_not]
    intro e; subst e; exact h rfl

theorem ev_ascend_l (l : List Int) (hp : l.Pairwise (· < ·)) (hl : l.length ≤ 1000000000000) : ∀ (d i : Nat), 1 ≤ i → l.length ≤ i + d →
    Ev (fun k => laws_ascend.l0 k l (i : Int)) true := by
  intro d
  induction d with
  | zero =>
    intro i h0 hi
    refine Ev.step (fun k => by rw [laws_ascend.l0]) ?_
    have h1 : ¬ (i : Int) < (l.length : Int) := by omega
    simp only [if_neg h1]
    exact Ev.now _
  | succ d ih =>
    intro i h0 hi
    refine Ev.step (fun k => by rw [laws_ascend.l0]) ?_
    by_cases h1 : (i : Int) < (l.length : Int)
    · have h2 : (0 : Int) ≤ (i : Int) := by omega
      have h3 : (0 : Int) ≤ (i : Int) - 1 := by omega
      have h4 : (i : Int) - 1 < (l.length : Int) := by omega
      have h5 : ¬ rd l ((i : Int) - 1) ≥ rd l (i : Int) := by
        have := List.pairwise_iff_getElem.1 hp (i - 1) i (by omega) (by omega) (by omega)
        rw [show (i : Int) - 1 = ((i - 1 : Nat) : Int) by omega, rd_nat, rd_nat, List.getD_eq_getElem?_getD, List.getD_eq_getElem?_getD, List.getElem?_eq_getElem (by omega), List.getElem?_eq_getElem (by omega)]
        simp only [Option.getD_some]; omega
      simp only [w64 (x := (i : Int) - 1) (by omega), if_pos h1, if_pos h2, if_pos h3, if_pos h4, if_neg h5, w64 (x := (i : Int) + 1) (by omega)]
      exact ih (i + 1) (by omega) (by omega)
    · simp only [if_neg h1]
      exact Ev.now _
theorem ev_ascend (l : List Int) (hp : l.Pairwise (· < ·)) (hl : l.length ≤ 1000000000000) : Ev (fun k => laws_ascend.f k l) true := by
  unfold laws_ascend.f
  exact ev_ascend_l l hp hl l.length 1 (by omega) (by omega)

theorem wf_u8 {x : Int} (h : (Lit.int .u8 x).wf = true) : 0 ≤ x ∧ x ≤ 255 := by
  simp [Lit.wf, IntKind.wrap, IntKind.bits, IntKind.signed, IntKind.min, IntKind.max] at h; omega
theorem wf_i64 {x : Int} (h : (Lit.int .i64 x).wf = true) : -9223372036854775808 ≤ x ∧ x ≤ 9223372036854775807 := by
  simp [Lit.wf, IntKind.wrap, IntKind.bits, IntKind.signed, IntKind.min, IntKind.max] at h; omega
theorem xor_nonneg (x y : Int) (h0 : 0 ≤ x) (h1 : x < 4611686018427387904) (h2 : 0 ≤ y) (h3 : y < 4611686018427387904) : 0 ≤ Go.bits .xor .i64 x y := by
  obtain ⟨a, rfl⟩ := Int.eq_ofNat_of_zero_le h0
  obtain ⟨b, rfl⟩ := Int.eq_ofNat_of_zero_le h2
  have ha : a < 2 ^ 62 := by omega
  have hb : b < 2 ^ 62 := by omega
  have hx := Nat.xor_lt_two_pow ha hb
  have ha' : a % 2 ^ 64 = a := Nat.mod_eq_of_lt (by omega)
  have hb' : b % 2 ^ 64 = b := Nat.mod_eq_of_lt (by omega)
  have e : Go.bits .xor .i64 ((a : Nat) : Int) ((b : Nat) : Int) = IntKind.i64.wrap ((a ^^^ b : Nat) : Int) := by
    simp only [Go.bits, IntKind.bits, BitVec.ofInt_natCast]
    show IntKind.i64.wrap (((BitVec.ofNat 64 a ^^^ BitVec.ofNat 64 b).toNat : Nat) : Int) = _
    rw [BitVec.toNat_xor, BitVec.toNat_ofNat, BitVec.toNat_ofNat, ha', hb']
  rw [e]
  simp only [IntKind.wrap, IntKind.bits, IntKind.signed]
  simp
  omega
/-- The bytes of a draw. -/
def Bytes (b : List Int) : Prop := b.length ≤ 2000 ∧ ∀ x ∈ b, 0 ≤ x ∧ x ≤ 255
theorem Bytes.rd {b : List Int} (hb : Bytes b) (i : Int) : 0 ≤ rd b i ∧ rd b i ≤ 255 := by
  show 0 ≤ b.getD i.toNat 0 ∧ b.getD i.toNat 0 ≤ 255
  rw [List.getD_eq_getElem?_getD]
  by_cases h : i.toNat < b.length
  · rw [List.getElem?_eq_getElem h]; exact hb.2 _ (List.getElem_mem _)
  · rw [List.getElem?_eq_none (by omega)]; simp
theorem ev_pick {b : List Int} (hb : Bytes b) (p n : Int) (hp : 0 ≤ p ∧ p ≤ 1000000) (hn : 1 ≤ n ∧ n ≤ 1000000000000) :
    ∃ r, (0 ≤ r ∧ r < n) ∧ Ev (fun k => spec_l20Rd_pick.f k b p n) (r, p + 1) := by
  have g0 : ¬ n < 1 := by omega
  unfold spec_l20Rd_pick.f
  simp only [if_neg g0, w64 (x := p + 1) (by omega)]
  have e1 : p + 1 - 1 = p := by omega
  by_cases h0 : (b.length : Int) = 0
  · refine ⟨0, by omega, Ev.step (fun k => by rw [spec_l20Rd_pick.j0]) ?_⟩
    simp only [h0, beq_self_eq_true, if_true]; exact Ev.now _
  have hl := hb.1
  have n0 : ¬ n = 0 := by omega
  by_cases h1 : p < (b.length : Int)
  · have hr := hb.rd p
    refine ⟨Int.tmod (rd b p) n, ?_, Ev.step (fun k => by rw [spec_l20Rd_pick.j0]) ?_⟩
    · rw [Int.tmod_eq_emod_of_nonneg hr.1]; exact ⟨Int.emod_nonneg _ n0, Int.emod_lt_of_pos _ (by omega)⟩
    · simp only [e1, w64 (x := p) (by omega), beq_eq_false_iff_ne.2 h0, Bool.false_eq_true, if_false, if_pos h1, if_pos hp.1, if_neg n0, w64 (x := rd b p) (by omega)]
      exact Ev.now _
  · have L0 : (0 : Int) < (b.length : Int) := by omega
    have m1 : Int.tmod p (b.length : Int) = p % (b.length : Int) := Int.tmod_eq_emod_of_nonneg hp.1
    have m2 : Int.tmod (p * 7 + 3) (b.length : Int) = (p * 7 + 3) % (b.length : Int) := Int.tmod_eq_emod_of_nonneg (by omega)
    have q1 : Int.tdiv p (b.length : Int) = p / (b.length : Int) := Int.tdiv_eq_ediv_of_nonneg hp.1
    have a1 := Int.emod_nonneg p (show (b.length : Int) ≠ 0 from h0)
    have a2 := Int.emod_lt_of_pos p L0
    have a3 := Int.emod_nonneg (p * 7 + 3) (show (b.length : Int) ≠ 0 from h0)
    have a4 := Int.emod_lt_of_pos (p * 7 + 3) L0
    have a5 : 0 ≤ p / (b.length : Int) := Int.ediv_nonneg hp.1 (by omega)
    have a6 : p / (b.length : Int) ≤ p := Int.ediv_le_self _ hp.1
    have u := hb.rd (p % (b.length : Int))
    have v := hb.rd ((p * 7 + 3) % (b.length : Int))
    generalize hU : rd b (p % (b.length : Int)) = U at *
    generalize hV : rd b ((p * 7 + 3) % (b.length : Int)) = V at *
    generalize hQ : p / (b.length : Int) = Q at *
    generalize hM : p % (b.length : Int) = M at *
    generalize hM2 : (p * 7 + 3) % (b.length : Int) = M2 at *
    generalize hX : U * 131 + V * 1117 + p * 29 + Q * 53 = X at *
    have x0 : 0 ≤ X := by omega
    have x1 : X ≤ 1000000000000 := by omega
    have d1 : Int.tdiv X 64 = X / 64 := Int.tdiv_eq_ediv_of_nonneg x0
    have y := xor_nonneg X (X / 64) x0 (by omega) (by omega) (by omega)
    refine ⟨Int.tmod (Go.bits .xor .i64 X (X / 64)) n, ?_, Ev.step (fun k => by rw [spec_l20Rd_pick.j0]) ?_⟩
    · rw [Int.tmod_eq_emod_of_nonneg y]; exact ⟨Int.emod_nonneg _ n0, Int.emod_lt_of_pos _ (by omega)⟩
    · simp only [e1, w64 (x := p) (by omega), w64 (x := p * 7) (by omega), w64 (x := p * 7 + 3) (by omega), beq_eq_false_iff_ne.2 h0, Bool.false_eq_true, if_false, if_neg h1, if_neg h0, m1, m2, q1, if_pos a1, if_pos a2, if_pos a3, if_pos a4, if_neg n0, hU, hV, w64 (x := U) (by omega), w64 (x := V) (by omega), w64 (x := U * 131) (by omega), w64 (x := V * 1117) (by omega), w64 (x := U * 131 + V * 1117) (by omega), w64 (x := p * 29) (by omega), w64 (x := U * 131 + V * 1117 + p * 29) (by omega), w64 (x := Q) (by omega), w64 (x := Q * 53) (by omega), hX, w64 (x := X) (by omega), d1, w64 (x := X / 64) (by omega)]
      exact Ev.now _

theorem open_l (l : List Int) (h : ∀ x ∈ l, (Lit.int .u8 x).wf = true) : ∃ b, Bytes b ∧ spec_l20Open.f l = some (b, 0) := by
  unfold spec_l20Open.f
  by_cases c : (l.length : Int) > 2000
  · refine ⟨l.take 2000, ⟨by simp; omega, fun x hx => wf_u8 (h x (List.mem_of_mem_take hx))⟩, ?_⟩
    rw [if_pos c, if_pos (by omega)]
  · exact ⟨l, ⟨by omega, fun x hx => wf_u8 (h x hx)⟩, by rw [if_neg c]⟩

theorem rd7 (a b c d e f g : Int) (i : Int) (h : 0 ≤ i ∧ i < 7) (lo hi : Int) (ha : lo ≤ a ∧ a ≤ hi) (hb : lo ≤ b ∧ b ≤ hi) (hc : lo ≤ c ∧ c ≤ hi) (hd : lo ≤ d ∧ d ≤ hi) (he : lo ≤ e ∧ e ≤ hi) (hf : lo ≤ f ∧ f ≤ hi) (hg : lo ≤ g ∧ g ≤ hi) :
    lo ≤ rd [a, b, c, d, e, f, g] i ∧ rd [a, b, c, d, e, f, g] i ≤ hi := by
  obtain ⟨n, rfl⟩ := Int.eq_ofNat_of_zero_le h.1
  have : n = 0 ∨ n = 1 ∨ n = 2 ∨ n = 3 ∨ n = 4 ∨ n = 5 ∨ n = 6 := by omega
  rcases this with rfl | rfl | rfl | rfl | rfl | rfl | rfl <;> assumption
theorem mul_bd {a b A B : Int} (ha : 0 ≤ a ∧ a ≤ A) (hb : 0 ≤ b ∧ b ≤ B) : 0 ≤ a * b ∧ a * b ≤ A * B :=
  ⟨Int.mul_nonneg ha.1 hb.1, Int.mul_le_mul ha.2 hb.2 hb.1 (by omega)⟩
theorem ev_some {b : List Int} (hb : Bytes b) (p : Int) (hp : 0 ≤ p ∧ p ≤ 999900) :
    ∃ v q, (-20000 ≤ v ∧ v ≤ 40000) ∧ (p ≤ q ∧ q ≤ p + 8) ∧ Ev (fun k => spec_l20Some.f k b p) (v, q) := by
  unfold spec_l20Some.f
  obtain ⟨r1, b1, e1⟩ := ev_pick hb p 12 (by omega) (by omega)
  obtain ⟨r2, b2, e2⟩ := ev_pick hb (p + 1) 60 (by omega) (by omega)
  obtain ⟨r3, b3, e3⟩ := ev_pick hb (p + 1 + 1) 100 (by omega) (by omega)
  obtain ⟨r4, b4, e4⟩ := ev_pick hb (p + 1 + 1 + 1) 100 (by omega) (by omega)
  obtain ⟨r5, b5, e5⟩ := ev_pick hb (p + 1 + 1 + 1 + 1) 60 (by omega) (by omega)
  obtain ⟨r6, b6, e6⟩ := ev_pick hb (p + 1 + 1 + 1 + 1 + 1) 13 (by omega) (by omega)
  obtain ⟨r7, b7, e7⟩ := ev_pick hb (p + 1 + 1 + 1 + 1 + 1 + 1) 40 (by omega) (by omega)
  obtain ⟨r8, b8, e8⟩ := ev_pick hb (p + 1 + 1 + 1 + 1 + 1 + 1 + 1) 50 (by omega) (by omega)
  have m := mul_bd (a := r3) (b := r4) (A := 99) (B := 99) (by omega) (by omega)
  have d6 : Int.tdiv r6 2 = r6 / 2 := Int.tdiv_eq_ediv_of_nonneg b6.1
  have d7 : Int.tdiv r7 39 = r7 / 39 := Int.tdiv_eq_ediv_of_nonneg b7.1
  have d8 : Int.tdiv r8 49 = r8 / 49 := Int.tdiv_eq_ediv_of_nonneg b8.1
  have RB := rd7 (1 + r1) (1 + r2) (1 + r3 * r4) (12 * (1 + r5)) 9973 8192 9240 (r6 / 2) (by omega) 1 9973 (by omega) (by omega) (by omega) (by omega) (by omega) (by omega) (by omega)
  generalize hR : rd [1 + r1, 1 + r2, 1 + r3 * r4, 12 * (1 + r5), 9973, 8192, 9240] (r6 / 2) = R at *
  refine ⟨R + r7 / 39 * 10000 - r8 / 49 * 20000, p + 1 + 1 + 1 + 1 + 1 + 1 + 1 + 1, by omega, by omega, ?_⟩
  refine Ev.bind e1 (Ev.bind e2 (Ev.bind e3 (Ev.bind e4 (Ev.bind e5 ?_))))
  simp only [Option.bind_some, w64 (x := 1 + r1) (by omega), w64 (x := 1 + r2) (by omega), w64 (x := r3 * r4) (by omega), w64 (x := 1 + r3 * r4) (by omega), w64 (x := 1 + r5) (by omega), w64 (x := 12 * (1 + r5)) (by omega)]
  refine Ev.bind e6 ?_
  have c1 : 0 ≤ r6 / 2 := by omega
  have c2 : r6 / 2 < (([1 + r1, 1 + r2, 1 + r3 * r4, 12 * (1 + r5), 9973, 8192, 9240] : List Int).length : Int) := by simp; omega
  simp only [d6, w64 (x := r6 / 2) (by omega), if_pos c1, if_pos c2]
  refine Ev.bind e7 (Ev.bind e8 ?_)
  simp only [hR, d7, d8, w64 (x := r7 / 39) (by omega), w64 (x := r8 / 49) (by omega), w64 (x := r7 / 39 * 10000) (by omega), w64 (x := r8 / 49 * 20000) (by omega), w64 (x := R + r7 / 39 * 10000) (by omega), w64 (x := R + r7 / 39 * 10000 - r8 / 49 * 20000) (by omega)]
  exact Ev.now _

theorem alive_f : laws_alive.f = some true := by
  unfold laws_alive.f impl_DividesOk.f
  simp only [numberOk_f, Option.bind_some]; simp

theorem ints_getD (l : List Nat) (i : Nat) : (ints l).getD i 0 = ((l.getD i 0 : Nat) : Int) := by
  unfold ints; simp only [List.getD_eq_getElem?_getD, List.getElem?_map]
  cases l[i]? <;> simp
theorem ints_sorted {l : List Nat} (h : l.Pairwise (· < ·)) : (ints l).Pairwise (· < ·) := by
  unfold ints; rw [List.pairwise_map]; exact h.imp (fun h => by omega)
theorem pair_divs (n : Nat) (hn : 1 ≤ n) (i : Nat) (hi : i < (divs n).length) : (divs n).getD i 0 * (divs n).getD ((divs n).length - 1 - i) 0 = n := by
  have e := pairs_divs n hn
  have e2 : (divs n).getD ((divs n).length - 1 - i) 0 = n / (divs n).getD i 0 := by
    have h2 : (((divs n).map (fun x => n / x)).reverse).getD ((divs n).length - 1 - i) 0 = n / (divs n).getD i 0 := by
      rw [List.getD_eq_getElem?_getD, List.getElem?_reverse (by simp; omega)]
      simp only [List.length_map, List.getElem?_map]
      rw [show (divs n).length - 1 - ((divs n).length - 1 - i) = i by omega, List.getD_eq_getElem?_getD, List.getElem?_eq_getElem hi]; simp
    rw [e] at h2; exact h2
  rw [e2]
  have hm : (divs n).getD i 0 ∈ divs n := by
    rw [List.getD_eq_getElem?_getD, List.getElem?_eq_getElem hi]; exact List.getElem_mem _
  exact Nat.mul_div_cancel' (Nat.dvd_of_mod_eq_zero (mem_divs.1 hm).2.2)
theorem ev_pairs_loop (n : Nat) (h1 : 1 ≤ n) (hn : n ≤ 10000) : ∀ (m i : Nat), i + m = (divs n).length →
    Ev (fun k => laws_FnDivisorsOf.l0 k (n : Int) (ints (divs n)) (i : Int)) true := by
  intro m
  have hl := length_divs_le n
  have el : ((ints (divs n)).length : Int) = ((divs n).length : Int) := by rw [ints_length]
  induction m with
  | zero =>
    intro i hi
    refine Ev.step (fun k => by rw [laws_FnDivisorsOf.l0]) ?_
    have c : ¬ (i : Int) < ((divs n).length : Int) := by omega
    have c0 : 0 < ((divs n).length : Int) := by
      have := List.length_pos_of_mem (one_mem_divs h1); omega
    have c1 : rd (ints (divs n)) 0 = 1 := by
      show (ints (divs n)).getD 0 0 = 1
      rw [ints_getD]
      have hs := divs_sorted n
      have hm := one_mem_divs h1
      match hd : divs n, hm with
      | x :: t, hm =>
        have x1 : 1 ≤ x := (mem_divs.1 (show x ∈ divs n by rw [hd]; simp)).1
        rw [hd] at hs
        simp only [List.getD_cons_zero]
        rcases List.mem_cons.1 hm with e | e
        · omega
        · have := (List.pairwise_cons.1 hs).1 1 e; omega
    simp only [el, if_neg c, if_pos c0, if_pos c1]
    exact Ev.bind (ev_ascend _ (ints_sorted (divs_sorted n)) (by rw [ints_length]; omega)) (Ev.now _)
  | succ m ih =>
    intro i hi
    refine Ev.step (fun k => by rw [laws_FnDivisorsOf.l0]) ?_
    have c : (i : Int) < ((divs n).length : Int) := by omega
    have c1 : 0 ≤ (i : Int) := by omega
    have c2 : 0 ≤ ((divs n).length : Int) - 1 - (i : Int) := by omega
    have c3 : ((divs n).length : Int) - 1 - (i : Int) < ((divs n).length : Int) := by omega
    have p := pair_divs n h1 i (by omega)
    have e : rd (ints (divs n)) (i : Int) * rd (ints (divs n)) (((divs n).length : Int) - 1 - (i : Int)) = (n : Int) := by
      rw [show ((divs n).length : Int) - 1 - (i : Int) = (((divs n).length - 1 - i : Nat) : Int) by omega]
      show (ints (divs n)).getD i 0 * (ints (divs n)).getD ((divs n).length - 1 - i) 0 = _
      rw [ints_getD, ints_getD, ← Int.natCast_mul, p]
    simp only [el, w64 (x := ((divs n).length : Int) - 1) (by omega), w64 (x := ((divs n).length : Int) - 1 - (i : Int)) (by omega), w64 (x := (i : Int) + 1) (by omega), if_pos c, if_pos c1, if_pos c2, if_pos c3, e, w64 (x := (n : Int)) (by omega), if_true]
    exact ih (i + 1) (by omega)
theorem FnDivisorsOf : laws_FnDivisorsOf.Pure := by
  intro l h1 h2 h3
  apply Ev.k
  unfold laws_FnDivisorsOf.f
  by_cases hl : (l.length : Int) > 1048576
  · simp only [if_pos hl]; exact Ev.now _
  simp only [if_neg hl]
  obtain ⟨b, hb, eo⟩ := open_l l h3
  obtain ⟨x, q, hx, hq, ex⟩ := ev_some hb 0 (by omega)
  have ed : Ev (fun k => spec_DrawDivisorsOf.f k l) x := by
    unfold spec_DrawDivisorsOf.f
    simp only [eo, Option.bind_some]
    exact Ev.bind ex (Ev.now _)
  refine Ev.bind ed ?_
  have hz := divsZ_length x
  refine Ev.bind (ev_DivisorsOf x) (Ev.bind (ev_sDivisorsOf x) (Ev.bind (ev_sameInts (divsZ x) (divsZ x) (by omega)) ?_))
  simp only [decide_true, if_true]
  by_cases h : 1 ≤ x ∧ x ≤ 10000
  · obtain ⟨n, rfl⟩ := Int.eq_ofNat_of_zero_le (show 0 ≤ x by omega)
    have e : divsZ (n : Int) = ints (divs n) := by unfold divsZ; rw [if_pos h, Int.toNat_natCast]
    have c0 : ¬ ((ints (divs n)).length : Int) = 0 := by
      have := List.length_pos_of_mem (one_mem_divs (n := n) (by omega)); rw [ints_length]; omega
    simp only [e, if_neg c0]
    exact ev_pairs_loop n (by omega) (by omega) (divs n).length 0 (by omega)
  · have e : divsZ x = [] := by unfold divsZ; rw [if_neg h]
    simp only [e, List.length_nil, Int.natCast_zero, if_true, alive_f, Option.bind_some]
    exact Ev.now _

end Go.Proofs.Yteeejjfoghmnpaa.Pure
namespace Go.Proofs.Yteeejjfoghmnpaa.PrintWords
/-- The printed row's word, under the name by which that row calls it. -/
abbrev sized_ints := @Go.Proofs.YteeejjfoghmnpaaW.PrintWords.sized_ints
end Go.Proofs.Yteeejjfoghmnpaa.PrintWords
