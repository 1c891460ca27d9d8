/- The program's DivisorsOf and the reference's tell the same lists for all numbers, in memory of their own. -/
import Derived.Test.YteeejjfoghmnpaaPFnExactDivisorsOfx0
import Derived.Test.YteeejjfoghmnpaaPFnExactDivisorsOfx1
import Derived.Test.YteeejjfoghmnpaaPFnExactDivisorsOfx2
import Derived.Test.YteeejjfoghmnpaaM1
namespace Go.Proofs.Yteeejjfoghmnpaa.Pure
open Go.RowKit Go.Proofs.Yteeejjfoghmnpaa.PFnExactDivisorsOf Go.Proofs.YteeejjfoghmnpaaW.PrintWords Go.Proofs.YteeejjfoghmnpaaW.PrintLast Go.Proofs.YteeejjfoghmnpaaW.PrintMore Go.Proofs.Yteeejjfoghmnpaa.Math
set_option linter.unusedVariables false
set_option linter.unusedSimpArgs false
theorem w64 {x : Int} (h : -9223372036854775808 ≤ x ∧ x ≤ 9223372036854775807) : wrap64 x = x := by unfold wrap64; omega
theorem Ev.k {α : Type} {g : Nat → Option α} {r : α} (h : Ev g r) : ∃ k, g k = some r := Ev.rounds h
theorem Ev.to {α : Type} {g : Nat → Option α} {r s : α} (h : Ev g r) (e : r = s) : Ev g s := e ▸ h
theorem Ev.ret {α : Type} {r s : α} (e : r = s) : Ev (fun _ => some r) s := e ▸ Ev.now r

theorem numberOk_f (a : Int) : impl_numberOk.f a = some (decide (1 ≤ a ∧ a ≤ 10000)) := by
  unfold impl_numberOk.f
  by_cases h : a ≥ 1
  · rw [if_pos h]; simp [show 1 ≤ a from h]
  · rw [if_neg h]; simp [show ¬ 1 ≤ a from h]

theorem rd_nat (xs : List Int) (i : Nat) : rd xs (i : Int) = xs.getD i 0 := rfl
theorem drop_step (f : List Int) (i : Nat) (h : i < f.length) : f.drop i = f.getD i 0 :: f.drop (i + 1) := by
  rw [List.drop_eq_getElem_cons h]; simp [List.getD_eq_getElem?_getD, List.getElem?_eq_getElem h]
def InB (f : List Int) (m : Int) : Prop := ∀ x ∈ f, -m ≤ x ∧ x ≤ m
instance (f : List Int) (m : Int) : Decidable (InB f m) := by unfold InB; infer_instance
theorem InB_cons (x : Int) (f : List Int) (m : Int) : InB (x :: f) m ↔ (-m ≤ x ∧ x ≤ m) ∧ InB f m := by
  unfold InB; simp
theorem InB_nil (m : Int) : InB [] m := fun x h => by cases h
theorem InB.mono {f : List Int} {m n : Int} (h : InB f m) (hmn : m ≤ n) : InB f n := fun x hx => by have := h x hx; omega

theorem ext_getD {a b : List Int} (h : a.length = b.length) (e : ∀ t, t < a.length → a.getD t 0 = b.getD t 0) : a = b := by
  refine List.ext_getElem h (fun t h1 h2 => ?_)
  have := e t h1
  simpa [List.getD_eq_getElem?_getD, List.getElem?_eq_getElem h1, List.getElem?_eq_getElem h2] using this
theorem getD_set (a : List Int) (i : Nat) (x : Int) (t : Nat) (h : i < a.length) : (a.set i x).getD t 0 = if t = i then x else a.getD t 0 := by
  simp only [List.getD_eq_getElem?_getD, List.getElem?_set]
  by_cases e : i = t
  · subst e; simp [h]
  · simp [e, Ne.symm e]
def RevAt (l xs : List Int) (i : Nat) : Prop := xs.length = l.length ∧ ∀ t, t < l.length → xs.getD t 0 = if t < i ∨ l.length - i ≤ t then l.getD (l.length - 1 - t) 0 else l.getD t 0
theorem ev_Reverse_l (l : List Int) (hn : l.length ≤ 1000000000000) : ∀ (d i : Nat) (xs : List Int), RevAt l xs i → l.length ≤ 2 * i + d →
    Ev (fun k => slices_Reverse_int_int.l0 k xs (i : Int) ((l.length : Int) - 1 - (i : Int))) l.reverse := by
  intro d
  induction d with
  | zero =>
    intro i xs ⟨hl, hx⟩ hd
    refine Ev.step (fun k => by rw [slices_Reverse_int_int.l0]) ?_
    have h1 : ¬ (i : Int) < (l.length : Int) - 1 - (i : Int) := by omega
    simp only [if_neg h1]
    refine Ev.ret (ext_getD (by simp [hl]) (fun t ht => ?_))
    rw [hx t (by omega)]
    simp only [List.getD_eq_getElem?_getD]
    rw [List.getElem?_reverse (by omega), if_pos (by omega)]
  | succ d ih =>
    intro i xs ⟨hl, hx⟩ hd
    refine Ev.step (fun k => by rw [slices_Reverse_int_int.l0]) ?_
    by_cases h1 : (i : Int) < (l.length : Int) - 1 - (i : Int)
    · have a1 : (0 : Int) ≤ (l.length : Int) - 1 - (i : Int) := by omega
      have a2 : (l.length : Int) - 1 - (i : Int) < (xs.length : Int) := by omega
      have a3 : (0 : Int) ≤ (i : Int) := by omega
      have a4 : (i : Int) < (xs.length : Int) := by omega
      have ej : (l.length : Int) - 1 - (i : Int) = ((l.length - 1 - i : Nat) : Int) := by omega
      simp only [if_pos h1, if_pos a1, if_pos a2, if_pos a3, if_pos a4, w64 (x := (i : Int) + 1) (by omega), w64 (x := (l.length : Int) - 1 - (i : Int) - 1) (by omega)]
      rw [show (l.length : Int) - 1 - (i : Int) - 1 = (l.length : Int) - 1 - ((i + 1 : Nat) : Int) by omega, show (i : Int) + 1 = ((i + 1 : Nat) : Int) by omega]
      refine ih (i + 1) _ ⟨by simp [hl], fun t ht => ?_⟩ (by omega)
      rw [ej]
      simp only [Int.toNat_natCast, rd_nat]
      rw [getD_set _ _ _ _ (by simp; omega), getD_set _ _ _ _ (by omega)]
      by_cases e1 : t = l.length - 1 - i
      · rw [if_pos e1, if_pos (by omega), hx i (by omega), if_neg (by omega), e1]; congr 1; omega
      · rw [if_neg e1]
        by_cases e2 : t = i
        · rw [if_pos e2, if_pos (by omega), hx _ (by omega), if_neg (by omega), e2]
        · rw [if_neg e2, hx t ht]
          by_cases e3 : t < i ∨ l.length - i ≤ t
          · rw [if_pos e3, if_pos (by omega)]
          · rw [if_neg e3, if_neg (by omega)]
    · simp only [if_neg h1]
      refine Ev.ret (ext_getD (by simp [hl]) (fun t ht => ?_))
      rw [hx t (by omega)]
      simp only [List.getD_eq_getElem?_getD]
      rw [List.getElem?_reverse (by omega)]
      by_cases e3 : t < i ∨ l.length - i ≤ t
      · rw [if_pos e3]
      · rw [if_neg e3]; congr 2; omega
theorem ev_Reverse (l : List Int) (hn : l.length ≤ 1000000000000) : Ev (fun k => slices_Reverse_int_int.f k l) l.reverse := by
  unfold slices_Reverse_int_int.f
  rw [w64 (by omega)]
  have := ev_Reverse_l l hn l.length 0 l ⟨rfl, fun t ht => by rw [if_neg (by omega)]⟩ (by omega)
  simpa using this

/-- Natural numbers as the program's numbers. -/
def ints (l : List Nat) : List Int := l.map (fun x : Nat => (x : Int))
theorem ints_length (l : List Nat) : (ints l).length = l.length := by simp [ints]
theorem ints_append (l m : List Nat) : ints (l ++ m) = ints l ++ ints m := by simp [ints]
theorem ints_reverse (l : List Nat) : (ints l).reverse = ints l.reverse := by simp [ints]
theorem sq_le {d n : Nat} (h : d * d ≤ n) (hn : n ≤ 10000) : d ≤ 100 := by
  refine Nat.le_of_not_lt (fun hl => ?_)
  have := Nat.mul_le_mul (show 101 ≤ d from hl) (show 101 ≤ d from hl)
  omega
theorem ev_divisors_l (n : Nat) (h1 : 1 ≤ n) (hn : n ≤ 10000) : ∀ (m d : Nat), 1 ≤ d → d + m = 102 → (∀ x, x < d → x * x ≤ n) →
    Ev (fun k => impl_divisors.l0 k (n : Int) (ints (lowD n d)) (ints ((lowS n d).map (fun x => n / x))) (d : Int)) (ints (divs n)) := by
  intro m
  induction m with
  | zero =>
    intro d hd hm hlow
    have := hlow 101 (by omega)
    omega
  | succ m ih =>
    intro d hd hm hlow
    refine Ev.step (fun k => by rw [impl_divisors.l0]) ?_
    have dd : ((d * d : Nat) : Int) = (d : Int) * (d : Int) := by simp
    have hb : d * d ≤ 101 * 101 := Nat.mul_le_mul (by omega) (by omega)
    simp only [w64 (x := (d : Int) * (d : Int)) (by omega), w64 (x := (d : Int) + 1) (by omega)]
    by_cases hc : d * d ≤ n
    · have c1 : (d : Int) * (d : Int) ≤ (n : Int) := by omega
      have c2 : ¬ (d : Int) = 0 := by omega
      have low' : ∀ x, x < d + 1 → x * x ≤ n := fun x hx => by
        by_cases e : x = d
        · subst e; exact hc
        · exact hlow x (by omega)
      simp only [if_pos c1, if_neg c2, ← Int.ofNat_tmod, ← Int.ofNat_tdiv]
      have l1 : (ints (lowD n d)).length < 17592186044416 := by rw [ints_length]; have := length_lowD n d; omega
      have l2 : (ints ((lowS n d).map (fun x => n / x))).length < 17592186044416 := by rw [ints_length, List.length_map]; have := length_lowS n d; omega
      have ih' := ih (d + 1) (by omega) (by omega) low'
      by_cases hz : n % d = 0
      · have z1 : ((n % d : Nat) : Int) = 0 := by omega
        simp only [if_pos z1, if_pos l1, Option.bind_some]
        have eD : ints (lowD n (d + 1)) = ints (lowD n d) ++ [(d : Int)] := by rw [lowD_succ n d hd, if_pos hz, ints_append]; rfl
        by_cases hs : d * d < n
        · have s1 : (d : Int) * (d : Int) < (n : Int) := by omega
          have nb : n / d ≤ 10000 := Nat.le_trans (Nat.div_le_self _ _) hn
          have q0 : (0 : Int) ≤ ((n / d : Nat) : Int) := Int.natCast_nonneg _
          simp only [if_pos s1, if_pos l2, w64 (x := ((n / d : Nat) : Int)) (by omega)]
          rw [lowS_succ n d hd, if_pos ⟨hz, hs⟩, List.map_append, ints_append, eD] at ih'
          exact ih'
        · have s1 : ¬ (d : Int) * (d : Int) < (n : Int) := by omega
          simp only [if_neg s1]
          rw [lowS_succ n d hd, if_neg (fun h => hs h.2), eD] at ih'
          exact ih'
      · have z1 : ¬ ((n % d : Nat) : Int) = 0 := by omega
        simp only [if_neg z1]
        rw [lowD_succ n d hd, if_neg hz, lowS_succ n d hd, if_neg (fun h => hz h.1)] at ih'
        exact ih'
    · have c1 : ¬ (d : Int) * (d : Int) ≤ (n : Int) := by omega
      simp only [if_neg c1]
      have l2 : (ints ((lowS n d).map (fun x => n / x))).length ≤ 1000 := by rw [ints_length, List.length_map]; have := length_lowS n d; omega
      refine Ev.bind (ev_Reverse _ (by omega)) ?_
      have l3 : (ints (lowD n d)).length + (ints ((lowS n d).map (fun x => n / x))).reverse.length < 17592186044416 := by
        rw [List.length_reverse, ints_length]; have := length_lowD n d; omega
      simp only [if_pos l3]
      refine Ev.ret ?_
      rw [ints_reverse, ← ints_append, divs_parts n d h1 (by omega) hlow]
theorem ev_divisors (n : Nat) (h1 : 1 ≤ n) (hn : n ≤ 10000) : Ev (fun k => impl_divisors.f k (n : Int)) (ints (divs n)) := by
  unfold impl_divisors.f
  exact ev_divisors_l n h1 hn 101 1 (by omega) (by omega) (fun x hx => by
    have : x = 0 := by omega
    subst this; omega)

/-- The divisors of a number in its range; none for others. -/
def divsZ (n : Int) : List Int := if 1 ≤ n ∧ n ≤ 10000 then ints (divs n.toNat) else []
theorem divsZ_length (n : Int) : (divsZ n).length ≤ 10000 := by
  unfold divsZ
  by_cases h : 1 ≤ n ∧ n ≤ 10000
  · rw [if_pos h, ints_length]; have := length_divs_le n.toNat; omega
  · rw [if_neg h]; simp
theorem ev_DivisorsOf (n : Int) : Ev (fun k => impl_DivisorsOf.f k n) (divsZ n) := by
  unfold impl_DivisorsOf.f divsZ
  simp only [numberOk_f, Option.bind_some, decide_eq_true_eq]
  by_cases h : 1 ≤ n ∧ n ≤ 10000
  · obtain ⟨m, rfl⟩ := Int.eq_ofNat_of_zero_le (show 0 ≤ n by omega)
    simp only [if_pos h, Int.toNat_natCast]
    exact Ev.bind (ev_divisors m (by omega) (by omega)) (Ev.now _)
  · simp only [if_neg h]; exact Ev.now _

theorem ev_sDivisorsOf_l (n : Nat) (h1 : 1 ≤ n) (hn : n ≤ 10000) : ∀ (m d : Nat), 1 ≤ d → d + m = n + 1 →
    Ev (fun k => spec_DivisorsOf.l0 k (n : Int) (ints (lowD n d)) (d : Int)) (ints (divs n)) := by
  intro m
  induction m with
  | zero =>
    intro d hd hm
    refine Ev.step (fun k => by rw [spec_DivisorsOf.l0]) ?_
    have c : ¬ (d : Int) ≤ (n : Int) := by omega
    simp only [if_neg c]
    refine Ev.step (fun k => by rw [spec_DivisorsOf.j1]) ?_
    simp only [Bool.false_eq_true, if_false]
    refine Ev.ret ?_
    unfold lowD divs; rw [show d - 1 = n by omega]
  | succ m ih =>
    intro d hd hm
    refine Ev.step (fun k => by rw [spec_DivisorsOf.l0]) ?_
    have c : (d : Int) ≤ (n : Int) := by omega
    have c0 : (n : Int) ≤ 10000 := by omega
    simp only [if_pos c, decide_eq_true c0]
    refine Ev.step (fun k => by rw [spec_DivisorsOf.j1]) ?_
    have c2 : ¬ (d : Int) = 0 := by omega
    have l1 : (ints (lowD n d)).length < 17592186044416 := by rw [ints_length]; have := length_lowD n d; omega
    simp only [if_true, if_neg c2, if_pos l1, ← Int.ofNat_tmod, w64 (x := (d : Int) + 1) (by omega)]
    have ih' := ih (d + 1) (by omega) (by omega)
    rw [lowD_succ n d hd] at ih'
    by_cases hz : n % d = 0
    · have z1 : ((n % d : Nat) : Int) = 0 := by omega
      rw [if_pos hz, ints_append] at ih'
      simp only [if_pos z1]; exact ih'
    · have z1 : ¬ ((n % d : Nat) : Int) = 0 := by omega
      rw [if_neg hz] at ih'
      simp only [if_neg z1]; exact ih'
theorem ev_sDivisorsOf (n : Int) : Ev (fun k => spec_DivisorsOf.f k n) (divsZ n) := by
  unfold spec_DivisorsOf.f divsZ
  by_cases h : 1 ≤ n ∧ n ≤ 10000
  · obtain ⟨m, rfl⟩ := Int.eq_ofNat_of_zero_le (show 0 ≤ n by omega)
    rw [if_pos h]
    simp only [Int.toNat_natCast]
    exact ev_sDivisorsOf_l m (by omega) (by omega) m 1 (by omega) (by omega)
  · rw [if_neg h]
    refine Ev.step (fun k => by rw [spec_DivisorsOf.l0]) ?_
    by_cases c : (1 : Int) ≤ n
    · have c0 : ¬ n ≤ 10000 := by omega
      simp only [if_pos c, decide_eq_false c0]
      refine Ev.step (fun k => by rw [spec_DivisorsOf.j1]) ?_
      simp only [Bool.false_eq_true, if_false]; exact Ev.now _
    · simp only [if_neg c]
      refine Ev.step (fun k => by rw [spec_DivisorsOf.j1]) ?_
      simp only [Bool.false_eq_true, if_false]; exact Ev.now _

theorem ev_eqIntS_l (a b : List Int) (hl : a.length = b.length) (ha : a.length ≤ 1000000000000000) : ∀ (d i : Nat), i + d = a.length →
    Ev (fun k => laws_eqIntS.l0 k a b (i : Int)) (decide (a.drop i = b.drop i)) := by
  intro d
  induction d with
  | zero =>
    intro i hi
    refine Ev.step (fun k => by rw [laws_eqIntS.l0]) ?_
    have h1 : ¬ (i : Int) < (a.length : Int) := by omega
    simp only [if_neg h1]
    refine Ev.ret ?_
    rw [List.drop_eq_nil_of_le (by omega), List.drop_eq_nil_of_le (by omega)]; simp
  | succ d ih =>
    intro i hi
    refine Ev.step (fun k => by rw [laws_eqIntS.l0]) ?_
    have h1 : (i : Int) < (a.length : Int) := by omega
    have h2 : (0 : Int) ≤ (i : Int) := by omega
    have h3 : (i : Int) < (b.length : Int) := by omega
    have ea := drop_step a i (by omega)
    have eb := drop_step b i (by omega)
    simp only [if_pos h1, if_pos h2, if_pos h3, rd_nat, w64 (x := (i : Int) + 1) (by omega)]
    by_cases e : a.getD i 0 = b.getD i 0
    · simp only [if_pos e]
      refine Ev.to (ih (i + 1) (by omega)) ?_
      rw [ea, eb, e]; simp
    · simp only [if_neg e]
      refine Ev.ret ?_
      rw [ea, eb]; simp only [List.cons.injEq, e, false_and, decide_false]
theorem ev_eqIntS (a b : List Int) (ha : a.length ≤ 1000000000000000) : Ev (fun k => laws_eqIntS.f k a b) (decide (a = b)) := by
  unfold laws_eqIntS.f
  by_cases h : (a.length : Int) = (b.length : Int)
  · simp only [if_pos h]
    exact ev_eqIntS_l a b (by omega) ha a.length 0 (by omega)
  · simp only [if_neg h]
    refine Ev.ret ?_
    symm; rw [decide_eq_false_iff_not]
    intro e; subst e; exact h rfl

/-- The marks m, m + 1, .. -/
def marks (m : Int) (n : Nat) : List Int := (List.range n).map (fun i : Nat => m + (i : Int))
theorem marks_length (m : Int) (n : Nat) : (marks m n).length = n := by simp [marks]
theorem marks_getD (m : Int) (n i : Nat) (h : i < n) : (marks m n).getD i 0 = m + (i : Int) := by
  rw [List.getD_eq_getElem?_getD, List.getElem?_eq_getElem (by rw [marks_length]; exact h)]; simp [marks]
theorem marks_succ (m : Int) (n : Nat) : marks m (n + 1) = marks m n ++ [m + (n : Int)] := by simp [marks, List.range_succ]
theorem ev_mark_l (l : List Int) (hl : l.length ≤ 1000000000000) : ∀ (d i : Nat), i + d = l.length →
    Ev (fun k => laws_markIntS.l0 k (marks 1 i ++ l.drop i) (1 + (i : Int)) (i : Int)) (1 + (l.length : Int), marks 1 l.length) := by
  intro d
  induction d with
  | zero =>
    intro i hi
    refine Ev.step (fun k => by rw [laws_markIntS.l0]) ?_
    have e : marks 1 i ++ l.drop i = marks 1 l.length := by rw [List.drop_eq_nil_of_le (by omega), List.append_nil, show i = l.length by omega]
    have h1 : ¬ (i : Int) < ((marks 1 l.length).length : Int) := by rw [marks_length]; omega
    simp only [e, if_neg h1]
    refine Ev.ret ?_
    rw [show (i : Int) = (l.length : Int) by omega]
  | succ d ih =>
    intro i hi
    refine Ev.step (fun k => by rw [laws_markIntS.l0]) ?_
    have h1 : (i : Int) < ((marks 1 i ++ l.drop i).length : Int) := by rw [List.length_append, marks_length, List.length_drop]; omega
    have h2 : (0 : Int) ≤ (i : Int) := by omega
    have e : (marks 1 i ++ l.drop i).set i (1 + (i : Int)) = marks 1 (i + 1) ++ l.drop (i + 1) := by
      rw [List.set_append_right _ _ (by rw [marks_length]; exact Nat.le_refl _), marks_length, Nat.sub_self, drop_step l i (by omega), List.set_cons_zero, marks_succ, List.append_assoc]; rfl
    simp only [if_pos h1, if_pos h2, Int.toNat_natCast, e, w64 (x := (i : Int) + 1) (by omega), w64 (x := 1 + (i : Int) + 1) (by omega)]
    have := ih (i + 1) (by omega)
    rw [show (1 : Int) + ((i + 1 : Nat) : Int) = 1 + (i : Int) + 1 by omega] at this
    exact this
theorem ev_mark (l : List Int) (hl : l.length ≤ 1000000000000) : Ev (fun k => laws_markIntS.f k l 1) (1 + (l.length : Int), marks 1 l.length) := by
  unfold laws_markIntS.f
  exact ev_mark_l l hl l.length 0 (by omega)
theorem ev_held_l (n : Nat) (hn : n ≤ 1000000000000) : ∀ (d i : Nat), i + d = n →
    Ev (fun k => laws_heldIntS.l0 k (marks 1 n) (1 + (i : Int)) (i : Int)) (1 + (n : Int)) := by
  intro d
  induction d with
  | zero =>
    intro i hi
    refine Ev.step (fun k => by rw [laws_heldIntS.l0]) ?_
    have h1 : ¬ (i : Int) < ((marks 1 n).length : Int) := by rw [marks_length]; omega
    simp only [if_neg h1]
    exact Ev.ret (by omega)
  | succ d ih =>
    intro i hi
    refine Ev.step (fun k => by rw [laws_heldIntS.l0]) ?_
    have h1 : (i : Int) < ((marks 1 n).length : Int) := by rw [marks_length]; omega
    have h2 : (0 : Int) ≤ (i : Int) := by omega
    simp only [if_pos h1, if_pos h2, rd_nat, marks_getD 1 n i (by omega), if_true, w64 (x := (i : Int) + 1) (by omega), w64 (x := 1 + (i : Int) + 1) (by omega)]
    have := ih (i + 1) (by omega)
    rw [show (1 : Int) + ((i + 1 : Nat) : Int) = 1 + (i : Int) + 1 by omega] at this
    exact this
theorem ev_held (n : Nat) (hn : n ≤ 1000000000000) : Ev (fun k => laws_heldIntS.f k (marks 1 n) 1) (1 + (n : Int)) := by
  unfold laws_heldIntS.f
  exact ev_held_l n hn n 0 (by omega)

theorem FnExactDivisorsOf : laws_FnExactDivisorsOf.Pure := by
  intro n hn
  apply Ev.k
  unfold laws_FnExactDivisorsOf.f
  have hl := divsZ_length n
  refine Ev.bind (ev_sDivisorsOf n) (Ev.bind (ev_DivisorsOf n) (Ev.bind (ev_eqIntS (divsZ n) (divsZ n) (by omega)) ?_))
  simp only [decide_true, if_true]
  refine Ev.bind (ev_mark (divsZ n) (by omega)) (Ev.bind (ev_held (divsZ n).length (by omega)) ?_)
  have c : ¬ 1 + ((divsZ n).length : Int) < 0 := by omega
  simp only [if_neg c, if_true]
  refine Ev.bind (ev_DivisorsOf n) (Ev.bind (ev_eqIntS (divsZ n) (divsZ n) (by omega)) ?_)
  simp only [decide_true, if_true]
  refine Ev.bind (ev_held (divsZ n).length (by omega)) ?_
  simp only [if_neg c, if_true]
  exact Ev.now _

end Go.Proofs.Yteeejjfoghmnpaa.Pure
