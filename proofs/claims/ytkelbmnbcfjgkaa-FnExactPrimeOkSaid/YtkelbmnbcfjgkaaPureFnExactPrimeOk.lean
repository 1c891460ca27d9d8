/- The program's PrimeOk and the reference's tell the same for all numbers. -/
import Derived.Test.YtkelbmnbcfjgkaaPFnExactPrimeOkx0
import Derived.Test.YtkelbmnbcfjgkaaPFnExactPrimeOkx1
import Derived.Test.YtkelbmnbcfjgkaaM1
namespace Go.Proofs.Ytkelbmnbcfjgkaa.Pure
open Go.RowKit Go.Proofs.Ytkelbmnbcfjgkaa.PFnExactPrimeOk Go.Proofs.YtkelbmnbcfjgkaaW.PrintWords Go.Proofs.YtkelbmnbcfjgkaaW.PrintLast Go.Proofs.YtkelbmnbcfjgkaaW.PrintMore Go.Proofs.Ytkelbmnbcfjgkaa.Math
set_option linter.unusedVariables false
set_option linter.unusedSimpArgs false
theorem w64 {x : Int} (h : -9223372036854775808 ≤ x ∧ x ≤ 9223372036854775807) : wrap64 x = x := by unfold wrap64; omega
theorem Ev.k {α : Type} {g : Nat → Option α} {r : α} (h : Ev g r) : ∃ k, g k = some r := Ev.rounds h
theorem Ev.to {α : Type} {g : Nat → Option α} {r s : α} (h : Ev g r) (e : r = s) : Ev g s := e ▸ h
theorem Ev.ret {α : Type} {r s : α} (e : r = s) : Ev (fun _ => some r) s := e ▸ Ev.now r

theorem numberOk_f (a : Int) : impl_numberOk.f a = some (decide (1 ≤ a ∧ a ≤ 10000)) := by
  unfold impl_numberOk.f
  by_cases h : a ≥ 1
  · rw [if_pos h]; simp [show 1 ≤ a from h]
  · rw [if_neg h]; simp [show ¬ 1 ≤ a from h]

theorem rd_nat (xs : List Int) (i : Nat) : rd xs (i : Int) = xs.getD i 0 := rfl
theorem drop_step (f : List Int) (i : Nat) (h : i < f.length) : f.drop i = f.getD i 0 :: f.drop (i + 1) := by
  rw [List.drop_eq_getElem_cons h]; simp [List.getD_eq_getElem?_getD, List.getElem?_eq_getElem h]
def InB (f : List Int) (m : Int) : Prop := ∀ x ∈ f, -m ≤ x ∧ x ≤ m
instance (f : List Int) (m : Int) : Decidable (InB f m) := by unfold InB; infer_instance
theorem InB_cons (x : Int) (f : List Int) (m : Int) : InB (x :: f) m ↔ (-m ≤ x ∧ x ≤ m) ∧ InB f m := by
  unfold InB; simp
theorem InB_nil (m : Int) : InB [] m := fun x h => by cases h
theorem InB.mono {f : List Int} {m n : Int} (h : InB f m) (hmn : m ≤ n) : InB f n := fun x hx => by have := h x hx; omega

theorem ext_getD {a b : List Int} (h : a.length = b.length) (e : ∀ t, t < a.length → a.getD t 0 = b.getD t 0) : a = b := by
  refine List.ext_getElem h (fun t h1 h2 => ?_)
  have := e t h1
  simpa [List.getD_eq_getElem?_getD, List.getElem?_eq_getElem h1, List.getElem?_eq_getElem h2] using this
theorem getD_set (a : List Int) (i : Nat) (x : Int) (t : Nat) (h : i < a.length) : (a.set i x).getD t 0 = if t = i then x else a.getD t 0 := by
  simp only [List.getD_eq_getElem?_getD, List.getElem?_set]
  by_cases e : i = t
  · subst e; simp [h]
  · simp [e, Ne.symm e]
def RevAt (l xs : List Int) (i : Nat) : Prop := xs.length = l.length ∧ ∀ t, t < l.length → xs.getD t 0 = if t < i ∨ l.length - i ≤ t then l.getD (l.length - 1 - t) 0 else l.getD t 0
theorem ev_Reverse_l (l : List Int) (hn : l.length ≤ 1000000000000) : ∀ (d i : Nat) (xs : List Int), RevAt l xs i → l.length ≤ 2 * i + d →
    Ev (fun k => slices_Reverse_int_int.l0 k xs (i : Int) ((l.length : Int) - 1 - (i : Int))) l.reverse := by
  intro d
  induction d with
  | zero =>
    intro i xs ⟨hl, hx⟩ hd
    refine Ev.step (fun k => by rw [slices_Reverse_int_int.l0]) ?_
    have h1 : ¬ (i : Int) < (l.length : Int) - 1 - (i : Int) := by omega
    simp only [if_neg h1]
    refine Ev.ret (ext_getD (by simp [hl]) (fun t ht => ?_))
    rw [hx t (by omega)]
    simp only [List.getD_eq_getElem?_getD]
    rw [List.getElem?_reverse (by omega), if_pos (by omega)]
  | succ d ih =>
    intro i xs ⟨hl, hx⟩ hd
    refine Ev.step (fun k => by rw [slices_Reverse_int_int.l0]) ?_
    by_cases h1 : (i : Int) < (l.length : Int) - 1 - (i : Int)
    · have a1 : (0 : Int) ≤ (l.length : Int) - 1 - (i : Int) := by omega
      have a2 : (l.length : Int) - 1 - (i : Int) < (xs.length : Int) := by omega
      have a3 : (0 : Int) ≤ (i : Int) := by omega
      have a4 : (i : Int) < (xs.length : Int) := by omega
      have ej : (l.length : Int) - 1 - (i : Int) = ((l.length - 1 - i : Nat) : Int) := by omega
      simp only [if_pos h1, if_pos a1, if_pos a2, if_pos a3, if_pos a4, w64 (x := (i : Int) + 1) (by omega), w64 (x := (l.length : Int) - 1 - (i : Int) - 1) (by omega)]
      rw [show (l.length : Int) - 1 - (i : Int) - 1 = (l.length : Int) - 1 - ((i + 1 : Nat) : Int) by omega, show (i : Int) + 1 = ((i + 1 : Nat) : Int) by omega]
      refine ih (i + 1) _ ⟨by simp [hl], fun t ht => ?_⟩ (by omega)
      rw [ej]
      simp only [Int.toNat_natCast, rd_nat]
      rw [getD_set _ _ _ _ (by simp; omega), getD_set _ _ _ _ (by omega)]
      by_cases e1 : t = l.length - 1 - i
      · rw [if_pos e1, if_pos (by omega), hx i (by omega), if_neg (by omega), e1]; congr 1; omega
      · rw [if_neg e1]
        by_cases e2 : t = i
        · rw [if_pos e2, if_pos (by omega), hx _ (by omega), if_neg (by omega), e2]
        · rw [if_neg e2, hx t ht]
          by_cases e3 : t < i ∨ l.length - i ≤ t
          · rw [if_pos e3, if_pos (by omega)]
          · rw [if_neg e3, if_neg (by omega)]
    · simp only [if_neg h1]
      refine Ev.ret (ext_getD (by simp [hl]) (fun t ht => ?_))
      rw [hx t (by omega)]
      simp only [List.getD_eq_getElem?_getD]
      rw [List.getElem?_reverse (by omega)]
      by_cases e3 : t < i ∨ l.length - i ≤ t
      · rw [if_pos e3]
      · rw [if_neg e3]; congr 2; omega
theorem ev_Reverse (l : List Int) (hn : l.length ≤ 1000000000000) : Ev (fun k => slices_Reverse_int_int.f k l) l.reverse := by
  unfold slices_Reverse_int_int.f
  rw [w64 (by omega)]
  have := ev_Reverse_l l hn l.length 0 l ⟨rfl, fun t ht => by rw [if_neg (by omega)]⟩ (by omega)
  simpa using this

/-- Natural numbers as the program's numbers. -/
def ints (l : List Nat) : List Int := l.map (fun x : Nat => (x : Int))
theorem ints_length (l : List Nat) : (ints l).length = l.length := by simp [ints]
theorem ints_append (l m : List Nat) : ints (l ++ m) = ints l ++ ints m := by simp [ints]
theorem ints_reverse (l : List Nat) : (ints l).reverse = ints l.reverse := by simp [ints]
theorem sq_le {d n : Nat} (h : d * d ≤ n) (hn : n ≤ 10000) : d ≤ 100 := by
  refine Nat.le_of_not_lt (fun hl => ?_)
  have := Nat.mul_le_mul (show 101 ≤ d from hl) (show 101 ≤ d from hl)
  omega
theorem ev_divisors_l (n : Nat) (h1 : 1 ≤ n) (hn : n ≤ 10000) : ∀ (m d : Nat), 1 ≤ d → d + m = 102 → (∀ x, x < d → x * x ≤ n) →
    Ev (fun k => impl_divisors.l0 k (n : Int) (ints (lowD n d)) (ints ((lowS n d).map (fun x => n / x))) (d : Int)) (ints (divs n)) := by
  intro m
  induction m with
  | zero =>
    intro d hd hm hlow
    have := hlow 101 (by omega)
    omega
  | succ m ih =>
    intro d hd hm hlow
    refine Ev.step (fun k => by rw [impl_divisors.l0]) ?_
    have dd : ((d * d : Nat) : Int) = (d : Int) * (d : Int) := by simp
    have hb : d * d ≤ 101 * 101 := Nat.mul_le_mul (by omega) (by omega)
    simp only [w64 (x := (d : Int) * (d : Int)) (by omega), w64 (x := (d : Int) + 1) (by omega)]
    by_cases hc : d * d ≤ n
    · have c1 : (d : Int) * (d : Int) ≤ (n : Int) := by omega
      have c2 : ¬ (d : Int) = 0 := by omega
      have low' : ∀ x, x < d + 1 → x * x ≤ n := fun x hx => by
        by_cases e : x = d
        · subst e; exact hc
        · exact hlow x (by omega)
      simp only [if_pos c1, if_neg c2, ← Int.ofNat_tmod, ← Int.ofNat_tdiv]
      have l1 : (ints (lowD n d)).length < 17592186044416 := by rw [ints_length]; have := length_lowD n d; omega
      have l2 : (ints ((lowS n d).map (fun x => n / x))).length < 17592186044416 := by rw [ints_length, List.length_map]; have := length_lowS n d; omega
      have ih' := ih (d + 1) (by omega) (by omega) low'
      by_cases hz : n % d = 0
      · have z1 : ((n % d : Nat) : Int) = 0 := by omega
        simp only [if_pos z1, if_pos l1, Option.bind_some]
        have eD : ints (lowD n (d + 1)) = ints (lowD n d) ++ [(d : Int)] := by rw [lowD_succ n d hd, if_pos hz, ints_append]; rfl
        by_cases hs : d * d < n
        · have s1 : (d : Int) * (d : Int) < (n : Int) := by omega
          have nb : n / d ≤ 10000 := Nat.le_trans (Nat.div_le_self _ _) hn
          have q0 : (0 : Int) ≤ ((n / d : Nat) : Int) := Int.natCast_nonneg _
          simp only [if_pos s1, if_pos l2, w64 (x := ((n / d : Nat) : Int)) (by omega)]
          rw [lowS_succ n d hd, if_pos ⟨hz, hs⟩, List.map_append, ints_append, eD] at ih'
          exact ih'
        · have s1 : ¬ (d : Int) * (d : Int) < (n : Int) := by omega
          simp only [if_neg s1]
          rw [lowS_succ n d hd, if_neg (fun h => hs h.2), eD] at ih'
          exact ih'
      · have z1 : ¬ ((n % d : Nat) : Int) = 0 := by omega
        simp only [if_neg z1]
        rw [lowD_succ n d hd, if_neg hz, lowS_succ n d hd, if_neg (fun h => hz h.1)] at ih'
        exact ih'
    · have c1 : ¬ (d : Int) * (d : Int) ≤ (n : Int) := by omega
      simp only [if_neg c1]
      have l2 : (ints ((lowS n d).map (fun x => n / x))).length ≤ 1000 := by rw [ints_length, List.length_map]; have := length_lowS n d; omega
      refine Ev.bind (ev_Reverse _ (by omega)) ?_
      have l3 : (ints (lowD n d)).length + (ints ((lowS n d).map (fun x => n / x))).reverse.length < 17592186044416 := by
        rw [List.length_reverse, ints_length]; have := length_lowD n d; omega
      simp only [if_pos l3]
      refine Ev.ret ?_
      rw [ints_reverse, ← ints_append, divs_parts n d h1 (by omega) hlow]
theorem ev_divisors (n : Nat) (h1 : 1 ≤ n) (hn : n ≤ 10000) : Ev (fun k => impl_divisors.f k (n : Int)) (ints (divs n)) := by
  unfold impl_divisors.f
  exact ev_divisors_l n h1 hn 101 1 (by omega) (by omega) (fun x hx => by
    have : x = 0 := by omega
    subst this; omega)

theorem ev_PrimeOk_no {n : Int} (h : ¬ (1 ≤ n ∧ n ≤ 10000)) : Ev (fun k => impl_PrimeOk.f k n) false := by
  unfold impl_PrimeOk.f
  simp only [numberOk_f, Option.bind_some, decide_eq_true_eq, if_neg h]
  exact Ev.now _
theorem ev_PrimeOk (n : Nat) (h : 1 ≤ n ∧ n ≤ 10000) (b : Bool) (hb : b = true ↔ Pr n) : Ev (fun k => impl_PrimeOk.f k (n : Int)) b := by
  unfold impl_PrimeOk.f
  have h1 : 1 ≤ (n : Int) ∧ (n : Int) ≤ 10000 := by omega
  simp only [numberOk_f, Option.bind_some, decide_eq_true_eq, if_pos h1]
  refine Ev.bind (ev_divisors n h.1 h.2) (Ev.ret ?_)
  rw [Bool.eq_iff_iff, hb, ← length_divs_two, ints_length, beq_iff_eq]; omega

theorem l1In_f (a b c : Int) : spec_l1In.f a b c = some (decide (b ≤ a ∧ a ≤ c)) := by
  unfold spec_l1In.f
  by_cases h : a ≥ b
  · rw [if_pos h]; simp [show b ≤ a from h]
  · rw [if_neg h]; simp [show ¬ b ≤ a from h]

theorem ev_sPrimeOk_l (n : Nat) (h1 : 1 ≤ n) (hn : n ≤ 10000) (b : Bool) (hb : b = true ↔ Pr n) : ∀ (m d : Nat), 2 ≤ d → d + m = 102 → (∀ x, x < d → x * x ≤ n ∨ x = 1) → (∀ x, 2 ≤ x → x < d → n % x ≠ 0) →
    Ev (fun k => spec_PrimeOk.l0 k (n : Int) (d : Int)) b := by
  intro m
  induction m with
  | zero =>
    intro d hd hm hlow
    have := hlow 101 (by omega)
    omega
  | succ m ih =>
    intro d hd hm hlow hno
    refine Ev.step (fun k => by rw [spec_PrimeOk.l0]) ?_
    have dd : ((d * d : Nat) : Int) = (d : Int) * (d : Int) := by simp
    have hbd : d * d ≤ 101 * 101 := Nat.mul_le_mul (by omega) (by omega)
    have hd1 : d * 2 ≤ d * d := Nat.mul_le_mul_left d hd
    simp only [w64 (x := (d : Int) * (d : Int)) (by omega)]
    by_cases hc : d * d ≤ n
    · have c1 : (d : Int) * (d : Int) ≤ (n : Int) := by omega
      have c2 : ¬ (d : Int) = 0 := by omega
      have c3 : (n : Int) ≤ 10000 := by omega
      simp only [if_pos c1, decide_eq_true c3]
      refine Ev.step (fun k => by rw [spec_PrimeOk.j1]) ?_
      simp only [if_true, if_neg c2, ← Int.ofNat_tmod, w64 (x := (d : Int) + 1) (by omega)]
      by_cases hz : n % d = 0
      · have z1 : ((n % d : Nat) : Int) = 0 := by omega
        simp only [if_pos z1]
        refine Ev.ret ?_
        have := not_pr_of_dvd hd (by omega) hz
        rw [← hb] at this; simpa using this
      · have z1 : ¬ ((n % d : Nat) : Int) = 0 := by omega
        simp only [if_neg z1]
        refine ih (d + 1) (by omega) (by omega) (fun x hx => ?_) (fun x h2 hx => ?_)
        · by_cases e : x = d
          · subst e; exact Or.inl hc
          · exact hlow x (by omega)
        · by_cases e : x = d
          · subst e; exact hz
          · exact hno x h2 (by omega)
    · have c1 : ¬ (d : Int) * (d : Int) ≤ (n : Int) := by omega
      simp only [if_neg c1]
      refine Ev.step (fun k => by rw [spec_PrimeOk.j1]) ?_
      simp only [Bool.false_eq_true, if_false, l1In_f, Option.bind_some]
      refine Ev.ret ?_
      rw [Bool.eq_iff_iff, hb]
      simp only [decide_eq_true_eq]
      constructor
      · intro h; exact pr_of_root (by omega) (by omega) hno
      · intro h; have := h.1; omega
theorem ev_sPrimeOk (n : Nat) (h : 1 ≤ n ∧ n ≤ 10000) (b : Bool) (hb : b = true ↔ Pr n) : Ev (fun k => spec_PrimeOk.f k (n : Int)) b := by
  unfold spec_PrimeOk.f
  refine ev_sPrimeOk_l n h.1 h.2 b hb 100 2 (by omega) (by omega) (fun x hx => ?_) (fun x h2 hx => by omega)
  by_cases e : x = 1
  · exact Or.inr e
  · have : x = 0 := by omega
    subst this; omega
theorem ev_sPrimeOk_no {n : Int} (h : ¬ (1 ≤ n ∧ n ≤ 10000)) : Ev (fun k => spec_PrimeOk.f k n) false := by
  unfold spec_PrimeOk.f
  refine Ev.step (fun k => by rw [spec_PrimeOk.l0]) ?_
  simp only [w64 (x := (2 : Int) * 2) (by omega)]
  by_cases hc : (2 : Int) * 2 ≤ n
  · have c3 : ¬ n ≤ 10000 := by omega
    simp only [if_pos hc, decide_eq_false c3]
    refine Ev.step (fun k => by rw [spec_PrimeOk.j1]) ?_
    simp only [Bool.false_eq_true, if_false, l1In_f, Option.bind_some]
    refine Ev.ret ?_
    rw [decide_eq_false_iff_not]; omega
  · simp only [if_neg hc]
    refine Ev.step (fun k => by rw [spec_PrimeOk.j1]) ?_
    simp only [Bool.false_eq_true, if_false, l1In_f, Option.bind_some]
    refine Ev.ret ?_
    rw [decide_eq_false_iff_not]; omega

theorem FnExactPrimeOk : laws_FnExactPrimeOk.Pure := by
  intro a ha
  apply Ev.k
  unfold laws_FnExactPrimeOk.f
  by_cases h : 1 ≤ a ∧ a ≤ 10000
  · obtain ⟨n, rfl⟩ := Int.eq_ofNat_of_zero_le (show 0 ≤ a by omega)
    have hb : (decide ((divs n).length = 2)) = true ↔ Pr n := by rw [decide_eq_true_eq]; exact length_divs_two n
    refine Ev.bind (ev_sPrimeOk n (by omega) _ hb) (Ev.bind (ev_PrimeOk n (by omega) _ hb) ?_)
    simp only [bne_self_eq_false, Bool.false_eq_true, if_false]
    exact Ev.now _
  · refine Ev.bind (ev_sPrimeOk_no h) (Ev.bind (ev_PrimeOk_no h) ?_)
    simp only [bne_self_eq_false, Bool.false_eq_true, if_false]
    exact Ev.now _

end Go.Proofs.Ytkelbmnbcfjgkaa.Pure
