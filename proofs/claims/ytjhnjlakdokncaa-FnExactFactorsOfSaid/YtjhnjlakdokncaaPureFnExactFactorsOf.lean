/- The program's FactorsOf and the reference's tell the same for all numbers, in memory of their own. -/
import Derived.Test.YtjhnjlakdokncaaPFnExactFactorsOfx0
import Derived.Test.YtjhnjlakdokncaaPFnExactFactorsOfx1
import Derived.Test.YtjhnjlakdokncaaPFnExactFactorsOfx2
import Derived.Test.YtjhnjlakdokncaaQFnExactFactorsOfx3
import Derived.Test.YtjhnjlakdokncaaM1
import Derived.Test.YtjhnjlakdokncaaM2
namespace Go.Proofs.Ytjhnjlakdokncaa.Pure
open Go.RowKit Go.Proofs.Ytjhnjlakdokncaa.PFnExactFactorsOf Go.Proofs.YtjhnjlakdokncaaW.PrintWords Go.Proofs.YtjhnjlakdokncaaW.PrintLast Go.Proofs.YtjhnjlakdokncaaW.PrintMore Go.Proofs.Ytjhnjlakdokncaa.Math
set_option linter.unusedVariables false
set_option linter.unusedSimpArgs false
theorem w64 {x : Int} (h : -9223372036854775808 ≤ x ∧ x ≤ 9223372036854775807) : wrap64 x = x := by unfold wrap64; omega
theorem Ev.k {α : Type} {g : Nat → Option α} {r : α} (h : Ev g r) : ∃ k, g k = some r := Ev.rounds h
theorem Ev.to {α : Type} {g : Nat → Option α} {r s : α} (h : Ev g r) (e : r = s) : Ev g s := e ▸ h
theorem Ev.ret {α : Type} {r s : α} (e : r = s) : Ev (fun _ => some r) s := e ▸ Ev.now r

/-- Natural numbers as the program's numbers. -/
def ints (l : List Nat) : List Int := l.map (fun x : Nat => (x : Int))
theorem ints_length (l : List Nat) : (ints l).length = l.length := by simp [ints]
theorem ints_append (l m : List Nat) : ints (l ++ m) = ints l ++ ints m := by simp [ints]
theorem ints_reverse (l : List Nat) : (ints l).reverse = ints l.reverse := by simp [ints]

/-- Factors as the program tells them: rows of two numbers. -/
def rowsF (L : List (Nat × Nat)) : List (List Int) := L.map (fun x : Nat × Nat => [(x.1 : Int), (x.2 : Int)])
theorem rowsF_length (L : List (Nat × Nat)) : (rowsF L).length = L.length := by simp [rowsF]

theorem ev_fac_l1 (out : List (List Int)) (hout : out.length ≤ 1000000) (p : Nat) (hp : 2 ≤ p ∧ p ≤ 10000) (r : List (List Int)) (t m : Nat) (hm : m % p ≠ 0) (h1 : 1 ≤ m ∧ m ≤ 10000)
    (hN : Ev (fun k => impl_factors.l0 k (m : Int) (if t = 0 then out else out ++ [[(p : Int), (t : Int)]]) ((p + 1 : Nat) : Int)) r) :
    ∀ (j c : Nat), c + j = t → p ^ j * m ≤ 10000 → t ≤ 10000 →
    Ev (fun k => impl_factors.l1 k ((p ^ j * m : Nat) : Int) out (p : Int) (c : Int)) r := by
  intro j
  induction j with
  | zero =>
    intro c hc hb ht
    refine Ev.step (fun k => by rw [impl_factors.l1]) ?_
    have c0 : ¬ (p : Int) = 0 := by omega
    have c1 : ¬ ((m % p : Nat) : Int) = 0 := by omega
    simp only [Nat.pow_zero, Nat.one_mul, if_neg c0, ← Int.ofNat_tmod, if_neg c1, w64 (x := (p : Int) + 1) (by omega)]
    have e : c = t := by omega
    subst e
    by_cases z : c = 0
    · have c2 : ¬ (c : Int) > 0 := by omega
      rw [if_pos z] at hN
      simp only [if_neg c2]; exact hN
    · have c2 : (0 : Int) < (c : Int) := by omega
      have c3 : out.length < 5864062014805 := by omega
      rw [if_neg z] at hN
      simp only [gt_iff_lt, if_pos c2, if_pos c3]; exact hN
  | succ j ih =>
    intro c hc hb ht
    refine Ev.step (fun k => by rw [impl_factors.l1]) ?_
    have e : p ^ (j + 1) * m = p * (p ^ j * m) := by rw [Nat.pow_succ, Nat.mul_comm (p ^ j) p, Nat.mul_assoc]
    have c0 : ¬ (p : Int) = 0 := by omega
    have c1 : ((p ^ (j + 1) * m % p : Nat) : Int) = 0 := by rw [e, Nat.mul_mod_right]; rfl
    have c2 : p ^ (j + 1) * m / p = p ^ j * m := by rw [e, Nat.mul_div_cancel_left _ (by omega)]
    have b2 : 1 * (p ^ j * m) ≤ p * (p ^ j * m) := Nat.mul_le_mul_right _ (by omega)
    simp only [if_neg c0, ← Int.ofNat_tmod, ← Int.ofNat_tdiv, if_pos c1, c2, w64 (x := ((p ^ j * m : Nat) : Int)) (by omega), w64 (x := (c : Int) + 1) (by omega)]
    exact ih (c + 1) (by omega) (by omega) ht
theorem ev_fac_one (out : List (List Int)) (p : Int) : Ev (fun k => impl_factors.l0 k 1 out p) out := by
  refine Ev.step (fun k => by rw [impl_factors.l0]) ?_
  have c : ¬ (1 : Int) > 1 := by omega
  simp only [if_neg c]
  exact Ev.now _
theorem ev_fac_l0 : ∀ (d p n : Nat) (out : List (List Int)), p + d = 102 → 2 ≤ p → 1 ≤ n → n ≤ 10000 → out.length ≤ p → NoLow p n →
    Ev (fun k => impl_factors.l0 k (n : Int) out (p : Int)) (out ++ rowsF (fac p n)) := by
  intro d
  induction d with
  | zero =>
    intro p n out hd hp h1 hn ho hl
    by_cases c : n = 1
    · subst c; rw [fac_lt (by omega)]; simpa [rowsF] using ev_fac_one out (p : Int)
    refine Ev.step (fun k => by rw [impl_factors.l0]) ?_
    have c1 : (1 : Int) < (n : Int) := by omega
    have e : p = 102 := by omega
    subst e
    have c2 : (n : Int) < ((102 : Nat) : Int) * ((102 : Nat) : Int) := by omega
    have hpr : Pr n := pr_of_root (d := 102) (by omega) (by omega) hl
    have hf : fac 102 n = [(n, 1)] := by
      rw [← fac_skip h1 hl (by omega), fac_skip h1 (p := n) ?_ (by omega)]
      · have := fac_yes (p := n) (j := 1) (m := 1) (by omega) (by omega) (by rw [Nat.mod_eq_of_lt (by omega)]; omega) (by omega)
        rw [Nat.pow_one, Nat.mul_one] at this
        rw [this, fac_lt (by omega)]
      · intro x h2 hx e
        rcases hpr.2 x (Nat.dvd_of_mod_eq_zero e) with h | h <;> omega
    simp only [gt_iff_lt, if_pos c1, w64 (x := ((102 : Nat) : Int) * ((102 : Nat) : Int)) (by omega), if_pos c2]
    refine Ev.step (fun k => by rw [impl_factors.j1]) ?_
    rw [hf]
    have := ev_fac_l1 out (by omega) n ⟨by omega, hn⟩ (out ++ rowsF [(n, 1)]) 1 1 (by rw [Nat.mod_eq_of_lt (by omega)]; omega) (by omega) (by simpa [rowsF] using ev_fac_one (out ++ [[(n : Int), 1]]) ((n : Int) + 1)) 1 0 (by omega) (by rw [Nat.pow_one]; omega) (by omega)
    rw [Nat.pow_one, Nat.mul_one] at this
    exact this
  | succ d ih =>
    intro p n out hd hp h1 hn ho hl
    by_cases c : n = 1
    · subst c; rw [fac_lt (by omega)]; simpa [rowsF] using ev_fac_one out (p : Int)
    refine Ev.step (fun k => by rw [impl_factors.l0]) ?_
    have c1 : (1 : Int) < (n : Int) := by omega
    have pp : p * p ≤ 101 * 101 := Nat.mul_le_mul (by omega) (by omega)
    have ep : (p : Int) * (p : Int) = ((p * p : Nat) : Int) := by simp
    simp only [gt_iff_lt, if_pos c1, ep, w64 (x := ((p * p : Nat) : Int)) (by omega)]
    by_cases hpp : n < p * p
    · have c2 : (n : Int) < ((p * p : Nat) : Int) := by omega
      have hpr : Pr n := pr_of_root (d := p) (by omega) hpp hl
      have hln : NoLow n n := fun x h2 hx e => by
        rcases hpr.2 x (Nat.dvd_of_mod_eq_zero e) with h | h <;> omega
      have hf : fac p n = [(n, 1)] := by
        rw [← fac_skip h1 hl hp, fac_skip h1 (p := n) hln (by omega)]
        have := fac_yes (p := n) (j := 1) (m := 1) (by omega) (by omega) (by rw [Nat.mod_eq_of_lt (by omega)]; omega) (by omega)
        rw [Nat.pow_one, Nat.mul_one] at this
        rw [this, fac_lt (by omega)]
      simp only [if_pos c2]
      refine Ev.step (fun k => by rw [impl_factors.j1]) ?_
      rw [hf]
      have := ev_fac_l1 out (by omega) n ⟨by omega, hn⟩ (out ++ rowsF [(n, 1)]) 1 1 (by rw [Nat.mod_eq_of_lt (by omega)]; omega) (by omega) (by simpa [rowsF] using ev_fac_one (out ++ [[(n : Int), 1]]) ((n : Int) + 1)) 1 0 (by omega) (by rw [Nat.pow_one]; omega) (by omega)
      rw [Nat.pow_one, Nat.mul_one] at this
      exact this
    · have c2 : ¬ (n : Int) < ((p * p : Nat) : Int) := by omega
      simp only [if_neg c2]
      refine Ev.step (fun k => by rw [impl_factors.j1]) ?_
      obtain ⟨j, m, e, hm, hm1⟩ := exists_strip p hp n h1
      have hj : j < p ^ j := Nat.lt_pow_self (by omega)
      have b1 : p ^ j * 1 ≤ p ^ j * m := Nat.mul_le_mul_left _ hm1
      have b2 : 1 * m ≤ p ^ j * m := Nat.mul_le_mul_right _ (Nat.pow_pos (by omega))
      have hlm : NoLow (p + 1) m := (hl.of_dvd (by rw [e]; exact dvd_pow_mul p j m)).succ hm
      have ihm := ih (p + 1) m (if j = 0 then out else out ++ [[(p : Int), (j : Int)]]) (by omega) (by omega) hm1 (by omega) (by split <;> (try simp) <;> omega) hlm
      have main := ev_fac_l1 out (by omega) p ⟨hp, by omega⟩ _ j m hm ⟨hm1, by omega⟩ ihm j 0 (by omega) (by omega) (by omega)
      rw [← e] at main
      refine Ev.to main ?_
      by_cases z : j = 0
      · subst z
        rw [Nat.pow_zero, Nat.one_mul] at e
        subst e
        rw [if_pos rfl, ← fac_no hp h1 hm]
      · rw [if_neg z, e, fac_yes hp (by omega) hm hm1]; simp [rowsF]
theorem ev_factors (n : Nat) (h1 : 1 ≤ n) (hn : n ≤ 10000) : Ev (fun k => impl_factors.f k (n : Int)) (rowsF (fac 2 n)) := by
  unfold impl_factors.f
  exact ev_fac_l0 100 2 n [] (by omega) (by omega) h1 hn (by simp) (NoLow.two n)

theorem numberOk_f (a : Int) : impl_numberOk.f a = some (decide (1 ≤ a ∧ a ≤ 10000)) := by
  unfold impl_numberOk.f
  by_cases h : a ≥ 1
  · rw [if_pos h]; simp [show 1 ≤ a from h]
  · rw [if_neg h]; simp [show ¬ 1 ≤ a from h]

def facZ (n : Int) : List (Nat × Nat) := if 1 ≤ n ∧ n ≤ 10000 then fac 2 n.toNat else []
theorem ev_FactorsOf (n : Int) : Ev (fun k => impl_FactorsOf.f k n) (rowsF (facZ n)) := by
  unfold impl_FactorsOf.f facZ
  simp only [numberOk_f, Option.bind_some, decide_eq_true_eq]
  by_cases h : 1 ≤ n ∧ n ≤ 10000
  · obtain ⟨m, rfl⟩ := Int.eq_ofNat_of_zero_le (show 0 ≤ n by omega)
    simp only [if_pos h, Int.toNat_natCast]
    exact Ev.bind (ev_factors m (by omega) (by omega)) (Ev.now _)
  · simp only [if_neg h]; exact Ev.now _
theorem facZ_length (n : Int) : (facZ n).length ≤ 10000 := by
  unfold facZ; split
  · next h => have := fac_length_le n.toNat (by omega); omega
  · simp

theorem l1In_f (a b c : Int) : spec_l1In.f a b c = some (decide (b ≤ a ∧ a ≤ c)) := by
  unfold spec_l1In.f
  by_cases h : a ≥ b
  · rw [if_pos h]; simp [show b ≤ a from h]
  · rw [if_neg h]; simp [show ¬ b ≤ a from h]

theorem ev_sfac_l1 (x0 : Int) (out : List (List Int)) (hout : out.length ≤ 1000000) (p : Nat) (hp : 2 ≤ p ∧ p ≤ 10000) (r : List (List Int)) (t m : Nat) (hm : m % p ≠ 0) (h1 : 1 ≤ m ∧ m ≤ 10000)
    (hN : Ev (fun k => spec_FactorsOf.l0 k x0 (if t = 0 then out else out ++ [[(p : Int), (t : Int)]]) (m : Int) ((p + 1 : Nat) : Int)) r) :
    ∀ (j c : Nat), c + j = t → p ^ j * m ≤ 10000 → t ≤ 10000 →
    Ev (fun k => spec_FactorsOf.l1 k x0 out ((p ^ j * m : Nat) : Int) (p : Int) (c : Int)) r := by
  intro j
  induction j with
  | zero =>
    intro c hc hb ht
    refine Ev.step (fun k => by rw [spec_FactorsOf.l1]) ?_
    have c0 : ¬ (p : Int) = 0 := by omega
    have c1 : ¬ ((m % p : Nat) : Int) = 0 := by omega
    simp only [Nat.pow_zero, Nat.one_mul, if_neg c0, ← Int.ofNat_tmod, if_neg c1, w64 (x := (p : Int) + 1) (by omega)]
    have e : c = t := by omega
    subst e
    by_cases z : c = 0
    · have c2 : ¬ (c : Int) > 0 := by omega
      rw [if_pos z] at hN
      simp only [if_neg c2]; exact hN
    · have c2 : (0 : Int) < (c : Int) := by omega
      have c3 : out.length < 5864062014805 := by omega
      rw [if_neg z] at hN
      simp only [gt_iff_lt, if_pos c2, if_pos c3]; exact hN
  | succ j ih =>
    intro c hc hb ht
    refine Ev.step (fun k => by rw [spec_FactorsOf.l1]) ?_
    have e : p ^ (j + 1) * m = p * (p ^ j * m) := by rw [Nat.pow_succ, Nat.mul_comm (p ^ j) p, Nat.mul_assoc]
    have c0 : ¬ (p : Int) = 0 := by omega
    have c1 : ((p ^ (j + 1) * m % p : Nat) : Int) = 0 := by rw [e, Nat.mul_mod_right]; rfl
    have c2 : p ^ (j + 1) * m / p = p ^ j * m := by rw [e, Nat.mul_div_cancel_left _ (by omega)]
    have b2 : 1 * (p ^ j * m) ≤ p * (p ^ j * m) := Nat.mul_le_mul_right _ (by omega)
    simp only [if_neg c0, ← Int.ofNat_tmod, ← Int.ofNat_tdiv, if_pos c1, c2, w64 (x := ((p ^ j * m : Nat) : Int)) (by omega), w64 (x := (c : Int) + 1) (by omega)]
    exact ih (c + 1) (by omega) (by omega) ht
theorem ev_sfac_l0 (x0 : Int) (hx : 1 ≤ x0 ∧ x0 ≤ 10000) : ∀ (d p n : Nat) (out : List (List Int)), p + d = 10002 → 2 ≤ p → 1 ≤ n → n ≤ 10000 → out.length ≤ p →
    Ev (fun k => spec_FactorsOf.l0 k x0 out (n : Int) (p : Int)) (out ++ rowsF (fac p n)) := by
  intro d
  have stop : ∀ (p n : Nat) (out : List (List Int)), n < p → Ev (fun k => spec_FactorsOf.l0 k x0 out (n : Int) (p : Int)) (out ++ rowsF (fac p n)) := by
    intro p n out h
    refine Ev.step (fun k => by rw [spec_FactorsOf.l0]) ?_
    have c : ¬ (p : Int) ≤ (n : Int) := by omega
    simp only [if_neg c]
    refine Ev.step (fun k => by rw [spec_FactorsOf.j1]) ?_
    simp only [Bool.false_eq_true, if_false]
    rw [fac_lt h]
    exact Ev.ret (by simp [rowsF])
  induction d with
  | zero =>
    intro p n out hd hp h1 hn ho
    exact stop p n out (by omega)
  | succ d ih =>
    intro p n out hd hp h1 hn ho
    by_cases c : n < p
    · exact stop p n out c
    refine Ev.step (fun k => by rw [spec_FactorsOf.l0]) ?_
    have c1 : (p : Int) ≤ (n : Int) := by omega
    simp only [if_pos c1, l1In_f, Option.bind_some, decide_eq_true hx]
    refine Ev.step (fun k => by rw [spec_FactorsOf.j1]) ?_
    simp only [if_true]
    obtain ⟨j, m, e, hm, hm1⟩ := exists_strip p hp n h1
    have hj : j < p ^ j := Nat.lt_pow_self (by omega)
    have b1 : p ^ j * 1 ≤ p ^ j * m := Nat.mul_le_mul_left _ hm1
    have b2 : 1 * m ≤ p ^ j * m := Nat.mul_le_mul_right _ (Nat.pow_pos (by omega))
    have ihm := ih (p + 1) m (if j = 0 then out else out ++ [[(p : Int), (j : Int)]]) (by omega) (by omega) hm1 (by omega) (by split <;> (try simp) <;> omega)
    have main := ev_sfac_l1 x0 out (by omega) p ⟨hp, by omega⟩ _ j m hm ⟨hm1, by omega⟩ ihm j 0 (by omega) (by omega) (by omega)
    rw [← e] at main
    refine Ev.to main ?_
    by_cases z : j = 0
    · subst z
      rw [Nat.pow_zero, Nat.one_mul] at e
      subst e
      rw [if_pos rfl, ← fac_no hp h1 hm]
    · rw [if_neg z, e, fac_yes hp (by omega) hm hm1]; simp [rowsF]
theorem ev_sFactorsOf (n : Nat) (h1 : 1 ≤ n) (hn : n ≤ 10000) : Ev (fun k => spec_FactorsOf.f k (n : Int)) (rowsF (fac 2 n)) := by
  unfold spec_FactorsOf.f
  exact ev_sfac_l0 (n : Int) (by omega) 10000 2 n [] (by omega) (by omega) h1 hn (by simp)
theorem ev_sFactorsOf_no {n : Int} (h : ¬ (1 ≤ n ∧ n ≤ 10000)) : Ev (fun k => spec_FactorsOf.f k n) [] := by
  unfold spec_FactorsOf.f
  refine Ev.step (fun k => by rw [spec_FactorsOf.l0]) ?_
  have no : Ev (fun k => spec_FactorsOf.j1 k n [] n 2 false) [] := by
    refine Ev.step (fun k => by rw [spec_FactorsOf.j1]) ?_
    simp only [Bool.false_eq_true, if_false]; exact Ev.now _
  by_cases c : (2 : Int) ≤ n
  · simp only [if_pos c, l1In_f, Option.bind_some, decide_eq_false h]; exact no
  · simp only [if_neg c]; exact no

theorem rd_nat (xs : List Int) (i : Nat) : rd xs (i : Int) = xs.getD i 0 := rfl
theorem drop_step (f : List Int) (i : Nat) (h : i < f.length) : f.drop i = f.getD i 0 :: f.drop (i + 1) := by
  rw [List.drop_eq_getElem_cons h]; simp [List.getD_eq_getElem?_getD, List.getElem?_eq_getElem h]
def InB (f : List Int) (m : Int) : Prop := ∀ x ∈ f, -m ≤ x ∧ x ≤ m
instance (f : List Int) (m : Int) : Decidable (InB f m) := by unfold InB; infer_instance
theorem InB_cons (x : Int) (f : List Int) (m : Int) : InB (x :: f) m ↔ (-m ≤ x ∧ x ≤ m) ∧ InB f m := by
  unfold InB; simp
theorem InB_nil (m : Int) : InB [] m := fun x h => by cases h
theorem InB.mono {f : List Int} {m n : Int} (h : InB f m) (hmn : m ≤ n) : InB f n := fun x hx => by have := h x hx; omega

/-- The marks m, m + 1, .. -/
def marks (m : Int) (n : Nat) : List Int := (List.range n).map (fun i : Nat => m + (i : Int))
theorem marks_length (m : Int) (n : Nat) : (marks m n).length = n := by simp [marks]
theorem marks_getD (m : Int) (n i : Nat) (h : i < n) : (marks m n).getD i 0 = m + (i : Int) := by
  rw [List.getD_eq_getElem?_getD, List.getElem?_eq_getElem (by rw [marks_length]; exact h)]; simp [marks]
theorem marks_succ (m : Int) (n : Nat) : marks m (n + 1) = marks m n ++ [m + (n : Int)] := by simp [marks, List.range_succ]
theorem ev_mark_l (l : List Int) (hl : l.length ≤ 1000000000000) : ∀ (d i : Nat), i + d = l.length →
    Ev (fun k => laws_markIntS.l0 k (marks 1 i ++ l.drop i) (1 + (i : Int)) (i : Int)) (1 + (l.length : Int), marks 1 l.length) := by
  intro d
  induction d with
  | zero =>
    intro i hi
    refine Ev.step (fun k => by rw [laws_markIntS.l0]) ?_
    have e : marks 1 i ++ l.drop i = marks 1 l.length := by rw [List.drop_eq_nil_of_le (by omega), List.append_nil, show i = l.length by omega]
    have h1 : ¬ (i : Int) < ((marks 1 l.length).length : Int) := by rw [marks_length]; omega
    simp only [e, if_neg h1]
    refine Ev.ret ?_
    rw [show (i : Int) = (l.length : Int) by omega]
  | succ d ih =>
    intro i hi
    refine Ev.step (fun k => by rw [laws_markIntS.l0]) ?_
    have h1 : (i : Int) < ((marks 1 i ++ l.drop i).length : Int) := by rw [List.length_append, marks_length, List.length_drop]; omega
    have h2 : (0 : Int) ≤ (i : Int) := by omega
    have e : (marks 1 i ++ l.drop i).set i (1 + (i : Int)) = marks 1 (i + 1) ++ l.drop (i + 1) := by
      rw [List.set_append_right _ _ (by rw [marks_length]; exact Nat.le_refl _), marks_length, Nat.sub_self, drop_step l i (by omega), List.set_cons_zero, marks_succ, List.append_assoc]; rfl
    simp only [if_pos h1, if_pos h2, Int.toNat_natCast, e, w64 (x := (i : Int) + 1) (by omega), w64 (x := 1 + (i : Int) + 1) (by omega)]
    have := ih (i + 1) (by omega)
    rw [show (1 : Int) + ((i + 1 : Nat) : Int) = 1 + (i : Int) + 1 by omega] at this
    exact this
theorem ev_mark (l : List Int) (hl : l.length ≤ 1000000000000) : Ev (fun k => laws_markIntS.f k l 1) (1 + (l.length : Int), marks 1 l.length) := by
  unfold laws_markIntS.f
  exact ev_mark_l l hl l.length 0 (by omega)
theorem ev_held_l (n : Nat) (hn : n ≤ 1000000000000) : ∀ (d i : Nat), i + d = n →
    Ev (fun k => laws_heldIntS.l0 k (marks 1 n) (1 + (i : Int)) (i : Int)) (1 + (n : Int)) := by
  intro d
  induction d with
  | zero =>
    intro i hi
    refine Ev.step (fun k => by rw [laws_heldIntS.l0]) ?_
    have h1 : ¬ (i : Int) < ((marks 1 n).length : Int) := by rw [marks_length]; omega
    simp only [if_neg h1]
    exact Ev.ret (by omega)
  | succ d ih =>
    intro i hi
    refine Ev.step (fun k => by rw [laws_heldIntS.l0]) ?_
    have h1 : (i : Int) < ((marks 1 n).length : Int) := by rw [marks_length]; omega
    have h2 : (0 : Int) ≤ (i : Int) := by omega
    simp only [if_pos h1, if_pos h2, rd_nat, marks_getD 1 n i (by omega), if_true, w64 (x := (i : Int) + 1) (by omega), w64 (x := 1 + (i : Int) + 1) (by omega)]
    have := ih (i + 1) (by omega)
    rw [show (1 : Int) + ((i + 1 : Nat) : Int) = 1 + (i : Int) + 1 by omega] at this
    exact this
theorem ev_held (n : Nat) (hn : n ≤ 1000000000000) : Ev (fun k => laws_heldIntS.f k (marks 1 n) 1) (1 + (n : Int)) := by
  unfold laws_heldIntS.f
  exact ev_held_l n hn n 0 (by omega)

theorem ev_mark_from_l (l : List Int) (m : Int) (hm : 0 ≤ m ∧ m ≤ 1000000000000) (hl : l.length ≤ 1000000000000) : ∀ (d i : Nat), i + d = l.length →
    Ev (fun k => laws_markIntS.l0 k (marks m i ++ l.drop i) (m + (i : Int)) (i : Int)) (m + (l.length : Int), marks m l.length) := by
  intro d
  induction d with
  | zero =>
    intro i hi
    refine Ev.step (fun k => by rw [laws_markIntS.l0]) ?_
    have e : marks m i ++ l.drop i = marks m l.length := by rw [List.drop_eq_nil_of_le (by omega), List.append_nil, show i = l.length by omega]
    have h1 : ¬ (i : Int) < ((marks m l.length).length : Int) := by rw [marks_length]; omega
    simp only [e, if_neg h1]
    refine Ev.ret ?_
    rw [show (i : Int) = (l.length : Int) by omega]
  | succ d ih =>
    intro i hi
    refine Ev.step (fun k => by rw [laws_markIntS.l0]) ?_
    have h1 : (i : Int) < ((marks m i ++ l.drop i).length : Int) := by rw [List.length_append, marks_length, List.length_drop]; omega
    have h2 : (0 : Int) ≤ (i : Int) := by omega
    have e : (marks m i ++ l.drop i).set i (m + (i : Int)) = marks m (i + 1) ++ l.drop (i + 1) := by
      rw [List.set_append_right _ _ (by rw [marks_length]; exact Nat.le_refl _), marks_length, Nat.sub_self, drop_step l i (by omega), List.set_cons_zero, marks_succ, List.append_assoc]; rfl
    simp only [if_pos h1, if_pos h2, Int.toNat_natCast, e, w64 (x := (i : Int) + 1) (by omega), w64 (x := m + (i : Int) + 1) (by omega)]
    have := ih (i + 1) (by omega)
    rw [show m + ((i + 1 : Nat) : Int) = m + (i : Int) + 1 by omega] at this
    exact this
theorem ev_mark_from (l : List Int) (m : Int) (hm : 0 ≤ m ∧ m ≤ 1000000000000) (hl : l.length ≤ 1000000000000) : Ev (fun k => laws_markIntS.f k l m) (m + (l.length : Int), marks m l.length) := by
  unfold laws_markIntS.f
  have := ev_mark_from_l l m hm hl l.length 0 (by omega)
  simpa [marks] using this

theorem ev_eqIntS_l (a b : List Int) (hl : a.length = b.length) (ha : a.length ≤ 1000000000000000) : ∀ (d i : Nat), i + d = a.length →
    Ev (fun k => laws_eqIntS.l0 k a b (i : Int)) (decide (a.drop i = b.drop i)) := by
  intro d
  induction d with
  | zero =>
    intro i hi
    refine Ev.step (fun k => by rw [laws_eqIntS.l0]) ?_
    have h1 : ¬ (i : Int) < (a.length : Int) := by omega
    simp only [if_neg h1]
    refine Ev.ret ?_
    rw [List.drop_eq_nil_of_le (by omega), List.drop_eq_nil_of_le (by omega)]; simp
  | succ d ih =>
    intro i hi
    refine Ev.step (fun k => by rw [laws_eqIntS.l0]) ?_
    have h1 : (i : Int) < (a.length : Int) := by omega
    have h2 : (0 : Int) ≤ (i : Int) := by omega
    have h3 : (i : Int) < (b.length : Int) := by omega
    have ea := drop_step a i (by omega)
    have eb := drop_step b i (by omega)
    simp only [if_pos h1, if_pos h2, if_pos h3, rd_nat, w64 (x := (i : Int) + 1) (by omega)]
    by_cases e : a.getD i 0 = b.getD i 0
    · simp only [if_pos e]
      refine Ev.to (ih (i + 1) (by omega)) ?_
      rw [ea, eb, e]; simp
    · simp only [if_neg e]
      refine Ev.ret ?_
      rw [ea, eb]; simp only [List.cons.injEq, e, false_and, decide_false]
theorem ev_eqIntS (a b : List Int) (ha : a.length ≤ 1000000000000000) : Ev (fun k => laws_eqIntS.f k a b) (decide (a = b)) := by
  unfold laws_eqIntS.f
  by_cases h : (a.length : Int) = (b.length : Int)
  · simp only [if_pos h]
    exact ev_eqIntS_l a b (by omega) ha a.length 0 (by omega)
  · simp only [if_neg h]
    refine Ev.ret ?_
    symm; rw [decide_eq_false_iff_not]
    intro e; subst e; exact h rfl

theorem ev_held_from_l (m : Int) (hm : 0 ≤ m ∧ m ≤ 1000000000000) (n : Nat) (hn : n ≤ 1000000000000) : ∀ (d i : Nat), i + d = n →
    Ev (fun k => laws_heldIntS.l0 k (marks m n) (m + (i : Int)) (i : Int)) (m + (n : Int)) := by
  intro d
  induction d with
  | zero =>
    intro i hi
    refine Ev.step (fun k => by rw [laws_heldIntS.l0]) ?_
    have h1 : ¬ (i : Int) < ((marks m n).length : Int) := by rw [marks_length]; omega
    simp only [if_neg h1]
    exact Ev.ret (by omega)
  | succ d ih =>
    intro i hi
    refine Ev.step (fun k => by rw [laws_heldIntS.l0]) ?_
    have h1 : (i : Int) < ((marks m n).length : Int) := by rw [marks_length]; omega
    have h2 : (0 : Int) ≤ (i : Int) := by omega
    simp only [if_pos h1, if_pos h2, rd_nat, marks_getD m n i (by omega), if_true, w64 (x := (i : Int) + 1) (by omega), w64 (x := m + (i : Int) + 1) (by omega)]
    have := ih (i + 1) (by omega)
    rw [show m + ((i + 1 : Nat) : Int) = m + (i : Int) + 1 by omega] at this
    exact this
theorem ev_held_from (m : Int) (hm : 0 ≤ m ∧ m ≤ 1000000000000) (n : Nat) (hn : n ≤ 1000000000000) : Ev (fun k => laws_heldIntS.f k (marks m n) m) (m + (n : Int)) := by
  unfold laws_heldIntS.f
  have := ev_held_from_l m hm n hn n 0 (by omega)
  simpa using this
/-- Rows of two, marked. -/
def mk (n : Nat) : List (List Int) := (List.range n).map (fun i : Nat => marks (1 + 2 * (i : Int)) 2)
theorem mk_length (n : Nat) : (mk n).length = n := by simp [mk]
theorem mk_succ (n : Nat) : mk (n + 1) = mk n ++ [marks (1 + 2 * (n : Int)) 2] := by simp [mk, List.range_succ]
theorem mk_rd (n i : Nat) (h : i < n) : rd_L1 (mk n) (i : Int) = marks (1 + 2 * (i : Int)) 2 := by
  show (mk n).getD i [] = _
  rw [List.getD_eq_getElem?_getD, List.getElem?_eq_getElem (by rw [mk_length]; exact h)]
  simp [mk]
theorem drop_rows (f : List (List Int)) (i : Nat) (h : i < f.length) : f.drop i = f.getD i [] :: f.drop (i + 1) := by
  rw [List.drop_eq_getElem_cons h, List.getD_eq_getElem?_getD, List.getElem?_eq_getElem h]; rfl
theorem ev_markSS_l (F : List (Nat × Nat)) (hF : F.length ≤ 100000) : ∀ (d i : Nat), i + d = F.length →
    Ev (fun k => laws_markIntSS.l0 k (mk i ++ (rowsF F).drop i) (1 + 2 * (i : Int)) (i : Int)) (1 + 2 * (F.length : Int), mk F.length) := by
  intro d
  induction d with
  | zero =>
    intro i hi
    refine Ev.step (fun k => by rw [laws_markIntSS.l0]) ?_
    have e : mk i ++ (rowsF F).drop i = mk F.length := by rw [List.drop_eq_nil_of_le (by rw [rowsF_length]; omega), List.append_nil, show i = F.length by omega]
    have h1 : ¬ (i : Int) < ((mk F.length).length : Int) := by rw [mk_length]; omega
    simp only [e, if_neg h1]
    exact Ev.ret (by rw [show (i : Int) = (F.length : Int) by omega])
  | succ d ih =>
    intro i hi
    refine Ev.step (fun k => by rw [laws_markIntSS.l0]) ?_
    have hr : i < (rowsF F).length := by rw [rowsF_length]; omega
    have h1 : (i : Int) < ((mk i ++ (rowsF F).drop i).length : Int) := by rw [List.length_append, mk_length, List.length_drop]; omega
    have h2 : (0 : Int) ≤ (i : Int) := by omega
    have er : rd_L1 (mk i ++ (rowsF F).drop i) (i : Int) = (rowsF F).getD i [] := by
      show (mk i ++ (rowsF F).drop i).getD i [] = _
      rw [List.getD_eq_getElem?_getD, List.getElem?_append_right (by rw [mk_length]; exact Nat.le_refl _), mk_length, Nat.sub_self, drop_rows _ i hr]
      rfl
    have el : ((rowsF F).getD i []).length = 2 := by
      rw [List.getD_eq_getElem?_getD, List.getElem?_eq_getElem hr]
      simp [rowsF]
    have e : ∀ y, (mk i ++ (rowsF F).drop i).set i y = mk i ++ [y] ++ (rowsF F).drop (i + 1) := fun y => by
      rw [List.set_append_right _ _ (by rw [mk_length]; exact Nat.le_refl _), mk_length, Nat.sub_self, drop_rows _ i hr, List.set_cons_zero, List.append_assoc]; rfl
    simp only [if_pos h1, if_pos h2, Int.toNat_natCast, er, e, w64 (x := (i : Int) + 1) (by omega)]
    have m := ev_mark_from ((rowsF F).getD i []) (1 + 2 * (i : Int)) (by omega) (by omega)
    rw [el] at m
    refine Ev.bind m ?_
    have := ih (i + 1) (by omega)
    rw [mk_succ, show (1 : Int) + 2 * ((i + 1 : Nat) : Int) = 1 + 2 * (i : Int) + ((2 : Nat) : Int) by omega] at this
    exact this
theorem ev_markSS (F : List (Nat × Nat)) (hF : F.length ≤ 100000) : Ev (fun k => laws_markIntSS.f k (rowsF F) 1) (1 + 2 * (F.length : Int), mk F.length) := by
  unfold laws_markIntSS.f
  have := ev_markSS_l F hF F.length 0 (by omega)
  simpa [mk] using this
theorem ev_heldSS_l (n : Nat) (hn : n ≤ 100000) : ∀ (d i : Nat), i + d = n →
    Ev (fun k => laws_heldIntSS.l0 k (mk n) (1 + 2 * (i : Int)) (i : Int)) (1 + 2 * (n : Int)) := by
  intro d
  induction d with
  | zero =>
    intro i hi
    refine Ev.step (fun k => by rw [laws_heldIntSS.l0]) ?_
    have h1 : ¬ (i : Int) < ((mk n).length : Int) := by rw [mk_length]; omega
    simp only [if_neg h1]
    exact Ev.ret (by omega)
  | succ d ih =>
    intro i hi
    refine Ev.step (fun k => by rw [laws_heldIntSS.l0]) ?_
    have h1 : (i : Int) < ((mk n).length : Int) := by rw [mk_length]; omega
    have h2 : (0 : Int) ≤ (i : Int) := by omega
    simp only [if_pos h1, if_pos h2, mk_rd n i (by omega), w64 (x := (i : Int) + 1) (by omega)]
    refine Ev.bind (ev_held_from (1 + 2 * (i : Int)) (by omega) 2 (by omega)) ?_
    have h3 : ¬ (1 + 2 * (i : Int) + ((2 : Nat) : Int)) < 0 := by omega
    simp only [if_neg h3]
    have := ih (i + 1) (by omega)
    rw [show (1 : Int) + 2 * ((i + 1 : Nat) : Int) = 1 + 2 * (i : Int) + ((2 : Nat) : Int) by omega] at this
    exact this
theorem ev_heldSS (n : Nat) (hn : n ≤ 100000) : Ev (fun k => laws_heldIntSS.f k (mk n) 1) (1 + 2 * (n : Int)) := by
  unfold laws_heldIntSS.f
  have := ev_heldSS_l n hn n 0 (by omega)
  simpa using this
theorem ev_eqSS_l (F : List (Nat × Nat)) (hF : F.length ≤ 100000) : ∀ (d i : Nat), i + d = F.length →
    Ev (fun k => laws_eqIntSS.l0 k (rowsF F) (rowsF F) (i : Int)) true := by
  intro d
  induction d with
  | zero =>
    intro i hi
    refine Ev.step (fun k => by rw [laws_eqIntSS.l0]) ?_
    have h1 : ¬ (i : Int) < ((rowsF F).length : Int) := by rw [rowsF_length]; omega
    simp only [if_neg h1]
    exact Ev.now _
  | succ d ih =>
    intro i hi
    refine Ev.step (fun k => by rw [laws_eqIntSS.l0]) ?_
    have hr : i < (rowsF F).length := by rw [rowsF_length]; omega
    have h1 : (i : Int) < ((rowsF F).length : Int) := by omega
    have h2 : (0 : Int) ≤ (i : Int) := by omega
    have er : rd_L1 (rowsF F) (i : Int) = (rowsF F).getD i [] := rfl
    have el : ((rowsF F).getD i []).length = 2 := by
      rw [List.getD_eq_getElem?_getD, List.getElem?_eq_getElem hr]
      simp [rowsF]
    simp only [if_pos h1, if_pos h2, er, w64 (x := (i : Int) + 1) (by omega)]
    refine Ev.bind (ev_eqIntS ((rowsF F).getD i []) ((rowsF F).getD i []) (by omega)) ?_
    simp only [decide_true, if_true]
    exact ih (i + 1) (by omega)
theorem ev_eqSS (F : List (Nat × Nat)) (hF : F.length ≤ 100000) : Ev (fun k => laws_eqIntSS.f k (rowsF F) (rowsF F)) true := by
  unfold laws_eqIntSS.f
  simp only [if_true]
  exact ev_eqSS_l F hF F.length 0 (by omega)

theorem FnExactFactorsOf : laws_FnExactFactorsOf.Pure := by
  intro n hn
  apply Ev.k
  unfold laws_FnExactFactorsOf.f
  have hl := facZ_length n
  have es : Ev (fun k => spec_FactorsOf.f k n) (rowsF (facZ n)) := by
    by_cases h : 1 ≤ n ∧ n ≤ 10000
    · obtain ⟨m, rfl⟩ := Int.eq_ofNat_of_zero_le (show 0 ≤ n by omega)
      refine Ev.to (ev_sFactorsOf m (by omega) (by omega)) ?_
      unfold facZ; rw [if_pos h, Int.toNat_natCast]
    · refine Ev.to (ev_sFactorsOf_no h) ?_
      unfold facZ; rw [if_neg h]; rfl
  refine Ev.bind es (Ev.bind (ev_FactorsOf n) (Ev.bind (ev_eqSS (facZ n) (by omega)) ?_))
  simp only [if_true]
  refine Ev.bind (ev_markSS (facZ n) (by omega)) (Ev.bind (ev_heldSS (facZ n).length (by omega)) ?_)
  have c : ¬ 1 + 2 * ((facZ n).length : Int) < 0 := by omega
  simp only [if_neg c, if_true]
  refine Ev.bind (ev_FactorsOf n) (Ev.bind (ev_eqSS (facZ n) (by omega)) ?_)
  simp only [if_true]
  refine Ev.bind (ev_heldSS (facZ n).length (by omega)) ?_
  simp only [if_neg c, if_true]
  exact Ev.now _

end Go.Proofs.Ytjhnjlakdokncaa.Pure
