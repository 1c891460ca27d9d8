/- The program's SquareFree and the reference's tell the same for all numbers. -/
import Derived.Test.YtjhnjlakdokncaaPFnExactSquareFreex0
import Derived.Test.YtjhnjlakdokncaaPFnExactSquareFreex1
import Derived.Test.YtjhnjlakdokncaaPFnExactSquareFreex2
import Derived.Test.YtjhnjlakdokncaaPFnExactSquareFreex3
import Derived.Test.YtjhnjlakdokncaaPFnExactSquareFreex4
import Derived.Test.YtjhnjlakdokncaaM1
import Derived.Test.YtjhnjlakdokncaaM2
import Derived.Test.YtjhnjlakdokncaaM3
namespace Go.Proofs.Ytjhnjlakdokncaa.Pure
open Go.RowKit Go.Proofs.Ytjhnjlakdokncaa.PFnExactSquareFree Go.Proofs.YtjhnjlakdokncaaW.PrintWords Go.Proofs.YtjhnjlakdokncaaW.PrintLast Go.Proofs.YtjhnjlakdokncaaW.PrintMore Go.Proofs.Ytjhnjlakdokncaa.Math
set_option linter.unusedVariables false
set_option linter.unusedSimpArgs false
theorem w64 {x : Int} (h : -9223372036854775808 ≤ x ∧ x ≤ 9223372036854775807) : wrap64 x = x := by unfold wrap64; omega
theorem Ev.k {α : Type} {g : Nat → Option α} {r : α} (h : Ev g r) : ∃ k, g k = some r := Ev.rounds h
theorem Ev.to {α : Type} {g : Nat → Option α} {r s : α} (h : Ev g r) (e : r = s) : Ev g s := e ▸ h
theorem Ev.ret {α : Type} {r s : α} (e : r = s) : Ev (fun _ => some r) s := e ▸ Ev.now r

theorem numberOk_f (a : Int) : impl_numberOk.f a = some (decide (1 ≤ a ∧ a ≤ 10000)) := by
  unfold impl_numberOk.f
  by_cases h : a ≥ 1
  · rw [if_pos h]; simp [show 1 ≤ a from h]
  · rw [if_neg h]; simp [show ¬ 1 ≤ a from h]

theorem l1In_f (a b c : Int) : spec_l1In.f a b c = some (decide (b ≤ a ∧ a ≤ c)) := by
  unfold spec_l1In.f
  by_cases h : a ≥ b
  · rw [if_pos h]; simp [show b ≤ a from h]
  · rw [if_neg h]; simp [show ¬ b ≤ a from h]

/-- The sum, over all numbers from one on whose square is no greater, of the sign times the quotient by the square. -/
def sqF : Nat → Nat → Nat → Int
  | 0, _, _ => 0
  | f + 1, n, d => if d * d ≤ n then mu d * ((n / (d * d) : Nat) : Int) + sqF f n (d + 1) else 0
def sqS (n : Nat) : Int := sqF 101 n 1
def sqZ (n : Int) : Int := if 1 ≤ n ∧ n ≤ 10000 then sqS n.toNat else -1
theorem mul_mu_bd (d n : Nat) (q : Nat) (hq : q ≤ n) : -(n : Int) ≤ mu d * (q : Int) ∧ mu d * (q : Int) ≤ (n : Int) := by
  rcases mu_bd d with h | h | h <;> rw [h] <;> omega

/-- Natural numbers as the program's numbers. -/
def ints (l : List Nat) : List Int := l.map (fun x : Nat => (x : Int))
theorem ints_length (l : List Nat) : (ints l).length = l.length := by simp [ints]
theorem ints_append (l m : List Nat) : ints (l ++ m) = ints l ++ ints m := by simp [ints]
theorem ints_reverse (l : List Nat) : (ints l).reverse = ints l.reverse := by simp [ints]

/-- Factors as the program tells them: rows of two numbers. -/
def rowsF (L : List (Nat × Nat)) : List (List Int) := L.map (fun x : Nat × Nat => [(x.1 : Int), (x.2 : Int)])
theorem rowsF_length (L : List (Nat × Nat)) : (rowsF L).length = L.length := by simp [rowsF]

theorem ev_fac_l1 (out : List (List Int)) (hout : out.length ≤ 1000000) (p : Nat) (hp : 2 ≤ p ∧ p ≤ 10000) (r : List (List Int)) (t m : Nat) (hm : m % p ≠ 0) (h1 : 1 ≤ m ∧ m ≤ 10000)
    (hN : Ev (fun k => impl_factors.l0 k (m : Int) (if t = 0 then out else out ++ [[(p : Int), (t : Int)]]) ((p + 1 : Nat) : Int)) r) :
    ∀ (j c : Nat), c + j = t → p ^ j * m ≤ 10000 → t ≤ 10000 →
    Ev (fun k => impl_factors.l1 k ((p ^ j * m : Nat) : Int) out (p : Int) (c : Int)) r := by
  intro j
  induction j with
  | zero =>
    intro c hc hb ht
    refine Ev.step (fun k => by rw [impl_factors.l1]) ?_
    have c0 : ¬ (p : Int) = 0 := by omega
    have c1 : ¬ ((m % p : Nat) : Int) = 0 := by omega
    simp only [Nat.pow_zero, Nat.one_mul, if_neg c0, ← Int.ofNat_tmod, if_neg c1, w64 (x := (p : Int) + 1) (by omega)]
    have e : c = t := by omega
    subst e
    by_cases z : c = 0
    · have c2 : ¬ (c : Int) > 0 := by omega
      rw [if_pos z] at hN
      simp only [if_neg c2]; exact hN
    · have c2 : (0 : Int) < (c : Int) := by omega
      have c3 : out.length < 5864062014805 := by omega
      rw [if_neg z] at hN
      simp only [gt_iff_lt, if_pos c2, if_pos c3]; exact hN
  | succ j ih =>
    intro c hc hb ht
    refine Ev.step (fun k => by rw [impl_factors.l1]) ?_
    have e : p ^ (j + 1) * m = p * (p ^ j * m) := by rw [Nat.pow_succ, Nat.mul_comm (p ^ j) p, Nat.mul_assoc]
    have c0 : ¬ (p : Int) = 0 := by omega
    have c1 : ((p ^ (j + 1) * m % p : Nat) : Int) = 0 := by rw [e, Nat.mul_mod_right]; rfl
    have c2 : p ^ (j + 1) * m / p = p ^ j * m := by rw [e, Nat.mul_div_cancel_left _ (by omega)]
    have b2 : 1 * (p ^ j * m) ≤ p * (p ^ j * m) := Nat.mul_le_mul_right _ (by omega)
    simp only [if_neg c0, ← Int.ofNat_tmod, ← Int.ofNat_tdiv, if_pos c1, c2, w64 (x := ((p ^ j * m : Nat) : Int)) (by omega), w64 (x := (c : Int) + 1) (by omega)]
    exact ih (c + 1) (by omega) (by omega) ht
theorem ev_fac_one (out : List (List Int)) (p : Int) : Ev (fun k => impl_factors.l0 k 1 out p) out := by
  refine Ev.step (fun k => by rw [impl_factors.l0]) ?_
  have c : ¬ (1 : Int) > 1 := by omega
  simp only [if_neg c]
  exact Ev.now _
theorem ev_fac_l0 : ∀ (d p n : Nat) (out : List (List Int)), p + d = 102 → 2 ≤ p → 1 ≤ n → n ≤ 10000 → out.length ≤ p → NoLow p n →
    Ev (fun k => impl_factors.l0 k (n : Int) out (p : Int)) (out ++ rowsF (fac p n)) := by
  intro d
  induction d with
  | zero =>
    intro p n out hd hp h1 hn ho hl
    by_cases c : n = 1
    · subst c; rw [fac_lt (by omega)]; simpa [rowsF] using ev_fac_one out (p : Int)
    refine Ev.step (fun k => by rw [impl_factors.l0]) ?_
    have c1 : (1 : Int) < (n : Int) := by omega
    have e : p = 102 := by omega
    subst e
    have c2 : (n : Int) < ((102 : Nat) : Int) * ((102 : Nat) : Int) := by omega
    have hpr : Pr n := pr_of_root (d := 102) (by omega) (by omega) hl
    have hf : fac 102 n = [(n, 1)] := by
      rw [← fac_skip h1 hl (by omega), fac_skip h1 (p := n) ?_ (by omega)]
      · have := fac_yes (p := n) (j := 1) (m := 1) (by omega) (by omega) (by rw [Nat.mod_eq_of_lt (by omega)]; omega) (by omega)
        rw [Nat.pow_one, Nat.mul_one] at this
        rw [this, fac_lt (by omega)]
      · intro x h2 hx e
        rcases hpr.2 x (Nat.dvd_of_mod_eq_zero e) with h | h <;> omega
    simp only [gt_iff_lt, if_pos c1, w64 (x := ((102 : Nat) : Int) * ((102 : Nat) : Int)) (by omega), if_pos c2]
    refine Ev.step (fun k => by rw [impl_factors.j1]) ?_
    rw [hf]
    have := ev_fac_l1 out (by omega) n ⟨by omega, hn⟩ (out ++ rowsF [(n, 1)]) 1 1 (by rw [Nat.mod_eq_of_lt (by omega)]; omega) (by omega) (by simpa [rowsF] using ev_fac_one (out ++ [[(n : Int), 1]]) ((n : Int) + 1)) 1 0 (by omega) (by rw [Nat.pow_one]; omega) (by omega)
    rw [Nat.pow_one, Nat.mul_one] at this
    exact this
  | succ d ih =>
    intro p n out hd hp h1 hn ho hl
    by_cases c : n = 1
    · subst c; rw [fac_lt (by omega)]; simpa [rowsF] using ev_fac_one out (p : Int)
    refine Ev.step (fun k => by rw [impl_factors.l0]) ?_
    have c1 : (1 : Int) < (n : Int) := by omega
    have pp : p * p ≤ 101 * 101 := Nat.mul_le_mul (by omega) (by omega)
    have ep : (p : Int) * (p : Int) = ((p * p : Nat) : Int) := by simp
    simp only [gt_iff_lt, if_pos c1, ep, w64 (x := ((p * p : Nat) : Int)) (by omega)]
    by_cases hpp : n < p * p
    · have c2 : (n : Int) < ((p * p : Nat) : Int) := by omega
      have hpr : Pr n := pr_of_root (d := p) (by omega) hpp hl
      have hln : NoLow n n := fun x h2 hx e => by
        rcases hpr.2 x (Nat.dvd_of_mod_eq_zero e) with h | h <;> omega
      have hf : fac p n = [(n, 1)] := by
        rw [← fac_skip h1 hl hp, fac_skip h1 (p := n) hln (by omega)]
        have := fac_yes (p := n) (j := 1) (m := 1) (by omega) (by omega) (by rw [Nat.mod_eq_of_lt (by omega)]; omega) (by omega)
        rw [Nat.pow_one, Nat.mul_one] at this
        rw [this, fac_lt (by omega)]
      simp only [if_pos c2]
      refine Ev.step (fun k => by rw [impl_factors.j1]) ?_
      rw [hf]
      have := ev_fac_l1 out (by omega) n ⟨by omega, hn⟩ (out ++ rowsF [(n, 1)]) 1 1 (by rw [Nat.mod_eq_of_lt (by omega)]; omega) (by omega) (by simpa [rowsF] using ev_fac_one (out ++ [[(n : Int), 1]]) ((n : Int) + 1)) 1 0 (by omega) (by rw [Nat.pow_one]; omega) (by omega)
      rw [Nat.pow_one, Nat.mul_one] at this
      exact this
    · have c2 : ¬ (n : Int) < ((p * p : Nat) : Int) := by omega
      simp only [if_neg c2]
      refine Ev.step (fun k => by rw [impl_factors.j1]) ?_
      obtain ⟨j, m, e, hm, hm1⟩ := exists_strip p hp n h1
      have hj : j < p ^ j := Nat.lt_pow_self (by omega)
      have b1 : p ^ j * 1 ≤ p ^ j * m := Nat.mul_le_mul_left _ hm1
      have b2 : 1 * m ≤ p ^ j * m := Nat.mul_le_mul_right _ (Nat.pow_pos (by omega))
      have hlm : NoLow (p + 1) m := (hl.of_dvd (by rw [e]; exact dvd_pow_mul p j m)).succ hm
      have ihm := ih (p + 1) m (if j = 0 then out else out ++ [[(p : Int), (j : Int)]]) (by omega) (by omega) hm1 (by omega) (by split <;> (try simp) <;> omega) hlm
      have main := ev_fac_l1 out (by omega) p ⟨hp, by omega⟩ _ j m hm ⟨hm1, by omega⟩ ihm j 0 (by omega) (by omega) (by omega)
      rw [← e] at main
      refine Ev.to main ?_
      by_cases z : j = 0
      · subst z
        rw [Nat.pow_zero, Nat.one_mul] at e
        subst e
        rw [if_pos rfl, ← fac_no hp h1 hm]
      · rw [if_neg z, e, fac_yes hp (by omega) hm hm1]; simp [rowsF]
theorem ev_factors (n : Nat) (h1 : 1 ≤ n) (hn : n ≤ 10000) : Ev (fun k => impl_factors.f k (n : Int)) (rowsF (fac 2 n)) := by
  unfold impl_factors.f
  exact ev_fac_l0 100 2 n [] (by omega) (by omega) h1 hn (by simp) (NoLow.two n)

theorem rdrow (L : List (Nat × Nat)) (i : Nat) (h : i < L.length) : rd_L1 (rowsF L) (i : Int) = [((L.getD i (0, 0)).1 : Int), ((L.getD i (0, 0)).2 : Int)] := by
  show (rowsF L).getD i [] = _
  unfold rowsF
  simp only [List.getD_eq_getElem?_getD, List.getElem?_map, List.getElem?_eq_getElem h, Option.map_some, Option.getD_some]
theorem dropF (L : List (Nat × Nat)) (i : Nat) (h : i < L.length) : L.drop i = L.getD i (0, 0) :: L.drop (i + 1) := by
  rw [List.drop_eq_getElem_cons h]; simp [List.getD_eq_getElem?_getD, List.getElem?_eq_getElem h]
theorem rd_two0 (a b : Int) : rd [a, b] 0 = a := rfl
theorem rd_two1 (a b : Int) : rd [a, b] 1 = b := rfl
theorem getF_mem (L : List (Nat × Nat)) (i : Nat) (h : i < L.length) : L.getD i (0, 0) ∈ L := by
  rw [List.getD_eq_getElem?_getD, List.getElem?_eq_getElem h]; exact List.getElem_mem _

theorem ev_sign_l (L : List (Nat × Nat)) (hL : L.length ≤ 1000000) : ∀ (d i : Nat) (s : Int), i + d = L.length → (s = 1 ∨ s = -1) →
    Ev (fun k => impl_sign.l0 k s (rowsF L) (L.length : Int) (i : Int)) (s * muL (L.drop i)) := by
  intro d
  induction d with
  | zero =>
    intro i s hi hs
    refine Ev.step (fun k => by rw [impl_sign.l0]) ?_
    have c : ¬ (i : Int) < (L.length : Int) := by omega
    simp only [if_neg c]
    refine Ev.ret ?_
    rw [List.drop_eq_nil_of_le (by omega)]; simp [muL]
  | succ d ih =>
    intro i s hi hs
    refine Ev.step (fun k => by rw [impl_sign.l0]) ?_
    have c : (i : Int) < (L.length : Int) := by omega
    have c1 : 0 ≤ (i : Int) := by omega
    have c2 : 1 < (([((L.getD i (0, 0)).1 : Int), ((L.getD i (0, 0)).2 : Int)] : List Int).length : Int) := by simp
    have e := dropF L i (by omega)
    generalize hx : L.getD i (0, 0) = x at *
    obtain ⟨p, j⟩ := x
    simp only [rowsF_length, if_pos c, if_pos c1, rdrow L i (by omega), hx, if_pos c2, rd_two1, w64 (x := (i : Int) + 1) (by omega), w64 (x := -s) (by omega)]
    rw [e]
    by_cases o : 1 < j
    · have o1 : (1 : Int) < (j : Int) := by omega
      simp only [gt_iff_lt, if_pos o1]
      exact Ev.ret (by simp only [muL]; rw [if_pos o]; simp)
    · have o1 : ¬ (1 : Int) < (j : Int) := by omega
      simp only [gt_iff_lt, if_neg o1]
      refine Ev.to (ih (i + 1) (-s) (by omega) (by omega)) ?_
      simp only [muL]; rw [if_neg o, Int.neg_mul, Int.mul_neg]
theorem ev_sign (n : Nat) (h1 : 1 ≤ n) (hn : n ≤ 10000) : Ev (fun k => impl_sign.f k (n : Int)) (mu n) := by
  unfold impl_sign.f
  refine Ev.bind (ev_factors n h1 hn) ?_
  rw [rowsF_length]
  have := fac_length_le n h1
  refine Ev.to (ev_sign_l (fac 2 n) (by omega) (fac 2 n).length 0 1 (by omega) (Or.inl rfl)) ?_
  rw [List.drop_zero, Int.one_mul]; rfl


theorem ev_iSquareFree_l (n : Nat) (hn : n ≤ 10000) : ∀ (f d : Nat) (a : Int), d + f = 102 → 1 ≤ d → (-(10000 * d : Nat) ≤ a ∧ a ≤ (10000 * d : Nat)) →
    Ev (fun k => impl_SquareFree.l0 k (n : Int) a (d : Int)) (a + sqF f n d) := by
  intro f
  induction f with
  | zero =>
    intro d a hd h1 ha
    refine Ev.step (fun k => by rw [impl_SquareFree.l0]) ?_
    have e : d = 102 := by omega
    subst e
    have c : ¬ ((102 : Nat) : Int) * ((102 : Nat) : Int) ≤ (n : Int) := by omega
    simp only [w64 (x := ((102 : Nat) : Int) * ((102 : Nat) : Int)) (by omega), if_neg c]
    exact Ev.ret (by simp [sqF])
  | succ f ih =>
    intro d a hd h1 ha
    refine Ev.step (fun k => by rw [impl_SquareFree.l0]) ?_
    have pp : d * d ≤ 101 * 101 := Nat.mul_le_mul (by omega) (by omega)
    have pq : 1 * 1 ≤ d * d := Nat.mul_le_mul h1 h1
    have ep : (d : Int) * (d : Int) = ((d * d : Nat) : Int) := by simp
    simp only [ep, w64 (x := ((d * d : Nat) : Int)) (by omega)]
    by_cases hc : d * d ≤ n
    · have c : ((d * d : Nat) : Int) ≤ (n : Int) := by omega
      have c0 : ¬ ((d * d : Nat) : Int) = 0 := by omega
      have dn : d ≤ n := by
        have := Nat.mul_le_mul_left d h1; omega
      have q : n / (d * d) ≤ n := Nat.div_le_self _ _
      have b := mul_mu_bd d n (n / (d * d)) q
      have q0 : (0 : Int) ≤ ((n / (d * d) : Nat) : Int) := Int.natCast_nonneg _
      simp only [if_pos c, if_neg c0, ← Int.ofNat_tdiv, w64 (x := ((n / (d * d) : Nat) : Int)) (by omega), w64 (x := (d : Int) + 1) (by omega)]
      refine Ev.bind (ev_sign d h1 (by omega)) ?_
      simp only [w64 (x := mu d * ((n / (d * d) : Nat) : Int)) (by omega), w64 (x := a + mu d * ((n / (d * d) : Nat) : Int)) (by omega)]
      refine Ev.to (ih (d + 1) (a + mu d * ((n / (d * d) : Nat) : Int)) (by omega) (by omega) (by omega)) ?_
      conv => rhs; unfold sqF
      rw [if_pos hc]; omega
    · have c : ¬ ((d * d : Nat) : Int) ≤ (n : Int) := by omega
      simp only [if_neg c]
      refine Ev.ret ?_
      unfold sqF; rw [if_neg hc]; omega
theorem ev_iSquareFree (n : Int) : Ev (fun k => impl_SquareFree.f k n) (sqZ n) := by
  unfold impl_SquareFree.f sqZ
  simp only [numberOk_f, Option.bind_some, decide_eq_true_eq]
  by_cases h : 1 ≤ n ∧ n ≤ 10000
  · obtain ⟨m, rfl⟩ := Int.eq_ofNat_of_zero_le (show 0 ≤ n by omega)
    simp only [if_pos h, Int.toNat_natCast]
    refine Ev.to (ev_iSquareFree_l m (by omega) 101 1 0 (by omega) (by omega) (by omega)) ?_
    rw [Int.zero_add]; rfl
  · simp only [if_neg h]; exact Ev.now _

theorem ev_sfac_l1 (x0 : Int) (out : List (List Int)) (hout : out.length ≤ 1000000) (p : Nat) (hp : 2 ≤ p ∧ p ≤ 10000) (r : List (List Int)) (t m : Nat) (hm : m % p ≠ 0) (h1 : 1 ≤ m ∧ m ≤ 10000)
    (hN : Ev (fun k => spec_FactorsOf.l0 k x0 (if t = 0 then out else out ++ [[(p : Int), (t : Int)]]) (m : Int) ((p + 1 : Nat) : Int)) r) :
    ∀ (j c : Nat), c + j = t → p ^ j * m ≤ 10000 → t ≤ 10000 →
    Ev (fun k => spec_FactorsOf.l1 k x0 out ((p ^ j * m : Nat) : Int) (p : Int) (c : Int)) r := by
  intro j
  induction j with
  | zero =>
    intro c hc hb ht
    refine Ev.step (fun k => by rw [spec_FactorsOf.l1]) ?_
    have c0 : ¬ (p : Int) = 0 := by omega
    have c1 : ¬ ((m % p : Nat) : Int) = 0 := by omega
    simp only [Nat.pow_zero, Nat.one_mul, if_neg c0, ← Int.ofNat_tmod, if_neg c1, w64 (x := (p : Int) + 1) (by omega)]
    have e : c = t := by omega
    subst e
    by_cases z : c = 0
    · have c2 : ¬ (c : Int) > 0 := by omega
      rw [if_pos z] at hN
      simp only [if_neg c2]; exact hN
    · have c2 : (0 : Int) < (c : Int) := by omega
      have c3 : out.length < 5864062014805 := by omega
      rw [if_neg z] at hN
      simp only [gt_iff_lt, if_pos c2, if_pos c3]; exact hN
  | succ j ih =>
    intro c hc hb ht
    refine Ev.step (fun k => by rw [spec_FactorsOf.l1]) ?_
    have e : p ^ (j + 1) * m = p * (p ^ j * m) := by rw [Nat.pow_succ, Nat.mul_comm (p ^ j) p, Nat.mul_assoc]
    have c0 : ¬ (p : Int) = 0 := by omega
    have c1 : ((p ^ (j + 1) * m % p : Nat) : Int) = 0 := by rw [e, Nat.mul_mod_right]; rfl
    have c2 : p ^ (j + 1) * m / p = p ^ j * m := by rw [e, Nat.mul_div_cancel_left _ (by omega)]
    have b2 : 1 * (p ^ j * m) ≤ p * (p ^ j * m) := Nat.mul_le_mul_right _ (by omega)
    simp only [if_neg c0, ← Int.ofNat_tmod, ← Int.ofNat_tdiv, if_pos c1, c2, w64 (x := ((p ^ j * m : Nat) : Int)) (by omega), w64 (x := (c : Int) + 1) (by omega)]
    exact ih (c + 1) (by omega) (by omega) ht
theorem ev_sfac_l0 (x0 : Int) (hx : 1 ≤ x0 ∧ x0 ≤ 10000) : ∀ (d p n : Nat) (out : List (List Int)), p + d = 10002 → 2 ≤ p → 1 ≤ n → n ≤ 10000 → out.length ≤ p →
    Ev (fun k => spec_FactorsOf.l0 k x0 out (n : Int) (p : Int)) (out ++ rowsF (fac p n)) := by
  intro d
  have stop : ∀ (p n : Nat) (out : List (List Int)), n < p → Ev (fun k => spec_FactorsOf.l0 k x0 out (n : Int) (p : Int)) (out ++ rowsF (fac p n)) := by
    intro p n out h
    refine Ev.step (fun k => by rw [spec_FactorsOf.l0]) ?_
    have c : ¬ (p : Int) ≤ (n : Int) := by omega
    simp only [if_neg c]
    refine Ev.step (fun k => by rw [spec_FactorsOf.j1]) ?_
    simp only [Bool.false_eq_true, if_false]
    rw [fac_lt h]
    exact Ev.ret (by simp [rowsF])
  induction d with
  | zero =>
    intro p n out hd hp h1 hn ho
    exact stop p n out (by omega)
  | succ d ih =>
    intro p n out hd hp h1 hn ho
    by_cases c : n < p
    · exact stop p n out c
    refine Ev.step (fun k => by rw [spec_FactorsOf.l0]) ?_
    have c1 : (p : Int) ≤ (n : Int) := by omega
    simp only [if_pos c1, l1In_f, Option.bind_some, decide_eq_true hx]
    refine Ev.step (fun k => by rw [spec_FactorsOf.j1]) ?_
    simp only [if_true]
    obtain ⟨j, m, e, hm, hm1⟩ := exists_strip p hp n h1
    have hj : j < p ^ j := Nat.lt_pow_self (by omega)
    have b1 : p ^ j * 1 ≤ p ^ j * m := Nat.mul_le_mul_left _ hm1
    have b2 : 1 * m ≤ p ^ j * m := Nat.mul_le_mul_right _ (Nat.pow_pos (by omega))
    have ihm := ih (p + 1) m (if j = 0 then out else out ++ [[(p : Int), (j : Int)]]) (by omega) (by omega) hm1 (by omega) (by split <;> (try simp) <;> omega)
    have main := ev_sfac_l1 x0 out (by omega) p ⟨hp, by omega⟩ _ j m hm ⟨hm1, by omega⟩ ihm j 0 (by omega) (by omega) (by omega)
    rw [← e] at main
    refine Ev.to main ?_
    by_cases z : j = 0
    · subst z
      rw [Nat.pow_zero, Nat.one_mul] at e
      subst e
      rw [if_pos rfl, ← fac_no hp h1 hm]
    · rw [if_neg z, e, fac_yes hp (by omega) hm hm1]; simp [rowsF]
theorem ev_sFactorsOf (n : Nat) (h1 : 1 ≤ n) (hn : n ≤ 10000) : Ev (fun k => spec_FactorsOf.f k (n : Int)) (rowsF (fac 2 n)) := by
  unfold spec_FactorsOf.f
  exact ev_sfac_l0 (n : Int) (by omega) 10000 2 n [] (by omega) (by omega) h1 hn (by simp)
theorem ev_sFactorsOf_no {n : Int} (h : ¬ (1 ≤ n ∧ n ≤ 10000)) : Ev (fun k => spec_FactorsOf.f k n) [] := by
  unfold spec_FactorsOf.f
  refine Ev.step (fun k => by rw [spec_FactorsOf.l0]) ?_
  have no : Ev (fun k => spec_FactorsOf.j1 k n [] n 2 false) [] := by
    refine Ev.step (fun k => by rw [spec_FactorsOf.j1]) ?_
    simp only [Bool.false_eq_true, if_false]; exact Ev.now _
  by_cases c : (2 : Int) ≤ n
  · simp only [if_pos c, l1In_f, Option.bind_some, decide_eq_false h]; exact no
  · simp only [if_neg c]; exact no

/-- The divisors of a number in its range; none for others. -/
def divsZ (n : Int) : List Int := if 1 ≤ n ∧ n ≤ 10000 then ints (divs n.toNat) else []
theorem divsZ_length (n : Int) : (divsZ n).length ≤ 10000 := by
  unfold divsZ
  by_cases h : 1 ≤ n ∧ n ≤ 10000
  · rw [if_pos h, ints_length]; have := length_divs_le n.toNat; omega
  · rw [if_neg h]; simp

theorem ev_sDivisorsOf_l (n : Nat) (h1 : 1 ≤ n) (hn : n ≤ 10000) : ∀ (m d : Nat), 1 ≤ d → d + m = n + 1 →
    Ev (fun k => spec_DivisorsOf.l0 k (n : Int) (ints (lowD n d)) (d : Int)) (ints (divs n)) := by
  intro m
  induction m with
  | zero =>
    intro d hd hm
    refine Ev.step (fun k => by rw [spec_DivisorsOf.l0]) ?_
    have c : ¬ (d : Int) ≤ (n : Int) := by omega
    simp only [if_neg c]
    refine Ev.step (fun k => by rw [spec_DivisorsOf.j1]) ?_
    simp only [Bool.false_eq_true, if_false]
    refine Ev.ret ?_
    unfold lowD divs; rw [show d - 1 = n by omega]
  | succ m ih =>
    intro d hd hm
    refine Ev.step (fun k => by rw [spec_DivisorsOf.l0]) ?_
    have c : (d : Int) ≤ (n : Int) := by omega
    have c0 : (n : Int) ≤ 10000 := by omega
    simp only [if_pos c, decide_eq_true c0]
    refine Ev.step (fun k => by rw [spec_DivisorsOf.j1]) ?_
    have c2 : ¬ (d : Int) = 0 := by omega
    have l1 : (ints (lowD n d)).length < 17592186044416 := by rw [ints_length]; have := length_lowD n d; omega
    simp only [if_true, if_neg c2, if_pos l1, ← Int.ofNat_tmod, w64 (x := (d : Int) + 1) (by omega)]
    have ih' := ih (d + 1) (by omega) (by omega)
    rw [lowD_succ n d hd] at ih'
    by_cases hz : n % d = 0
    · have z1 : ((n % d : Nat) : Int) = 0 := by omega
      rw [if_pos hz, ints_append] at ih'
      simp only [if_pos z1]; exact ih'
    · have z1 : ¬ ((n % d : Nat) : Int) = 0 := by omega
      rw [if_neg hz] at ih'
      simp only [if_neg z1]; exact ih'
theorem ev_sDivisorsOf (n : Int) : Ev (fun k => spec_DivisorsOf.f k n) (divsZ n) := by
  unfold spec_DivisorsOf.f divsZ
  by_cases h : 1 ≤ n ∧ n ≤ 10000
  · obtain ⟨m, rfl⟩ := Int.eq_ofNat_of_zero_le (show 0 ≤ n by omega)
    rw [if_pos h]
    simp only [Int.toNat_natCast]
    exact ev_sDivisorsOf_l m (by omega) (by omega) m 1 (by omega) (by omega)
  · rw [if_neg h]
    refine Ev.step (fun k => by rw [spec_DivisorsOf.l0]) ?_
    by_cases c : (1 : Int) ≤ n
    · have c0 : ¬ n ≤ 10000 := by omega
      simp only [if_pos c, decide_eq_false c0]
      refine Ev.step (fun k => by rw [spec_DivisorsOf.j1]) ?_
      simp only [Bool.false_eq_true, if_false]; exact Ev.now _
    · simp only [if_neg c]
      refine Ev.step (fun k => by rw [spec_DivisorsOf.j1]) ?_
      simp only [Bool.false_eq_true, if_false]; exact Ev.now _

theorem ev_l2_sign_l (L : List (Nat × Nat)) (hL : L.length ≤ 1000000) (hj : ∀ p j, (p, j) ∈ L → 1 ≤ j ∧ j ≤ 10000) : ∀ (d i : Nat) (s : Int), i + d = L.length → (s = 1 ∨ s = -1) →
    Ev (fun k => spec_l2Named.l2 k 6 (rowsF L) s (i : Int)) (s * muL (L.drop i)) := by
  intro d
  induction d with
  | zero =>
    intro i s hi hs
    refine Ev.step (fun k => by rw [spec_l2Named.l2]) ?_
    have c : ¬ (i : Int) < (L.length : Int) := by omega
    simp only [rowsF_length, if_neg c]
    refine Ev.ret ?_
    rw [List.drop_eq_nil_of_le (by omega)]; simp [muL]
  | succ d ih =>
    intro i s hi hs
    refine Ev.step (fun k => by rw [spec_l2Named.l2]) ?_
    have c : (i : Int) < (L.length : Int) := by omega
    have c1 : 0 ≤ (i : Int) := by omega
    have c2 : 1 < (([((L.getD i (0, 0)).1 : Int), ((L.getD i (0, 0)).2 : Int)] : List Int).length : Int) := by simp
    have e := dropF L i (by omega)
    have hm := getF_mem L i (by omega)
    generalize hx : L.getD i (0, 0) = x at *
    obtain ⟨p, j⟩ := x
    have hj1 := hj p j hm
    simp only [rowsF_length, if_pos c, if_true, if_pos c1, rdrow L i (by omega), hx, if_pos c2, rd_two1]
    rw [e]
    by_cases o : 1 < j
    · have o1 : (1 : Int) < (j : Int) := by omega
      simp only [gt_iff_lt, decide_eq_true o1]
      refine Ev.step (fun k => by rw [spec_l2Named.j3]) ?_
      simp only [if_true]
      exact Ev.ret (by simp only [muL]; rw [if_pos o]; simp)
    · have o1 : ¬ (1 : Int) < (j : Int) := by omega
      have o2 : Int.tmod (j : Int) 2 = 1 := by rw [Int.tmod_eq_emod_of_nonneg (by omega)]; omega
      simp only [gt_iff_lt, decide_eq_false o1]
      refine Ev.step (fun k => by rw [spec_l2Named.j3]) ?_
      simp only [Bool.false_eq_true, if_false, rowsF_length, if_pos c, if_pos c1, rdrow L i (by omega), hx, if_pos c2, rd_two1, if_pos o2, w64 (x := (i : Int) + 1) (by omega), w64 (x := -s) (by omega)]
      refine Ev.to (ih (i + 1) (-s) (by omega) (by omega)) ?_
      simp only [muL]; rw [if_neg o, Int.neg_mul, Int.mul_neg]
theorem ev_l2Named6 (n : Nat) (h1 : 1 ≤ n) (hn : n ≤ 10000) : Ev (fun k => spec_l2Named.f k 6 (n : Int)) (mu n) := by
  unfold spec_l2Named.f
  refine Ev.bind (ev_sFactorsOf n h1 hn) (Ev.bind (ev_sDivisorsOf (n : Int)) ?_)
  have c0 : ¬ (6 : Int) = 0 := by omega
  have c1 : ¬ (6 : Int) = 1 := by omega
  have c2 : ¬ (6 : Int) = 2 := by omega
  have c3 : ¬ (6 : Int) = 3 := by omega
  have c4 : ¬ (6 : Int) = 4 := by omega
  have c5 : ¬ (6 : Int) = 5 := by omega
  simp only [if_neg c0, if_neg c1, if_neg c2, if_neg c3, if_neg c4, if_neg c5]
  have := fac_length_le n h1
  refine Ev.to (ev_l2_sign_l (fac 2 n) (by omega) (fun p j h => ?_) (fac 2 n).length 0 1 (by omega) (Or.inl rfl)) ?_
  · have a := mem_fac n h1 p j h; have b := fac_times_le n h1 p j h; omega
  · rw [List.drop_zero, Int.one_mul]; rfl

def muZ (n : Int) : Int := if 1 ≤ n ∧ n ≤ 10000 then mu n.toNat else 0
theorem muZ_bd (n : Int) : muZ n = 0 ∨ muZ n = 1 ∨ muZ n = -1 := by
  unfold muZ; split
  · exact mu_bd _
  · exact Or.inl rfl
theorem muZ_nat (n : Nat) (h1 : 1 ≤ n) (hn : n ≤ 10000) : muZ (n : Int) = mu n := by
  unfold muZ; rw [if_pos (by omega), Int.toNat_natCast]

theorem ev_sSignOf (n : Int) : Ev (fun k => spec_SignOf.f k n) (muZ n) := by
  unfold spec_SignOf.f muZ
  simp only [l1In_f, Option.bind_some, decide_eq_true_eq]
  by_cases h : 1 ≤ n ∧ n ≤ 10000
  · obtain ⟨m, rfl⟩ := Int.eq_ofNat_of_zero_le (show 0 ≤ n by omega)
    simp only [if_pos h, Int.toNat_natCast]
    exact Ev.bind (ev_l2Named6 m (by omega) (by omega)) (Ev.now _)
  · simp only [if_neg h]; exact Ev.now _


theorem ev_sSquareFree_l (n : Nat) (hn : n ≤ 10000) : ∀ (f d : Nat) (a : Int), d + f = 102 → 1 ≤ d → (-(10000 * d : Nat) ≤ a ∧ a ≤ (10000 * d : Nat)) →
    Ev (fun k => spec_SquareFree.l0 k (n : Int) a (d : Int)) (a + sqF f n d) := by
  intro f
  induction f with
  | zero =>
    intro d a hd h1 ha
    refine Ev.step (fun k => by rw [spec_SquareFree.l0]) ?_
    have e : d = 102 := by omega
    subst e
    have c : ¬ ((102 : Nat) : Int) * ((102 : Nat) : Int) ≤ (n : Int) := by omega
    simp only [w64 (x := ((102 : Nat) : Int) * ((102 : Nat) : Int)) (by omega), if_neg c]
    exact Ev.ret (by simp [sqF])
  | succ f ih =>
    intro d a hd h1 ha
    refine Ev.step (fun k => by rw [spec_SquareFree.l0]) ?_
    have pp : d * d ≤ 101 * 101 := Nat.mul_le_mul (by omega) (by omega)
    have pq : 1 * 1 ≤ d * d := Nat.mul_le_mul h1 h1
    have ep : (d : Int) * (d : Int) = ((d * d : Nat) : Int) := by simp
    simp only [ep, w64 (x := ((d * d : Nat) : Int)) (by omega)]
    by_cases hc : d * d ≤ n
    · have c : ((d * d : Nat) : Int) ≤ (n : Int) := by omega
      have c0 : ¬ ((d * d : Nat) : Int) = 0 := by omega
      have dn : d ≤ n := by
        have := Nat.mul_le_mul_left d h1; omega
      have q : n / (d * d) ≤ n := Nat.div_le_self _ _
      have b := mul_mu_bd d n (n / (d * d)) q
      have q0 : (0 : Int) ≤ ((n / (d * d) : Nat) : Int) := Int.natCast_nonneg _
      simp only [if_pos c, if_neg c0, ← Int.ofNat_tdiv, w64 (x := ((n / (d * d) : Nat) : Int)) (by omega), w64 (x := (d : Int) + 1) (by omega)]
      refine Ev.bind (ev_sSignOf (d : Int)) ?_
      rw [muZ_nat d h1 (by omega)]
      simp only [w64 (x := mu d * ((n / (d * d) : Nat) : Int)) (by omega), w64 (x := a + mu d * ((n / (d * d) : Nat) : Int)) (by omega)]
      refine Ev.to (ih (d + 1) (a + mu d * ((n / (d * d) : Nat) : Int)) (by omega) (by omega) (by omega)) ?_
      conv => rhs; unfold sqF
      rw [if_pos hc]; omega
    · have c : ¬ ((d * d : Nat) : Int) ≤ (n : Int) := by omega
      simp only [if_neg c]
      refine Ev.ret ?_
      unfold sqF; rw [if_neg hc]; omega
theorem ev_sSquareFree (n : Int) : Ev (fun k => spec_SquareFree.f k n) (sqZ n) := by
  unfold spec_SquareFree.f sqZ
  simp only [l1In_f, Option.bind_some, decide_eq_true_eq]
  by_cases h : 1 ≤ n ∧ n ≤ 10000
  · obtain ⟨m, rfl⟩ := Int.eq_ofNat_of_zero_le (show 0 ≤ n by omega)
    simp only [if_pos h, Int.toNat_natCast]
    refine Ev.to (ev_sSquareFree_l m (by omega) 101 1 0 (by omega) (by omega) (by omega)) ?_
    rw [Int.zero_add]; rfl
  · simp only [if_neg h]; exact Ev.now _

theorem FnExactSquareFree : laws_FnExactSquareFree.Pure := by
  intro n hn
  apply Ev.k
  unfold laws_FnExactSquareFree.f
  refine Ev.bind (ev_sSquareFree n) (Ev.bind (ev_iSquareFree n) ?_)
  simp only [if_true]
  exact Ev.now _

end Go.Proofs.Ytjhnjlakdokncaa.Pure
