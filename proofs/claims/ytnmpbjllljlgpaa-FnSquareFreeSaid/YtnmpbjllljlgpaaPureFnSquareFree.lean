/- Up to 120 it counts all numbers that have a sign that is not 0; with one number more it is as many, or 1 more. -/
import Derived.Test.YtnmpbjllljlgpaaPFnSquareFreex0
import Derived.Test.YtnmpbjllljlgpaaPFnSquareFreex1
import Derived.Test.YtnmpbjllljlgpaaPFnSquareFreex2
import Derived.Test.YtnmpbjllljlgpaaPFnSquareFreex3
import Derived.Test.YtnmpbjllljlgpaaPFnSquareFreex4
import Derived.Test.YtnmpbjllljlgpaaPFnSquareFreex5
import Derived.Test.YtnmpbjllljlgpaaM1
import Derived.Test.YtnmpbjllljlgpaaM2
import Derived.Test.YtnmpbjllljlgpaaM3
import Derived.Test.YtnmpbjllljlgpaaM4
import Derived.Test.YtnmpbjllljlgpaaWSized
namespace Go.Proofs.Ytnmpbjllljlgpaa.Pure
open Go.RowKit Go.Proofs.Ytnmpbjllljlgpaa.PFnSquareFree Go.Proofs.YtnmpbjllljlgpaaW.PrintWords Go.Proofs.YtnmpbjllljlgpaaW.PrintLast Go.Proofs.YtnmpbjllljlgpaaW.PrintMore Go.Proofs.Ytnmpbjllljlgpaa.Math
set_option linter.unusedVariables false
set_option linter.unusedSimpArgs false
theorem w64 {x : Int} (h : -9223372036854775808 ≤ x ∧ x ≤ 9223372036854775807) : wrap64 x = x := by unfold wrap64; omega
theorem Ev.k {α : Type} {g : Nat → Option α} {r : α} (h : Ev g r) : ∃ k, g k = some r := Ev.rounds h
theorem Ev.to {α : Type} {g : Nat → Option α} {r s : α} (h : Ev g r) (e : r = s) : Ev g s := e ▸ h
theorem Ev.ret {α : Type} {r s : α} (e : r = s) : Ev (fun _ => some r) s := e ▸ Ev.now r

theorem numberOk_f (a : Int) : impl_numberOk.f a = some (decide (1 ≤ a ∧ a ≤ 10000)) := by
  unfold impl_numberOk.f
  by_cases h : a ≥ 1
  · rw [if_pos h]; simp [show 1 ≤ a from h]
  · rw [if_neg h]; simp [show ¬ 1 ≤ a from h]

theorem l1In_f (a b c : Int) : spec_l1In.f a b c = some (decide (b ≤ a ∧ a ≤ c)) := by
  unfold spec_l1In.f
  by_cases h : a ≥ b
  · rw [if_pos h]; simp [show b ≤ a from h]
  · rw [if_neg h]; simp [show ¬ b ≤ a from h]

def sqZ (n : Int) : Int := if 1 ≤ n ∧ n ≤ 10000 then sqS n.toNat else -1
theorem mul_mu_bd (d n : Nat) (q : Nat) (hq : q ≤ n) : -(n : Int) ≤ mu d * (q : Int) ∧ mu d * (q : Int) ≤ (n : Int) := by
  rcases mu_bd d with h | h | h <;> rw [h] <;> omega

/-- Natural numbers as the program's numbers. -/
def ints (l : List Nat) : List Int := l.map (fun x : Nat => (x : Int))
theorem ints_length (l : List Nat) : (ints l).length = l.length := by simp [ints]
theorem ints_append (l m : List Nat) : ints (l ++ m) = ints l ++ ints m := by simp [ints]
theorem ints_reverse (l : List Nat) : (ints l).reverse = ints l.reverse := by simp [ints]

/-- Factors as the program tells them: rows of two numbers. -/
def rowsF (L : List (Nat × Nat)) : List (List Int) := L.map (fun x : Nat × Nat => [(x.1 : Int), (x.2 : Int)])
theorem rowsF_length (L : List (Nat × Nat)) : (rowsF L).length = L.length := by simp [rowsF]

theorem ev_fac_l1 (out : List (List Int)) (hout : out.length ≤ 1000000) (p : Nat) (hp : 2 ≤ p ∧ p ≤ 10000) (r : List (List Int)) (t m : Nat) (hm : m % p ≠ 0) (h1 : 1 ≤ m ∧ m ≤ 10000)
    (hN : Ev (fun k => impl_factors.l0 k (m : Int) (if t = 0 then out else out ++ [[(p : Int), (t : Int)]]) ((p + 1 : Nat) : Int)) r) :
    ∀ (j c : Nat), c + j = t → p ^ j * m ≤ 10000 → t ≤ 10000 →
    Ev (fun k => impl_factors.l1 k ((p ^ j * m : Nat) : Int) out (p : Int) (c : Int)) r := by
  intro j
  induction j with
  | zero =>
    intro c hc hb ht
    refine Ev.step (fun k => by rw [impl_factors.l1]) ?_
    have c0 : ¬ (p : Int) = 0 := by omega
    have c1 : ¬ ((m % p : Nat) : Int) = 0 := by omega
    simp only [Nat.pow_zero, Nat.one_mul, if_neg c0, ← Int.ofNat_tmod, if_neg c1, w64 (x := (p : Int) + 1) (by omega)]
    have e : c = t := by omega
    subst e
    by_cases z : c = 0
    · have c2 : ¬ (c : Int) > 0 := by omega
      rw [if_pos z] at hN
      simp only [if_neg c2]; exact hN
    · have c2 : (0 : Int) < (c : Int) := by omega
      have c3 : out.length < 5864062014805 := by omega
      rw [if_neg z] at hN
      simp only [gt_iff_lt, if_pos c2, if_pos c3]; exact hN
  | succ j ih =>
    intro c hc hb ht
    refine Ev.step (fun k => by rw [impl_factors.l1]) ?_
    have e : p ^ (j + 1) * m = p * (p ^ j * m) := by rw [Nat.pow_succ, Nat.mul_comm (p ^ j) p, Nat.mul_assoc]
    have c0 : ¬ (p : Int) = 0 := by omega
    have c1 : ((p ^ (j + 1) * m % p : Nat) : Int) = 0 := by rw [e, Nat.mul_mod_right]; rfl
    have c2 : p ^ (j + 1) * m / p = p ^ j * m := by rw [e, Nat.mul_div_cancel_left _ (by omega)]
    have b2 : 1 * (p ^ j * m) ≤ p * (p ^ j * m) := Nat.mul_le_mul_right _ (by omega)
    simp only [if_neg c0, ← Int.ofNat_tmod, ← Int.ofNat_tdiv, if_pos c1, c2, w64 (x := ((p ^ j * m : Nat) : Int)) (by omega), w64 (x := (c : Int) + 1) (by omega)]
    exact ih (c + 1) (by omega) (by omega) ht
theorem ev_fac_one (out : List (List Int)) (p : Int) : Ev (fun k => impl_factors.l0 k 1 out p) out := by
  refine Ev.step (fun k => by rw [impl_factors.l0]) ?_
  have c : ¬ (1 : Int) > 1 := by omega
  simp only [if_neg c]
  exact Ev.now _
theorem ev_fac_l0 : ∀ (d p n : Nat) (out : List (List Int)), p + d = 102 → 2 ≤ p → 1 ≤ n → n ≤ 10000 → out.length ≤ p → NoLow p n →
    Ev (fun k => impl_factors.l0 k (n : Int) out (p : Int)) (out ++ rowsF (fac p n)) := by
  intro d
  induction d with
  | zero =>
    intro p n out hd hp h1 hn ho hl
    by_cases c : n = 1
    · subst c; rw [fac_lt (by omega)]; simpa [rowsF] using ev_fac_one out (p : Int)
    refine Ev.step (fun k => by rw [impl_factors.l0]) ?_
    have c1 : (1 : Int) < (n : Int) := by omega
    have e : p = 102 := by omega
    subst e
    have c2 : (n : Int) < ((102 : Nat) : Int) * ((102 : Nat) : Int) := by omega
    have hpr : Pr n := pr_of_root (d := 102) (by omega) (by omega) hl
    have hf : fac 102 n = [(n, 1)] := by
      rw [← fac_skip h1 hl (by omega), fac_skip h1 (p := n) ?_ (by omega)]
      · have := fac_yes (p := n) (j := 1) (m := 1) (by omega) (by omega) (by rw [Nat.mod_eq_of_lt (by omega)]; omega) (by omega)
        rw [Nat.pow_one, Nat.mul_one] at this
        rw [this, fac_lt (by omega)]
      · intro x h2 hx e
        rcases hpr.2 x (Nat.dvd_of_mod_eq_zero e) with h | h <;> omega
    simp only [gt_iff_lt, if_pos c1, w64 (x := ((102 : Nat) : Int) * ((102 : Nat) : Int)) (by omega), if_pos c2]
    refine Ev.step (fun k => by rw [impl_factors.j1]) ?_
    rw [hf]
    have := ev_fac_l1 out (by omega) n ⟨by omega, hn⟩ (out ++ rowsF [(n, 1)]) 1 1 (by rw [Nat.mod_eq_of_lt (by omega)]; omega) (by omega) (by simpa [rowsF] using ev_fac_one (out ++ [[(n : Int), 1]]) ((n : Int) + 1)) 1 0 (by omega) (by rw [Nat.pow_one]; omega) (by omega)
    rw [Nat.pow_one, Nat.mul_one] at this
    exact this
  | succ d ih =>
    intro p n out hd hp h1 hn ho hl
    by_cases c : n = 1
    · subst c; rw [fac_lt (by omega)]; simpa [rowsF] using ev_fac_one out (p : Int)
    refine Ev.step (fun k => by rw [impl_factors.l0]) ?_
    have c1 : (1 : Int) < (n : Int) := by omega
    have pp : p * p ≤ 101 * 101 := Nat.mul_le_mul (by omega) (by omega)
    have ep : (p : Int) * (p : Int) = ((p * p : Nat) : Int) := by simp
    simp only [gt_iff_lt, if_pos c1, ep, w64 (x := ((p * p : Nat) : Int)) (by omega)]
    by_cases hpp : n < p * p
    · have c2 : (n : Int) < ((p * p : Nat) : Int) := by omega
      have hpr : Pr n := pr_of_root (d := p) (by omega) hpp hl
      have hln : NoLow n n := fun x h2 hx e => by
        rcases hpr.2 x (Nat.dvd_of_mod_eq_zero e) with h | h <;> omega
      have hf : fac p n = [(n, 1)] := by
        rw [← fac_skip h1 hl hp, fac_skip h1 (p := n) hln (by omega)]
        have := fac_yes (p := n) (j := 1) (m := 1) (by omega) (by omega) (by rw [Nat.mod_eq_of_lt (by omega)]; omega) (by omega)
        rw [Nat.pow_one, Nat.mul_one] at this
        rw [this, fac_lt (by omega)]
      simp only [if_pos c2]
      refine Ev.step (fun k => by rw [impl_factors.j1]) ?_
      rw [hf]
      have := ev_fac_l1 out (by omega) n ⟨by omega, hn⟩ (out ++ rowsF [(n, 1)]) 1 1 (by rw [Nat.mod_eq_of_lt (by omega)]; omega) (by omega) (by simpa [rowsF] using ev_fac_one (out ++ [[(n : Int), 1]]) ((n : Int) + 1)) 1 0 (by omega) (by rw [Nat.pow_one]; omega) (by omega)
      rw [Nat.pow_one, Nat.mul_one] at this
      exact this
    · have c2 : ¬ (n : Int) < ((p * p : Nat) : Int) := by omega
      simp only [if_neg c2]
      refine Ev.step (fun k => by rw [impl_factors.j1]) ?_
      obtain ⟨j, m, e, hm, hm1⟩ := exists_strip p hp n h1
      have hj : j < p ^ j := Nat.lt_pow_self (by omega)
      have b1 : p ^ j * 1 ≤ p ^ j * m := Nat.mul_le_mul_left _ hm1
      have b2 : 1 * m ≤ p ^ j * m := Nat.mul_le_mul_right _ (Nat.pow_pos (by omega))
      have hlm : NoLow (p + 1) m := (hl.of_dvd (by rw [e]; exact dvd_pow_mul p j m)).succ hm
      have ihm := ih (p + 1) m (if j = 0 then out else out ++ [[(p : Int), (j : Int)]]) (by omega) (by omega) hm1 (by omega) (by split <;> (try simp) <;> omega) hlm
      have main := ev_fac_l1 out (by omega) p ⟨hp, by omega⟩ _ j m hm ⟨hm1, by omega⟩ ihm j 0 (by omega) (by omega) (by omega)
      rw [← e] at main
      refine Ev.to main ?_
      by_cases z : j = 0
      · subst z
        rw [Nat.pow_zero, Nat.one_mul] at e
        subst e
        rw [if_pos rfl, ← fac_no hp h1 hm]
      · rw [if_neg z, e, fac_yes hp (by omega) hm hm1]; simp [rowsF]
theorem ev_factors (n : Nat) (h1 : 1 ≤ n) (hn : n ≤ 10000) : Ev (fun k => impl_factors.f k (n : Int)) (rowsF (fac 2 n)) := by
  unfold impl_factors.f
  exact ev_fac_l0 100 2 n [] (by omega) (by omega) h1 hn (by simp) (NoLow.two n)

theorem rdrow (L : List (Nat × Nat)) (i : Nat) (h : i < L.length) : rd_L2 (rowsF L) (i : Int) = [((L.getD i (0, 0)).1 : Int), ((L.getD i (0, 0)).2 : Int)] := by
  show (rowsF L).getD i [] = _
  unfold rowsF
  simp only [List.getD_eq_getElem?_getD, List.getElem?_map, List.getElem?_eq_getElem h, Option.map_some, Option.getD_some]
theorem dropF (L : List (Nat × Nat)) (i : Nat) (h : i < L.length) : L.drop i = L.getD i (0, 0) :: L.drop (i + 1) := by
  rw [List.drop_eq_getElem_cons h]; simp [List.getD_eq_getElem?_getD, List.getElem?_eq_getElem h]
theorem rd_two0 (a b : Int) : rd [a, b] 0 = a := rfl
theorem rd_two1 (a b : Int) : rd [a, b] 1 = b := rfl
theorem getF_mem (L : List (Nat × Nat)) (i : Nat) (h : i < L.length) : L.getD i (0, 0) ∈ L := by
  rw [List.getD_eq_getElem?_getD, List.getElem?_eq_getElem h]; exact List.getElem_mem _

theorem ev_sign_l (L : List (Nat × Nat)) (hL : L.length ≤ 1000000) : ∀ (d i : Nat) (s : Int), i + d = L.length → (s = 1 ∨ s = -1) →
    Ev (fun k => impl_sign.l0 k s (rowsF L) (L.length : Int) (i : Int)) (s * muL (L.drop i)) := by
  intro d
  induction d with
  | zero =>
    intro i s hi hs
    refine Ev.step (fun k => by rw [impl_sign.l0]) ?_
    have c : ¬ (i : Int) < (L.length : Int) := by omega
    simp only [if_neg c]
    refine Ev.ret ?_
    rw [List.drop_eq_nil_of_le (by omega)]; simp [muL]
  | succ d ih =>
    intro i s hi hs
    refine Ev.step (fun k => by rw [impl_sign.l0]) ?_
    have c : (i : Int) < (L.length : Int) := by omega
    have c1 : 0 ≤ (i : Int) := by omega
    have c2 : 1 < (([((L.getD i (0, 0)).1 : Int), ((L.getD i (0, 0)).2 : Int)] : List Int).length : Int) := by simp
    have e := dropF L i (by omega)
    generalize hx : L.getD i (0, 0) = x at *
    obtain ⟨p, j⟩ := x
    simp only [rowsF_length, if_pos c, if_pos c1, rdrow L i (by omega), hx, if_pos c2, rd_two1, w64 (x := (i : Int) + 1) (by omega), w64 (x := -s) (by omega)]
    rw [e]
    by_cases o : 1 < j
    · have o1 : (1 : Int) < (j : Int) := by omega
      simp only [gt_iff_lt, if_pos o1]
      exact Ev.ret (by simp only [muL]; rw [if_pos o]; simp)
    · have o1 : ¬ (1 : Int) < (j : Int) := by omega
      simp only [gt_iff_lt, if_neg o1]
      refine Ev.to (ih (i + 1) (-s) (by omega) (by omega)) ?_
      simp only [muL]; rw [if_neg o, Int.neg_mul, Int.mul_neg]
theorem ev_sign (n : Nat) (h1 : 1 ≤ n) (hn : n ≤ 10000) : Ev (fun k => impl_sign.f k (n : Int)) (mu n) := by
  unfold impl_sign.f
  refine Ev.bind (ev_factors n h1 hn) ?_
  rw [rowsF_length]
  have := fac_length_le n h1
  refine Ev.to (ev_sign_l (fac 2 n) (by omega) (fac 2 n).length 0 1 (by omega) (Or.inl rfl)) ?_
  rw [List.drop_zero, Int.one_mul]; rfl


theorem ev_iSquareFree_l (n : Nat) (hn : n ≤ 10000) : ∀ (f d : Nat) (a : Int), d + f = 102 → 1 ≤ d → (-(10000 * d : Nat) ≤ a ∧ a ≤ (10000 * d : Nat)) →
    Ev (fun k => impl_SquareFree.l0 k (n : Int) a (d : Int)) (a + sqF f n d) := by
  intro f
  induction f with
  | zero =>
    intro d a hd h1 ha
    refine Ev.step (fun k => by rw [impl_SquareFree.l0]) ?_
    have e : d = 102 := by omega
    subst e
    have c : ¬ ((102 : Nat) : Int) * ((102 : Nat) : Int) ≤ (n : Int) := by omega
    simp only [w64 (x := ((102 : Nat) : Int) * ((102 : Nat) : Int)) (by omega), if_neg c]
    exact Ev.ret (by simp [sqF])
  | succ f ih =>
    intro d a hd h1 ha
    refine Ev.step (fun k => by rw [impl_SquareFree.l0]) ?_
    have pp : d * d ≤ 101 * 101 := Nat.mul_le_mul (by omega) (by omega)
    have pq : 1 * 1 ≤ d * d := Nat.mul_le_mul h1 h1
    have ep : (d : Int) * (d : Int) = ((d * d : Nat) : Int) := by simp
    simp only [ep, w64 (x := ((d * d : Nat) : Int)) (by omega)]
    by_cases hc : d * d ≤ n
    · have c : ((d * d : Nat) : Int) ≤ (n : Int) := by omega
      have c0 : ¬ ((d * d : Nat) : Int) = 0 := by omega
      have dn : d ≤ n := by
        have := Nat.mul_le_mul_left d h1; omega
      have q : n / (d * d) ≤ n := Nat.div_le_self _ _
      have b := mul_mu_bd d n (n / (d * d)) q
      have q0 : (0 : Int) ≤ ((n / (d * d) : Nat) : Int) := Int.natCast_nonneg _
      simp only [if_pos c, if_neg c0, ← Int.ofNat_tdiv, w64 (x := ((n / (d * d) : Nat) : Int)) (by omega), w64 (x := (d : Int) + 1) (by omega)]
      refine Ev.bind (ev_sign d h1 (by omega)) ?_
      simp only [w64 (x := mu d * ((n / (d * d) : Nat) : Int)) (by omega), w64 (x := a + mu d * ((n / (d * d) : Nat) : Int)) (by omega)]
      refine Ev.to (ih (d + 1) (a + mu d * ((n / (d * d) : Nat) : Int)) (by omega) (by omega) (by omega)) ?_
      conv => rhs; unfold sqF
      rw [if_pos hc]; omega
    · have c : ¬ ((d * d : Nat) : Int) ≤ (n : Int) := by omega
      simp only [if_neg c]
      refine Ev.ret ?_
      unfold sqF; rw [if_neg hc]; omega
theorem ev_iSquareFree (n : Int) : Ev (fun k => impl_SquareFree.f k n) (sqZ n) := by
  unfold impl_SquareFree.f sqZ
  simp only [numberOk_f, Option.bind_some, decide_eq_true_eq]
  by_cases h : 1 ≤ n ∧ n ≤ 10000
  · obtain ⟨m, rfl⟩ := Int.eq_ofNat_of_zero_le (show 0 ≤ n by omega)
    simp only [if_pos h, Int.toNat_natCast]
    refine Ev.to (ev_iSquareFree_l m (by omega) 101 1 0 (by omega) (by omega) (by omega)) ?_
    rw [Int.zero_add]; rfl
  · simp only [if_neg h]; exact Ev.now _

theorem ev_sfac_l1 (x0 : Int) (out : List (List Int)) (hout : out.length ≤ 1000000) (p : Nat) (hp : 2 ≤ p ∧ p ≤ 10000) (r : List (List Int)) (t m : Nat) (hm : m % p ≠ 0) (h1 : 1 ≤ m ∧ m ≤ 10000)
    (hN : Ev (fun k => spec_FactorsOf.l0 k x0 (if t = 0 then out else out ++ [[(p : Int), (t : Int)]]) (m : Int) ((p + 1 : Nat) : Int)) r) :
    ∀ (j c : Nat), c + j = t → p ^ j * m ≤ 10000 → t ≤ 10000 →
    Ev (fun k => spec_FactorsOf.l1 k x0 out ((p ^ j * m : Nat) : Int) (p : Int) (c : Int)) r := by
  intro j
  induction j with
  | zero =>
    intro c hc hb ht
    refine Ev.step (fun k => by rw [spec_FactorsOf.l1]) ?_
    have c0 : ¬ (p : Int) = 0 := by omega
    have c1 : ¬ ((m % p : Nat) : Int) = 0 := by omega
    simp only [Nat.pow_zero, Nat.one_mul, if_neg c0, ← Int.ofNat_tmod, if_neg c1, w64 (x := (p : Int) + 1) (by omega)]
    have e : c = t := by omega
    subst e
    by_cases z : c = 0
    · have c2 : ¬ (c : Int) > 0 := by omega
      rw [if_pos z] at hN
      simp only [if_neg c2]; exact hN
    · have c2 : (0 : Int) < (c : Int) := by omega
      have c3 : out.length < 5864062014805 := by omega
      rw [if_neg z] at hN
      simp only [gt_iff_lt, if_pos c2, if_pos c3]; exact hN
  | succ j ih =>
    intro c hc hb ht
    refine Ev.step (fun k => by rw [spec_FactorsOf.l1]) ?_
    have e : p ^ (j + 1) * m = p * (p ^ j * m) := by rw [Nat.pow_succ, Nat.mul_comm (p ^ j) p, Nat.mul_assoc]
    have c0 : ¬ (p : Int) = 0 := by omega
    have c1 : ((p ^ (j + 1) * m % p : Nat) : Int) = 0 := by rw [e, Nat.mul_mod_right]; rfl
    have c2 : p ^ (j + 1) * m / p = p ^ j * m := by rw [e, Nat.mul_div_cancel_left _ (by omega)]
    have b2 : 1 * (p ^ j * m) ≤ p * (p ^ j * m) := Nat.mul_le_mul_right _ (by omega)
    simp only [if_neg c0, ← Int.ofNat_tmod, ← Int.ofNat_tdiv, if_pos c1, c2, w64 (x := ((p ^ j * m : Nat) : Int)) (by omega), w64 (x := (c : Int) + 1) (by omega)]
    exact ih (c + 1) (by omega) (by omega) ht
theorem ev_sfac_l0 (x0 : Int) (hx : 1 ≤ x0 ∧ x0 ≤ 10000) : ∀ (d p n : Nat) (out : List (List Int)), p + d = 10002 → 2 ≤ p → 1 ≤ n → n ≤ 10000 → out.length ≤ p →
    Ev (fun k => spec_FactorsOf.l0 k x0 out (n : Int) (p : Int)) (out ++ rowsF (fac p n)) := by
  intro d
  have stop : ∀ (p n : Nat) (out : List (List Int)), n < p → Ev (fun k => spec_FactorsOf.l0 k x0 out (n : Int) (p : Int)) (out ++ rowsF (fac p n)) := by
    intro p n out h
    refine Ev.step (fun k => by rw [spec_FactorsOf.l0]) ?_
    have c : ¬ (p : Int) ≤ (n : Int) := by omega
    simp only [if_neg c]
    refine Ev.step (fun k => by rw [spec_FactorsOf.j1]) ?_
    simp only [Bool.false_eq_true, if_false]
    rw [fac_lt h]
    exact Ev.ret (by simp [rowsF])
  induction d with
  | zero =>
    intro p n out hd hp h1 hn ho
    exact stop p n out (by omega)
  | succ d ih =>
    intro p n out hd hp h1 hn ho
    by_cases c : n < p
    · exact stop p n out c
    refine Ev.step (fun k => by rw [spec_FactorsOf.l0]) ?_
    have c1 : (p : Int) ≤ (n : Int) := by omega
    simp only [if_pos c1, l1In_f, Option.bind_some, decide_eq_true hx]
    refine Ev.step (fun k => by rw [spec_FactorsOf.j1]) ?_
    simp only [if_true]
    obtain ⟨j, m, e, hm, hm1⟩ := exists_strip p hp n h1
    have hj : j < p ^ j := Nat.lt_pow_self (by omega)
    have b1 : p ^ j * 1 ≤ p ^ j * m := Nat.mul_le_mul_left _ hm1
    have b2 : 1 * m ≤ p ^ j * m := Nat.mul_le_mul_right _ (Nat.pow_pos (by omega))
    have ihm := ih (p + 1) m (if j = 0 then out else out ++ [[(p : Int), (j : Int)]]) (by omega) (by omega) hm1 (by omega) (by split <;> (try simp) <;> omega)
    have main := ev_sfac_l1 x0 out (by omega) p ⟨hp, by omega⟩ _ j m hm ⟨hm1, by omega⟩ ihm j 0 (by omega) (by omega) (by omega)
    rw [← e] at main
    refine Ev.to main ?_
    by_cases z : j = 0
    · subst z
      rw [Nat.pow_zero, Nat.one_mul] at e
      subst e
      rw [if_pos rfl, ← fac_no hp h1 hm]
    · rw [if_neg z, e, fac_yes hp (by omega) hm hm1]; simp [rowsF]
theorem ev_sFactorsOf (n : Nat) (h1 : 1 ≤ n) (hn : n ≤ 10000) : Ev (fun k => spec_FactorsOf.f k (n : Int)) (rowsF (fac 2 n)) := by
  unfold spec_FactorsOf.f
  exact ev_sfac_l0 (n : Int) (by omega) 10000 2 n [] (by omega) (by omega) h1 hn (by simp)
theorem ev_sFactorsOf_no {n : Int} (h : ¬ (1 ≤ n ∧ n ≤ 10000)) : Ev (fun k => spec_FactorsOf.f k n) [] := by
  unfold spec_FactorsOf.f
  refine Ev.step (fun k => by rw [spec_FactorsOf.l0]) ?_
  have no : Ev (fun k => spec_FactorsOf.j1 k n [] n 2 false) [] := by
    refine Ev.step (fun k => by rw [spec_FactorsOf.j1]) ?_
    simp only [Bool.false_eq_true, if_false]; exact Ev.now _
  by_cases c : (2 : Int) ≤ n
  · simp only [if_pos c, l1In_f, Option.bind_some, decide_eq_false h]; exact no
  · simp only [if_neg c]; exact no

/-- The divisors of a number in its range; none for others. -/
def divsZ (n : Int) : List Int := if 1 ≤ n ∧ n ≤ 10000 then ints (divs n.toNat) else []
theorem divsZ_length (n : Int) : (divsZ n).length ≤ 10000 := by
  unfold divsZ
  by_cases h : 1 ≤ n ∧ n ≤ 10000
  · rw [if_pos h, ints_length]; have := length_divs_le n.toNat; omega
  · rw [if_neg h]; simp

theorem ev_sDivisorsOf_l (n : Nat) (h1 : 1 ≤ n) (hn : n ≤ 10000) : ∀ (m d : Nat), 1 ≤ d → d + m = n + 1 →
    Ev (fun k => spec_DivisorsOf.l0 k (n : Int) (ints (lowD n d)) (d : Int)) (ints (divs n)) := by
  intro m
  induction m with
  | zero =>
    intro d hd hm
    refine Ev.step (fun k => by rw [spec_DivisorsOf.l0]) ?_
    have c : ¬ (d : Int) ≤ (n : Int) := by omega
    simp only [if_neg c]
    refine Ev.step (fun k => by rw [spec_DivisorsOf.j1]) ?_
    simp only [Bool.false_eq_true, if_false]
    refine Ev.ret ?_
    unfold lowD divs; rw [show d - 1 = n by omega]
  | succ m ih =>
    intro d hd hm
    refine Ev.step (fun k => by rw [spec_DivisorsOf.l0]) ?_
    have c : (d : Int) ≤ (n : Int) := by omega
    have c0 : (n : Int) ≤ 10000 := by omega
    simp only [if_pos c, decide_eq_true c0]
    refine Ev.step (fun k => by rw [spec_DivisorsOf.j1]) ?_
    have c2 : ¬ (d : Int) = 0 := by omega
    have l1 : (ints (lowD n d)).length < 17592186044416 := by rw [ints_length]; have := length_lowD n d; omega
    simp only [if_true, if_neg c2, if_pos l1, ← Int.ofNat_tmod, w64 (x := (d : Int) + 1) (by omega)]
    have ih' := ih (d + 1) (by omega) (by omega)
    rw [lowD_succ n d hd] at ih'
    by_cases hz : n % d = 0
    · have z1 : ((n % d : Nat) : Int) = 0 := by omega
      rw [if_pos hz, ints_append] at ih'
      simp only [if_pos z1]; exact ih'
    · have z1 : ¬ ((n % d : Nat) : Int) = 0 := by omega
      rw [if_neg hz] at ih'
      simp only [if_neg z1]; exact ih'
theorem ev_sDivisorsOf (n : Int) : Ev (fun k => spec_DivisorsOf.f k n) (divsZ n) := by
  unfold spec_DivisorsOf.f divsZ
  by_cases h : 1 ≤ n ∧ n ≤ 10000
  · obtain ⟨m, rfl⟩ := Int.eq_ofNat_of_zero_le (show 0 ≤ n by omega)
    rw [if_pos h]
    simp only [Int.toNat_natCast]
    exact ev_sDivisorsOf_l m (by omega) (by omega) m 1 (by omega) (by omega)
  · rw [if_neg h]
    refine Ev.step (fun k => by rw [spec_DivisorsOf.l0]) ?_
    by_cases c : (1 : Int) ≤ n
    · have c0 : ¬ n ≤ 10000 := by omega
      simp only [if_pos c, decide_eq_false c0]
      refine Ev.step (fun k => by rw [spec_DivisorsOf.j1]) ?_
      simp only [Bool.false_eq_true, if_false]; exact Ev.now _
    · simp only [if_neg c]
      refine Ev.step (fun k => by rw [spec_DivisorsOf.j1]) ?_
      simp only [Bool.false_eq_true, if_false]; exact Ev.now _

theorem ev_l2_sign_l (L : List (Nat × Nat)) (hL : L.length ≤ 1000000) (hj : ∀ p j, (p, j) ∈ L → 1 ≤ j ∧ j ≤ 10000) : ∀ (d i : Nat) (s : Int), i + d = L.length → (s = 1 ∨ s = -1) →
    Ev (fun k => spec_l2Named.l2 k 6 (rowsF L) s (i : Int)) (s * muL (L.drop i)) := by
  intro d
  induction d with
  | zero =>
    intro i s hi hs
    refine Ev.step (fun k => by rw [spec_l2Named.l2]) ?_
    have c : ¬ (i : Int) < (L.length : Int) := by omega
    simp only [rowsF_length, if_neg c]
    refine Ev.ret ?_
    rw [List.drop_eq_nil_of_le (by omega)]; simp [muL]
  | succ d ih =>
    intro i s hi hs
    refine Ev.step (fun k => by rw [spec_l2Named.l2]) ?_
    have c : (i : Int) < (L.length : Int) := by omega
    have c1 : 0 ≤ (i : Int) := by omega
    have c2 : 1 < (([((L.getD i (0, 0)).1 : Int), ((L.getD i (0, 0)).2 : Int)] : List Int).length : Int) := by simp
    have e := dropF L i (by omega)
    have hm := getF_mem L i (by omega)
    generalize hx : L.getD i (0, 0) = x at *
    obtain ⟨p, j⟩ := x
    have hj1 := hj p j hm
    simp only [rowsF_length, if_pos c, if_true, if_pos c1, rdrow L i (by omega), hx, if_pos c2, rd_two1]
    rw [e]
    by_cases o : 1 < j
    · have o1 : (1 : Int) < (j : Int) := by omega
      simp only [gt_iff_lt, decide_eq_true o1]
      refine Ev.step (fun k => by rw [spec_l2Named.j3]) ?_
      simp only [if_true]
      exact Ev.ret (by simp only [muL]; rw [if_pos o]; simp)
    · have o1 : ¬ (1 : Int) < (j : Int) := by omega
      have o2 : Int.tmod (j : Int) 2 = 1 := by rw [Int.tmod_eq_emod_of_nonneg (by omega)]; omega
      simp only [gt_iff_lt, decide_eq_false o1]
      refine Ev.step (fun k => by rw [spec_l2Named.j3]) ?_
      simp only [Bool.false_eq_true, if_false, rowsF_length, if_pos c, if_pos c1, rdrow L i (by omega), hx, if_pos c2, rd_two1, if_pos o2, w64 (x := (i : Int) + 1) (by omega), w64 (x := -s) (by omega)]
      refine Ev.to (ih (i + 1) (-s) (by omega) (by omega)) ?_
      simp only [muL]; rw [if_neg o, Int.neg_mul, Int.mul_neg]
theorem ev_l2Named6 (n : Nat) (h1 : 1 ≤ n) (hn : n ≤ 10000) : Ev (fun k => spec_l2Named.f k 6 (n : Int)) (mu n) := by
  unfold spec_l2Named.f
  refine Ev.bind (ev_sFactorsOf n h1 hn) (Ev.bind (ev_sDivisorsOf (n : Int)) ?_)
  have c0 : ¬ (6 : Int) = 0 := by omega
  have c1 : ¬ (6 : Int) = 1 := by omega
  have c2 : ¬ (6 : Int) = 2 := by omega
  have c3 : ¬ (6 : Int) = 3 := by omega
  have c4 : ¬ (6 : Int) = 4 := by omega
  have c5 : ¬ (6 : Int) = 5 := by omega
  simp only [if_neg c0, if_neg c1, if_neg c2, if_neg c3, if_neg c4, if_neg c5]
  have := fac_length_le n h1
  refine Ev.to (ev_l2_sign_l (fac 2 n) (by omega) (fun p j h => ?_) (fac 2 n).length 0 1 (by omega) (Or.inl rfl)) ?_
  · have a := mem_fac n h1 p j h; have b := fac_times_le n h1 p j h; omega
  · rw [List.drop_zero, Int.one_mul]; rfl

def muZ (n : Int) : Int := if 1 ≤ n ∧ n ≤ 10000 then mu n.toNat else 0
theorem muZ_bd (n : Int) : muZ n = 0 ∨ muZ n = 1 ∨ muZ n = -1 := by
  unfold muZ; split
  · exact mu_bd _
  · exact Or.inl rfl
theorem muZ_nat (n : Nat) (h1 : 1 ≤ n) (hn : n ≤ 10000) : muZ (n : Int) = mu n := by
  unfold muZ; rw [if_pos (by omega), Int.toNat_natCast]

theorem ev_sSignOf (n : Int) : Ev (fun k => spec_SignOf.f k n) (muZ n) := by
  unfold spec_SignOf.f muZ
  simp only [l1In_f, Option.bind_some, decide_eq_true_eq]
  by_cases h : 1 ≤ n ∧ n ≤ 10000
  · obtain ⟨m, rfl⟩ := Int.eq_ofNat_of_zero_le (show 0 ≤ n by omega)
    simp only [if_pos h, Int.toNat_natCast]
    exact Ev.bind (ev_l2Named6 m (by omega) (by omega)) (Ev.now _)
  · simp only [if_neg h]; exact Ev.now _


theorem ev_sSquareFree_l (n : Nat) (hn : n ≤ 10000) : ∀ (f d : Nat) (a : Int), d + f = 102 → 1 ≤ d → (-(10000 * d : Nat) ≤ a ∧ a ≤ (10000 * d : Nat)) →
    Ev (fun k => spec_SquareFree.l0 k (n : Int) a (d : Int)) (a + sqF f n d) := by
  intro f
  induction f with
  | zero =>
    intro d a hd h1 ha
    refine Ev.step (fun k => by rw [spec_SquareFree.l0]) ?_
    have e : d = 102 := by omega
    subst e
    have c : ¬ ((102 : Nat) : Int) * ((102 : Nat) : Int) ≤ (n : Int) := by omega
    simp only [w64 (x := ((102 : Nat) : Int) * ((102 : Nat) : Int)) (by omega), if_neg c]
    exact Ev.ret (by simp [sqF])
  | succ f ih =>
    intro d a hd h1 ha
    refine Ev.step (fun k => by rw [spec_SquareFree.l0]) ?_
    have pp : d * d ≤ 101 * 101 := Nat.mul_le_mul (by omega) (by omega)
    have pq : 1 * 1 ≤ d * d := Nat.mul_le_mul h1 h1
    have ep : (d : Int) * (d : Int) = ((d * d : Nat) : Int) := by simp
    simp only [ep, w64 (x := ((d * d : Nat) : Int)) (by omega)]
    by_cases hc : d * d ≤ n
    · have c : ((d * d : Nat) : Int) ≤ (n : Int) := by omega
      have c0 : ¬ ((d * d : Nat) : Int) = 0 := by omega
      have dn : d ≤ n := by
        have := Nat.mul_le_mul_left d h1; omega
      have q : n / (d * d) ≤ n := Nat.div_le_self _ _
      have b := mul_mu_bd d n (n / (d * d)) q
      have q0 : (0 : Int) ≤ ((n / (d * d) : Nat) : Int) := Int.natCast_nonneg _
      simp only [if_pos c, if_neg c0, ← Int.ofNat_tdiv, w64 (x := ((n / (d * d) : Nat) : Int)) (by omega), w64 (x := (d : Int) + 1) (by omega)]
      refine Ev.bind (ev_sSignOf (d : Int)) ?_
      rw [muZ_nat d h1 (by omega)]
      simp only [w64 (x := mu d * ((n / (d * d) : Nat) : Int)) (by omega), w64 (x := a + mu d * ((n / (d * d) : Nat) : Int)) (by omega)]
      refine Ev.to (ih (d + 1) (a + mu d * ((n / (d * d) : Nat) : Int)) (by omega) (by omega) (by omega)) ?_
      conv => rhs; unfold sqF
      rw [if_pos hc]; omega
    · have c : ¬ ((d * d : Nat) : Int) ≤ (n : Int) := by omega
      simp only [if_neg c]
      refine Ev.ret ?_
      unfold sqF; rw [if_neg hc]; omega
theorem ev_sSquareFree (n : Int) : Ev (fun k => spec_SquareFree.f k n) (sqZ n) := by
  unfold spec_SquareFree.f sqZ
  simp only [l1In_f, Option.bind_some, decide_eq_true_eq]
  by_cases h : 1 ≤ n ∧ n ≤ 10000
  · obtain ⟨m, rfl⟩ := Int.eq_ofNat_of_zero_le (show 0 ≤ n by omega)
    simp only [if_pos h, Int.toNat_natCast]
    refine Ev.to (ev_sSquareFree_l m (by omega) 101 1 0 (by omega) (by omega) (by omega)) ?_
    rw [Int.zero_add]; rfl
  · simp only [if_neg h]; exact Ev.now _

theorem ev_SignOf (n : Int) : Ev (fun k => impl_SignOf.f k n) (muZ n) := by
  unfold impl_SignOf.f muZ
  simp only [numberOk_f, Option.bind_some, decide_eq_true_eq]
  by_cases h : 1 ≤ n ∧ n ≤ 10000
  · obtain ⟨m, rfl⟩ := Int.eq_ofNat_of_zero_le (show 0 ≤ n by omega)
    simp only [if_pos h, Int.toNat_natCast]
    exact Ev.bind (ev_sign m (by omega) (by omega)) (Ev.now _)
  · simp only [if_neg h]; exact Ev.now _

theorem wf_u8 {x : Int} (h : (Lit.int .u8 x).wf = true) : 0 ≤ x ∧ x ≤ 255 := by
  simp [Lit.wf, IntKind.wrap, IntKind.bits, IntKind.signed, IntKind.min, IntKind.max] at h; omega
theorem wf_i64 {x : Int} (h : (Lit.int .i64 x).wf = true) : -9223372036854775808 ≤ x ∧ x ≤ 9223372036854775807 := by
  simp [Lit.wf, IntKind.wrap, IntKind.bits, IntKind.signed, IntKind.min, IntKind.max] at h; omega
theorem xor_nonneg (x y : Int) (h0 : 0 ≤ x) (h1 : x < 4611686018427387904) (h2 : 0 ≤ y) (h3 : y < 4611686018427387904) : 0 ≤ Go.bits .xor .i64 x y := by
  obtain ⟨a, rfl⟩ := Int.eq_ofNat_of_zero_le h0
  obtain ⟨b, rfl⟩ := Int.eq_ofNat_of_zero_le h2
  have ha : a < 2 ^ 62 := by omega
  have hb : b < 2 ^ 62 := by omega
  have hx := Nat.xor_lt_two_pow ha hb
  have ha' : a % 2 ^ 64 = a := Nat.mod_eq_of_lt (by omega)
  have hb' : b % 2 ^ 64 = b := Nat.mod_eq_of_lt (by omega)
  have e : Go.bits .xor .i64 ((a : Nat) : Int) ((b : Nat) : Int) = IntKind.i64.wrap ((a ^^^ b : Nat) : Int) := by
    simp only [Go.bits, IntKind.bits, BitVec.ofInt_natCast]
    show IntKind.i64.wrap (((BitVec.ofNat 64 a ^^^ BitVec.ofNat 64 b).toNat : Nat) : Int) = _
    rw [BitVec.toNat_xor, BitVec.toNat_ofNat, BitVec.toNat_ofNat, ha', hb']
  rw [e]
  simp only [IntKind.wrap, IntKind.bits, IntKind.signed]
  simp
  omega
/-- The bytes of a draw. -/
def Bytes (b : List Int) : Prop := b.length ≤ 2000 ∧ ∀ x ∈ b, 0 ≤ x ∧ x ≤ 255
theorem Bytes.rd {b : List Int} (hb : Bytes b) (i : Int) : 0 ≤ rd b i ∧ rd b i ≤ 255 := by
  show 0 ≤ b.getD i.toNat 0 ∧ b.getD i.toNat 0 ≤ 255
  rw [List.getD_eq_getElem?_getD]
  by_cases h : i.toNat < b.length
  · rw [List.getElem?_eq_getElem h]; exact hb.2 _ (List.getElem_mem _)
  · rw [List.getElem?_eq_none (by omega)]; simp
theorem ev_pick {b : List Int} (hb : Bytes b) (p n : Int) (hp : 0 ≤ p ∧ p ≤ 1000000) (hn : 1 ≤ n ∧ n ≤ 1000000000000) :
    ∃ r, (0 ≤ r ∧ r < n) ∧ Ev (fun k => spec_l20Rd_pick.f k b p n) (r, p + 1) := by
  have g0 : ¬ n < 1 := by omega
  unfold spec_l20Rd_pick.f
  simp only [if_neg g0, w64 (x := p + 1) (by omega)]
  have e1 : p + 1 - 1 = p := by omega
  by_cases h0 : (b.length : Int) = 0
  · refine ⟨0, by omega, Ev.step (fun k => by rw [spec_l20Rd_pick.j0]) ?_⟩
    simp only [h0, beq_self_eq_true, if_true]; exact Ev.now _
  have hl := hb.1
  have n0 : ¬ n = 0 := by omega
  by_cases h1 : p < (b.length : Int)
  · have hr := hb.rd p
    refine ⟨Int.tmod (rd b p) n, ?_, Ev.step (fun k => by rw [spec_l20Rd_pick.j0]) ?_⟩
    · rw [Int.tmod_eq_emod_of_nonneg hr.1]; exact ⟨Int.emod_nonneg _ n0, Int.emod_lt_of_pos _ (by omega)⟩
    · simp only [e1, w64 (x := p) (by omega), beq_eq_false_iff_ne.2 h0, Bool.false_eq_true, if_false, if_pos h1, if_pos hp.1, if_neg n0, w64 (x := rd b p) (by omega)]
      exact Ev.now _
  · have L0 : (0 : Int) < (b.length : Int) := by omega
    have m1 : Int.tmod p (b.length : Int) = p % (b.length : Int) := Int.tmod_eq_emod_of_nonneg hp.1
    have m2 : Int.tmod (p * 7 + 3) (b.length : Int) = (p * 7 + 3) % (b.length : Int) := Int.tmod_eq_emod_of_nonneg (by omega)
    have q1 : Int.tdiv p (b.length : Int) = p / (b.length : Int) := Int.tdiv_eq_ediv_of_nonneg hp.1
    have a1 := Int.emod_nonneg p (show (b.length : Int) ≠ 0 from h0)
    have a2 := Int.emod_lt_of_pos p L0
    have a3 := Int.emod_nonneg (p * 7 + 3) (show (b.length : Int) ≠ 0 from h0)
    have a4 := Int.emod_lt_of_pos (p * 7 + 3) L0
    have a5 : 0 ≤ p / (b.length : Int) := Int.ediv_nonneg hp.1 (by omega)
    have a6 : p / (b.length : Int) ≤ p := Int.ediv_le_self _ hp.1
    have u := hb.rd (p % (b.length : Int))
    have v := hb.rd ((p * 7 + 3) % (b.length : Int))
    generalize hU : rd b (p % (b.length : Int)) = U at *
    generalize hV : rd b ((p * 7 + 3) % (b.length : Int)) = V at *
    generalize hQ : p / (b.length : Int) = Q at *
    generalize hM : p % (b.length : Int) = M at *
    generalize hM2 : (p * 7 + 3) % (b.length : Int) = M2 at *
    generalize hX : U * 131 + V * 1117 + p * 29 + Q * 53 = X at *
    have x0 : 0 ≤ X := by omega
    have x1 : X ≤ 1000000000000 := by omega
    have d1 : Int.tdiv X 64 = X / 64 := Int.tdiv_eq_ediv_of_nonneg x0
    have y := xor_nonneg X (X / 64) x0 (by omega) (by omega) (by omega)
    refine ⟨Int.tmod (Go.bits .xor .i64 X (X / 64)) n, ?_, Ev.step (fun k => by rw [spec_l20Rd_pick.j0]) ?_⟩
    · rw [Int.tmod_eq_emod_of_nonneg y]; exact ⟨Int.emod_nonneg _ n0, Int.emod_lt_of_pos _ (by omega)⟩
    · simp only [e1, w64 (x := p) (by omega), w64 (x := p * 7) (by omega), w64 (x := p * 7 + 3) (by omega), beq_eq_false_iff_ne.2 h0, Bool.false_eq_true, if_false, if_neg h1, if_neg h0, m1, m2, q1, if_pos a1, if_pos a2, if_pos a3, if_pos a4, if_neg n0, hU, hV, w64 (x := U) (by omega), w64 (x := V) (by omega), w64 (x := U * 131) (by omega), w64 (x := V * 1117) (by omega), w64 (x := U * 131 + V * 1117) (by omega), w64 (x := p * 29) (by omega), w64 (x := U * 131 + V * 1117 + p * 29) (by omega), w64 (x := Q) (by omega), w64 (x := Q * 53) (by omega), hX, w64 (x := X) (by omega), d1, w64 (x := X / 64) (by omega)]
      exact Ev.now _

theorem open_l (l : List Int) (h : ∀ x ∈ l, (Lit.int .u8 x).wf = true) : ∃ b, Bytes b ∧ spec_l20Open.f l = some (b, 0) := by
  unfold spec_l20Open.f
  by_cases c : (l.length : Int) > 2000
  · refine ⟨l.take 2000, ⟨by simp; omega, fun x hx => wf_u8 (h x (List.mem_of_mem_take hx))⟩, ?_⟩
    rw [if_pos c, if_pos (by omega)]
  · exact ⟨l, ⟨by omega, fun x hx => wf_u8 (h x hx)⟩, by rw [if_neg c]⟩

theorem rd7 (a b c d e f g : Int) (i : Int) (h : 0 ≤ i ∧ i < 7) (lo hi : Int) (ha : lo ≤ a ∧ a ≤ hi) (hb : lo ≤ b ∧ b ≤ hi) (hc : lo ≤ c ∧ c ≤ hi) (hd : lo ≤ d ∧ d ≤ hi) (he : lo ≤ e ∧ e ≤ hi) (hf : lo ≤ f ∧ f ≤ hi) (hg : lo ≤ g ∧ g ≤ hi) :
    lo ≤ rd [a, b, c, d, e, f, g] i ∧ rd [a, b, c, d, e, f, g] i ≤ hi := by
  obtain ⟨n, rfl⟩ := Int.eq_ofNat_of_zero_le h.1
  have : n = 0 ∨ n = 1 ∨ n = 2 ∨ n = 3 ∨ n = 4 ∨ n = 5 ∨ n = 6 := by omega
  rcases this with rfl | rfl | rfl | rfl | rfl | rfl | rfl <;> assumption
theorem mul_bd {a b A B : Int} (ha : 0 ≤ a ∧ a ≤ A) (hb : 0 ≤ b ∧ b ≤ B) : 0 ≤ a * b ∧ a * b ≤ A * B :=
  ⟨Int.mul_nonneg ha.1 hb.1, Int.mul_le_mul ha.2 hb.2 hb.1 (by omega)⟩
theorem ev_some {b : List Int} (hb : Bytes b) (p : Int) (hp : 0 ≤ p ∧ p ≤ 999900) :
    ∃ v q, (-20000 ≤ v ∧ v ≤ 40000) ∧ (p ≤ q ∧ q ≤ p + 8) ∧ Ev (fun k => spec_l20Some.f k b p) (v, q) := by
  unfold spec_l20Some.f
  obtain ⟨r1, b1, e1⟩ := ev_pick hb p 12 (by omega) (by omega)
  obtain ⟨r2, b2, e2⟩ := ev_pick hb (p + 1) 60 (by omega) (by omega)
  obtain ⟨r3, b3, e3⟩ := ev_pick hb (p + 1 + 1) 100 (by omega) (by omega)
  obtain ⟨r4, b4, e4⟩ := ev_pick hb (p + 1 + 1 + 1) 100 (by omega) (by omega)
  obtain ⟨r5, b5, e5⟩ := ev_pick hb (p + 1 + 1 + 1 + 1) 60 (by omega) (by omega)
  obtain ⟨r6, b6, e6⟩ := ev_pick hb (p + 1 + 1 + 1 + 1 + 1) 13 (by omega) (by omega)
  obtain ⟨r7, b7, e7⟩ := ev_pick hb (p + 1 + 1 + 1 + 1 + 1 + 1) 40 (by omega) (by omega)
  obtain ⟨r8, b8, e8⟩ := ev_pick hb (p + 1 + 1 + 1 + 1 + 1 + 1 + 1) 50 (by omega) (by omega)
  have m := mul_bd (a := r3) (b := r4) (A := 99) (B := 99) (by omega) (by omega)
  have d6 : Int.tdiv r6 2 = r6 / 2 := Int.tdiv_eq_ediv_of_nonneg b6.1
  have d7 : Int.tdiv r7 39 = r7 / 39 := Int.tdiv_eq_ediv_of_nonneg b7.1
  have d8 : Int.tdiv r8 49 = r8 / 49 := Int.tdiv_eq_ediv_of_nonneg b8.1
  have RB := rd7 (1 + r1) (1 + r2) (1 + r3 * r4) (12 * (1 + r5)) 9973 8192 9240 (r6 / 2) (by omega) 1 9973 (by omega) (by omega) (by omega) (by omega) (by omega) (by omega) (by omega)
  generalize hR : rd [1 + r1, 1 + r2, 1 + r3 * r4, 12 * (1 + r5), 9973, 8192, 9240] (r6 / 2) = R at *
  refine ⟨R + r7 / 39 * 10000 - r8 / 49 * 20000, p + 1 + 1 + 1 + 1 + 1 + 1 + 1 + 1, by omega, by omega, ?_⟩
  refine Ev.bind e1 (Ev.bind e2 (Ev.bind e3 (Ev.bind e4 (Ev.bind e5 ?_))))
  simp only [Option.bind_some, w64 (x := 1 + r1) (by omega), w64 (x := 1 + r2) (by omega), w64 (x := r3 * r4) (by omega), w64 (x := 1 + r3 * r4) (by omega), w64 (x := 1 + r5) (by omega), w64 (x := 12 * (1 + r5)) (by omega)]
  refine Ev.bind e6 ?_
  have c1 : 0 ≤ r6 / 2 := by omega
  have c2 : r6 / 2 < (([1 + r1, 1 + r2, 1 + r3 * r4, 12 * (1 + r5), 9973, 8192, 9240] : List Int).length : Int) := by simp; omega
  simp only [d6, w64 (x := r6 / 2) (by omega), if_pos c1, if_pos c2]
  refine Ev.bind e7 (Ev.bind e8 ?_)
  simp only [hR, d7, d8, w64 (x := r7 / 39) (by omega), w64 (x := r8 / 49) (by omega), w64 (x := r7 / 39 * 10000) (by omega), w64 (x := r8 / 49 * 20000) (by omega), w64 (x := R + r7 / 39 * 10000) (by omega), w64 (x := R + r7 / 39 * 10000 - r8 / 49 * 20000) (by omega)]
  exact Ev.now _

theorem alive_f : laws_alive.f = some true := by
  unfold laws_alive.f impl_DividesOk.f
  simp only [numberOk_f, Option.bind_some]; simp

theorem sqZ_nat (n : Nat) (h : 1 ≤ n ∧ n ≤ 10000) : sqZ (n : Int) = sqS n := by unfold sqZ; rw [if_pos (by omega), Int.toNat_natCast]
theorem ev_sq_next (n : Nat) (h : 1 ≤ n ∧ n ≤ 10000) : Ev (fun k => (impl_SignOf.f k ((n : Int) + 1)).bind fun t204 => (if (n : Int) = 10000 then (some true) else ((impl_SquareFree.f k ((n : Int) + 1)).bind fun t205 => (some (t205 == (wrap64 (sqS n + (wrap64 (t204 * t204))))))))) true := by
  refine Ev.bind (ev_SignOf _) ?_
  by_cases e : n = 10000
  · have e1 : (n : Int) = 10000 := by omega
    simp only [if_pos e1]; exact Ev.now _
  · have e1 : ¬ (n : Int) = 10000 := by omega
    simp only [if_neg e1]
    refine Ev.bind (ev_iSquareFree _) (Ev.ret ?_)
    have b := sqS_bd n (by omega)
    have m := mu_bd (n + 1)
    have hm : mu (n + 1) * mu (n + 1) = 0 ∨ mu (n + 1) * mu (n + 1) = 1 := by rcases m with e | e | e <;> rw [e] <;> simp
    have e2 := muZ_nat (n + 1) (by omega) (by omega)
    rw [show (n : Int) + 1 = ((n + 1 : Nat) : Int) by omega, sqZ_nat (n + 1) (by omega), sq_step n (by omega), e2, w64 (x := mu (n + 1) * mu (n + 1)) (by omega), w64 (by omega)]
    simp
theorem ev_sq_count (n : Nat) (h : 1 ≤ n ∧ n ≤ 120) : ∀ (m d : Nat), d + m = n + 1 → 1 ≤ d →
    Ev (fun k => laws_FnSquareFree.l0 k (n : Int) (sqS n) (sqS (d - 1)) (d : Int)) true := by
  intro m
  induction m with
  | zero =>
    intro d hd h1
    refine Ev.step (fun k => by rw [laws_FnSquareFree.l0]) ?_
    have c : ¬ (d : Int) ≤ (n : Int) := by omega
    have e : d - 1 = n := by omega
    simp only [if_neg c, e, if_true, w64 (x := (n : Int) + 1) (by omega)]
    exact ev_sq_next n (by omega)
  | succ m ih =>
    intro d hd h1
    refine Ev.step (fun k => by rw [laws_FnSquareFree.l0]) ?_
    have c : (d : Int) ≤ (n : Int) := by omega
    simp only [if_pos c, w64 (x := (d : Int) + 1) (by omega)]
    refine Ev.bind (ev_SignOf _) ?_
    have b := sqS_bd (d - 1) (by omega)
    have m' := mu_bd d
    have hm : mu d * mu d = 0 ∨ mu d * mu d = 1 := by rcases m' with e | e | e <;> rw [e] <;> simp
    have st := sq_step (d - 1) (by omega)
    rw [show d - 1 + 1 = d by omega] at st
    rw [muZ_nat d (by omega) (by omega), w64 (x := mu d * mu d) (by omega), w64 (x := sqS (d - 1) + mu d * mu d) (by omega), ← st]
    exact ih (d + 1) (by omega) (by omega)
theorem rd3 (a b c : Int) (i : Int) (h : 0 ≤ i ∧ i < 3) (lo hi : Int) (ha : lo ≤ a ∧ a ≤ hi) (hb : lo ≤ b ∧ b ≤ hi) (hc : lo ≤ c ∧ c ≤ hi) : lo ≤ rd [a, b, c] i ∧ rd [a, b, c] i ≤ hi := by
  obtain ⟨n, rfl⟩ := Int.eq_ofNat_of_zero_le h.1
  have : n = 0 ∨ n = 1 ∨ n = 2 := by omega
  rcases this with rfl | rfl | rfl <;> assumption
theorem FnSquareFree : laws_FnSquareFree.Pure := by
  intro l h1 h2 h3
  apply Ev.k
  unfold laws_FnSquareFree.f
  by_cases hl : (l.length : Int) > 1048576
  · simp only [if_pos hl]; exact Ev.now _
  simp only [if_neg hl]
  obtain ⟨b, hb, eo⟩ := open_l l h3
  obtain ⟨r1, b1, e1⟩ := ev_pick hb 0 120 (by omega) (by omega)
  obtain ⟨r2, b2, e2⟩ := ev_pick hb (0 + 1) 120 (by omega) (by omega)
  obtain ⟨x, q, hx, hq, ex⟩ := ev_some hb (0 + 1 + 1) (by omega)
  obtain ⟨r3, b3, e3⟩ := ev_pick hb q 3 (by omega) (by omega)
  have R := rd3 r1 r2 x r3 b3 (-20000) 40000 (by omega) (by omega) (by omega)
  have ed : Ev (fun k => spec_DrawSquareFree.f k l) (rd [r1, r2, x] r3) := by
    unfold spec_DrawSquareFree.f
    simp only [eo, Option.bind_some]
    refine Ev.bind e1 (Ev.bind e2 (Ev.bind ex (Ev.bind e3 ?_)))
    have c2 : r3 < (([r1, r2, x] : List Int).length : Int) := by simp; omega
    simp only [if_pos b3.1, if_pos c2]
    exact Ev.now _
  refine Ev.bind ed ?_
  generalize rd [r1, r2, x] r3 = n at *
  refine Ev.bind (ev_iSquareFree n) (Ev.bind (ev_sSquareFree n) ?_)
  simp only [if_true]
  by_cases h : 1 ≤ n ∧ n ≤ 10000
  · obtain ⟨m, rfl⟩ := Int.eq_ofNat_of_zero_le (show 0 ≤ n by omega)
    have b := sqS_bd m (by omega)
    have c : ¬ sqS m < 0 := by omega
    rw [sqZ_nat m (by omega)]
    simp only [if_neg c, w64 (x := (m : Int) + 1) (by omega)]
    by_cases g : (m : Int) ≤ 120
    · simp only [if_pos g]
      exact ev_sq_count m (by omega) m 1 (by omega) (by omega)
    · simp only [if_neg g]
      exact ev_sq_next m (by omega)
  · have e : sqZ n = -1 := by unfold sqZ; rw [if_neg h]
    have c : (-1 : Int) < 0 := by omega
    simp only [e, if_pos c, if_true, alive_f, Option.bind_some]
    exact Ev.now _

end Go.Proofs.Ytnmpbjllljlgpaa.Pure
namespace Go.Proofs.Ytnmpbjllljlgpaa.PrintWords
/-- The printed row's word, under the name by which that row calls it. -/
abbrev sized_ints := @Go.Proofs.YtnmpbjllljlgpaaW.PrintWords.sized_ints
end Go.Proofs.Ytnmpbjllljlgpaa.PrintWords
