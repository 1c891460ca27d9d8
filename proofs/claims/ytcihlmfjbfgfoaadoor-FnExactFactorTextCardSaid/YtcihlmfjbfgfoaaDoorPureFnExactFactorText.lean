/- The program's text of a number and the reference's are the same for all numbers. -/
import Derived.Test.YtcihlmfjbfgfoaaDoorPFnExactFactorTextx0
import Derived.Test.YtcihlmfjbfgfoaaDoorPFnExactFactorTextx1
import Derived.Test.YtcihlmfjbfgfoaaDoorPFnExactFactorTextx2
import Derived.Test.YtcihlmfjbfgfoaaDoorM1
import Derived.Test.YtcihlmfjbfgfoaaDoorM2
namespace Go.Proofs.YtcihlmfjbfgfoaaDoor.Pure
open Go.RowKit Go.Proofs.YtcihlmfjbfgfoaaDoor.PFnExactFactorText Go.Proofs.YtcihlmfjbfgfoaaDoorW.PrintWords Go.Proofs.YtcihlmfjbfgfoaaDoorW.PrintLast Go.Proofs.YtcihlmfjbfgfoaaDoorW.PrintMore Go.Proofs.YtcihlmfjbfgfoaaDoor.Math Go.Proofs.YtcihlmfjbfgfoaaDoor.Clos
set_option linter.unusedVariables false
set_option linter.unusedSimpArgs false
theorem w64 {x : Int} (h : -9223372036854775808 ≤ x ∧ x ≤ 9223372036854775807) : wrap64 x = x := by unfold wrap64; omega
theorem Ev.k {α : Type} {g : Nat → Option α} {r : α} (h : Ev g r) : ∃ k, g k = some r := Ev.rounds h
theorem Ev.to {α : Type} {g : Nat → Option α} {r s : α} (h : Ev g r) (e : r = s) : Ev g s := e ▸ h
theorem Ev.ret {α : Type} {r s : α} (e : r = s) : Ev (fun _ => some r) s := e ▸ Ev.now r

theorem itB_nat (m : Nat) : itB (m : Int) = ⟨(Lib.decDigits m).toArray⟩ := by
  unfold itB Lib.itoa
  rw [if_neg (by omega), Int.toNat_natCast]
theorem dec_one (m : Nat) (h : m < 10) : Lib.decDigits m = [UInt8.ofNat (48 + m)] := by
  rw [Lib.decDigits, dif_pos h]
theorem dec_more (m : Nat) (h : ¬ m < 10) : Lib.decDigits m = Lib.decDigits (m / 10) ++ [UInt8.ofNat (48 + m % 10)] := by
  rw [Lib.decDigits, dif_neg h]
theorem itB_size (m : Nat) : (itB (m : Int)).size ≤ m + 1 := by
  rw [itB_nat]
  show (Lib.decDigits m).toArray.size ≤ m + 1
  rw [List.size_toArray]
  induction m using Nat.strongRecOn with
  | _ m ih =>
    by_cases h : m < 10
    · rw [dec_one m h]; simp
    · rw [dec_more m h, List.length_append]
      have := ih (m / 10) (by omega)
      simp only [List.length_cons, List.length_nil]
      omega
theorem ev_l1Number (m : Nat) (hm : m ≤ 100000) : Ev (fun k => spec_l1Number.f k (m : Int)) (itB (m : Int)) := by
  induction m using Nat.strongRecOn with
  | _ m ih =>
    refine Ev.step (fun k => by rw [spec_l1Number.f]) ?_
    have c0 : ¬ (m : Int) < 0 := by omega
    simp only [if_neg c0]
    refine Ev.step (fun k => by rw [spec_l1Number.j0]) ?_
    simp only [Bool.false_eq_true, if_false, if_neg c0]
    by_cases h : m < 10
    · have c1 : (m : Int) < 10 := by omega
      simp only [if_pos c1]
      refine Ev.ret ?_
      rw [itB_nat, dec_one m h, w64 (by omega)]
      have : ∀ d : Nat, d < 10 → strOfNums [((48 : Int) + (d : Int)) % 256] = ⟨[UInt8.ofNat (48 + d)].toArray⟩ := by decide
      exact this m h
    · have c1 : ¬ (m : Int) < 10 := by omega
      simp only [if_neg c1, ← Int.ofNat_tdiv, ← Int.ofNat_tmod]
      have e10 : Int.tdiv (m : Int) 10 = ((m / 10 : Nat) : Int) := by rw [Int.ofNat_tdiv]; rfl
      have r10 : Int.tmod (m : Int) 10 = ((m % 10 : Nat) : Int) := by rw [Int.ofNat_tmod]; rfl
      simp only [e10, r10, w64 (x := ((m / 10 : Nat) : Int)) (by omega)]
      refine Ev.bind (ih (m / 10) (by omega) (by omega)) ?_
      have sz := itB_size (m / 10)
      have d10 : m % 10 < 10 := Nat.mod_lt _ (by omega)
      have one : strOfNums [(wrap64 (48 + ((m % 10 : Nat) : Int))) % 256] = ⟨[UInt8.ofNat (48 + m % 10)].toArray⟩ := by
        rw [w64 (by omega)]
        have : ∀ d : Nat, d < 10 → strOfNums [((48 : Int) + (d : Int)) % 256] = ⟨[UInt8.ofNat (48 + d)].toArray⟩ := by decide
        exact this (m % 10) d10
      simp only [Option.bind_some, one]
      have c2 : (itB ((m / 10 : Nat) : Int)).size + (⟨[UInt8.ofNat (48 + m % 10)].toArray⟩ : ByteArray).size ≤ 9223372036854775807 := by
        have : (⟨[UInt8.ofNat (48 + m % 10)].toArray⟩ : ByteArray).size = 1 := rfl
        omega
      simp only [if_pos c2]
      refine Ev.ret ?_
      rw [itB_nat, itB_nat, dec_more m h]
      apply ByteArray.ext
      rw [ByteArray.data_append]
      simp

/-- Natural numbers as the program's numbers. -/
def ints (l : List Nat) : List Int := l.map (fun x : Nat => (x : Int))
theorem ints_length (l : List Nat) : (ints l).length = l.length := by simp [ints]
theorem ints_append (l m : List Nat) : ints (l ++ m) = ints l ++ ints m := by simp [ints]
theorem ints_reverse (l : List Nat) : (ints l).reverse = ints l.reverse := by simp [ints]

/-- Factors as the program tells them: rows of two numbers. -/
def rowsF (L : List (Nat × Nat)) : List (List Int) := L.map (fun x : Nat × Nat => [(x.1 : Int), (x.2 : Int)])
theorem rowsF_length (L : List (Nat × Nat)) : (rowsF L).length = L.length := by simp [rowsF]

theorem rdrow (L : List (Nat × Nat)) (i : Nat) (h : i < L.length) : rd_L1 (rowsF L) (i : Int) = [((L.getD i (0, 0)).1 : Int), ((L.getD i (0, 0)).2 : Int)] := by
  show (rowsF L).getD i [] = _
  unfold rowsF
  simp only [List.getD_eq_getElem?_getD, List.getElem?_map, List.getElem?_eq_getElem h, Option.map_some, Option.getD_some]
theorem dropF (L : List (Nat × Nat)) (i : Nat) (h : i < L.length) : L.drop i = L.getD i (0, 0) :: L.drop (i + 1) := by
  rw [List.drop_eq_getElem_cons h]; simp [List.getD_eq_getElem?_getD, List.getElem?_eq_getElem h]
theorem rd_two0 (a b : Int) : rd [a, b] 0 = a := rfl
theorem rd_two1 (a b : Int) : rd [a, b] 1 = b := rfl
theorem getF_mem (L : List (Nat × Nat)) (i : Nat) (h : i < L.length) : L.getD i (0, 0) ∈ L := by
  rw [List.getD_eq_getElem?_getD, List.getElem?_eq_getElem h]; exact List.getElem_mem _

theorem ev_fac_l1 (out : List (List Int)) (hout : out.length ≤ 1000000) (p : Nat) (hp : 2 ≤ p ∧ p ≤ 10000) (r : List (List Int)) (t m : Nat) (hm : m % p ≠ 0) (h1 : 1 ≤ m ∧ m ≤ 10000)
    (hN : Ev (fun k => impl_factors.l0 k (m : Int) (if t = 0 then out else out ++ [[(p : Int), (t : Int)]]) ((p + 1 : Nat) : Int)) r) :
    ∀ (j c : Nat), c + j = t → p ^ j * m ≤ 10000 → t ≤ 10000 →
    Ev (fun k => impl_factors.l1 k ((p ^ j * m : Nat) : Int) out (p : Int) (c : Int)) r := by
  intro j
  induction j with
  | zero =>
    intro c hc hb ht
    refine Ev.step (fun k => by rw [impl_factors.l1]) ?_
    have c0 : ¬ (p : Int) = 0 := by omega
    have c1 : ¬ ((m % p : Nat) : Int) = 0 := by omega
    simp only [Nat.pow_zero, Nat.one_mul, if_neg c0, ← Int.ofNat_tmod, if_neg c1, w64 (x := (p : Int) + 1) (by omega)]
    have e : c = t := by omega
    subst e
    by_cases z : c = 0
    · have c2 : ¬ (c : Int) > 0 := by omega
      rw [if_pos z] at hN
      simp only [if_neg c2]; exact hN
    · have c2 : (0 : Int) < (c : Int) := by omega
      have c3 : out.length < 5864062014805 := by omega
      rw [if_neg z] at hN
      simp only [gt_iff_lt, if_pos c2, if_pos c3]; exact hN
  | succ j ih =>
    intro c hc hb ht
    refine Ev.step (fun k => by rw [impl_factors.l1]) ?_
    have e : p ^ (j + 1) * m = p * (p ^ j * m) := by rw [Nat.pow_succ, Nat.mul_comm (p ^ j) p, Nat.mul_assoc]
    have c0 : ¬ (p : Int) = 0 := by omega
    have c1 : ((p ^ (j + 1) * m % p : Nat) : Int) = 0 := by rw [e, Nat.mul_mod_right]; rfl
    have c2 : p ^ (j + 1) * m / p = p ^ j * m := by rw [e, Nat.mul_div_cancel_left _ (by omega)]
    have b2 : 1 * (p ^ j * m) ≤ p * (p ^ j * m) := Nat.mul_le_mul_right _ (by omega)
    simp only [if_neg c0, ← Int.ofNat_tmod, ← Int.ofNat_tdiv, if_pos c1, c2, w64 (x := ((p ^ j * m : Nat) : Int)) (by omega), w64 (x := (c : Int) + 1) (by omega)]
    exact ih (c + 1) (by omega) (by omega) ht
theorem ev_fac_one (out : List (List Int)) (p : Int) : Ev (fun k => impl_factors.l0 k 1 out p) out := by
  refine Ev.step (fun k => by rw [impl_factors.l0]) ?_
  have c : ¬ (1 : Int) > 1 := by omega
  simp only [if_neg c]
  exact Ev.now _
theorem ev_fac_l0 : ∀ (d p n : Nat) (out : List (List Int)), p + d = 102 → 2 ≤ p → 1 ≤ n → n ≤ 10000 → out.length ≤ p → NoLow p n →
    Ev (fun k => impl_factors.l0 k (n : Int) out (p : Int)) (out ++ rowsF (fac p n)) := by
  intro d
  induction d with
  | zero =>
    intro p n out hd hp h1 hn ho hl
    by_cases c : n = 1
    · subst c; rw [fac_lt (by omega)]; simpa [rowsF] using ev_fac_one out (p : Int)
    refine Ev.step (fun k => by rw [impl_factors.l0]) ?_
    have c1 : (1 : Int) < (n : Int) := by omega
    have e : p = 102 := by omega
    subst e
    have c2 : (n : Int) < ((102 : Nat) : Int) * ((102 : Nat) : Int) := by omega
    have hpr : Pr n := pr_of_root (d := 102) (by omega) (by omega) hl
    have hf : fac 102 n = [(n, 1)] := by
      rw [← fac_skip h1 hl (by omega), fac_skip h1 (p := n) ?_ (by omega)]
      · have := fac_yes (p := n) (j := 1) (m := 1) (by omega) (by omega) (by rw [Nat.mod_eq_of_lt (by omega)]; omega) (by omega)
        rw [Nat.pow_one, Nat.mul_one] at this
        rw [this, fac_lt (by omega)]
      · intro x h2 hx e
        rcases hpr.2 x (Nat.dvd_of_mod_eq_zero e) with h | h <;> omega
    simp only [gt_iff_lt, if_pos c1, w64 (x := ((102 : Nat) : Int) * ((102 : Nat) : Int)) (by omega), if_pos c2]
    refine Ev.step (fun k => by rw [impl_factors.j1]) ?_
    rw [hf]
    have := ev_fac_l1 out (by omega) n ⟨by omega, hn⟩ (out ++ rowsF [(n, 1)]) 1 1 (by rw [Nat.mod_eq_of_lt (by omega)]; omega) (by omega) (by simpa [rowsF] using ev_fac_one (out ++ [[(n : Int), 1]]) ((n : Int) + 1)) 1 0 (by omega) (by rw [Nat.pow_one]; omega) (by omega)
    rw [Nat.pow_one, Nat.mul_one] at this
    exact this
  | succ d ih =>
    intro p n out hd hp h1 hn ho hl
    by_cases c : n = 1
    · subst c; rw [fac_lt (by omega)]; simpa [rowsF] using ev_fac_one out (p : Int)
    refine Ev.step (fun k => by rw [impl_factors.l0]) ?_
    have c1 : (1 : Int) < (n : Int) := by omega
    have pp : p * p ≤ 101 * 101 := Nat.mul_le_mul (by omega) (by omega)
    have ep : (p : Int) * (p : Int) = ((p * p : Nat) : Int) := by simp
    simp only [gt_iff_lt, if_pos c1, ep, w64 (x := ((p * p : Nat) : Int)) (by omega)]
    by_cases hpp : n < p * p
    · have c2 : (n : Int) < ((p * p : Nat) : Int) := by omega
      have hpr : Pr n := pr_of_root (d := p) (by omega) hpp hl
      have hln : NoLow n n := fun x h2 hx e => by
        rcases hpr.2 x (Nat.dvd_of_mod_eq_zero e) with h | h <;> omega
      have hf : fac p n = [(n, 1)] := by
        rw [← fac_skip h1 hl hp, fac_skip h1 (p := n) hln (by omega)]
        have := fac_yes (p := n) (j := 1) (m := 1) (by omega) (by omega) (by rw [Nat.mod_eq_of_lt (by omega)]; omega) (by omega)
        rw [Nat.pow_one, Nat.mul_one] at this
        rw [this, fac_lt (by omega)]
      simp only [if_pos c2]
      refine Ev.step (fun k => by rw [impl_factors.j1]) ?_
      rw [hf]
      have := ev_fac_l1 out (by omega) n ⟨by omega, hn⟩ (out ++ rowsF [(n, 1)]) 1 1 (by rw [Nat.mod_eq_of_lt (by omega)]; omega) (by omega) (by simpa [rowsF] using ev_fac_one (out ++ [[(n : Int), 1]]) ((n : Int) + 1)) 1 0 (by omega) (by rw [Nat.pow_one]; omega) (by omega)
      rw [Nat.pow_one, Nat.mul_one] at this
      exact this
    · have c2 : ¬ (n : Int) < ((p * p : Nat) : Int) := by omega
      simp only [if_neg c2]
      refine Ev.step (fun k => by rw [impl_factors.j1]) ?_
      obtain ⟨j, m, e, hm, hm1⟩ := exists_strip p hp n h1
      have hj : j < p ^ j := Nat.lt_pow_self (by omega)
      have b1 : p ^ j * 1 ≤ p ^ j * m := Nat.mul_le_mul_left _ hm1
      have b2 : 1 * m ≤ p ^ j * m := Nat.mul_le_mul_right _ (Nat.pow_pos (by omega))
      have hlm : NoLow (p + 1) m := (hl.of_dvd (by rw [e]; exact dvd_pow_mul p j m)).succ hm
      have ihm := ih (p + 1) m (if j = 0 then out else out ++ [[(p : Int), (j : Int)]]) (by omega) (by omega) hm1 (by omega) (by split <;> (try simp) <;> omega) hlm
      have main := ev_fac_l1 out (by omega) p ⟨hp, by omega⟩ _ j m hm ⟨hm1, by omega⟩ ihm j 0 (by omega) (by omega) (by omega)
      rw [← e] at main
      refine Ev.to main ?_
      by_cases z : j = 0
      · subst z
        rw [Nat.pow_zero, Nat.one_mul] at e
        subst e
        rw [if_pos rfl, ← fac_no hp h1 hm]
      · rw [if_neg z, e, fac_yes hp (by omega) hm hm1]; simp [rowsF]
theorem ev_factors (n : Nat) (h1 : 1 ≤ n) (hn : n ≤ 10000) : Ev (fun k => impl_factors.f k (n : Int)) (rowsF (fac 2 n)) := by
  unfold impl_factors.f
  exact ev_fac_l0 100 2 n [] (by omega) (by omega) h1 hn (by simp) (NoLow.two n)

theorem l1In_f (a b c : Int) : spec_l1In.f a b c = some (decide (b ≤ a ∧ a ≤ c)) := by
  unfold spec_l1In.f
  by_cases h : a ≥ b
  · rw [if_pos h]; simp [show b ≤ a from h]
  · rw [if_neg h]; simp [show ¬ b ≤ a from h]

theorem ev_sfac_l1 (x0 : Int) (out : List (List Int)) (hout : out.length ≤ 1000000) (p : Nat) (hp : 2 ≤ p ∧ p ≤ 10000) (r : List (List Int)) (t m : Nat) (hm : m % p ≠ 0) (h1 : 1 ≤ m ∧ m ≤ 10000)
    (hN : Ev (fun k => spec_FactorsOf.l0 k x0 (if t = 0 then out else out ++ [[(p : Int), (t : Int)]]) (m : Int) ((p + 1 : Nat) : Int)) r) :
    ∀ (j c : Nat), c + j = t → p ^ j * m ≤ 10000 → t ≤ 10000 →
    Ev (fun k => spec_FactorsOf.l1 k x0 out ((p ^ j * m : Nat) : Int) (p : Int) (c : Int)) r := by
  intro j
  induction j with
  | zero =>
    intro c hc hb ht
    refine Ev.step (fun k => by rw [spec_FactorsOf.l1]) ?_
    have c0 : ¬ (p : Int) = 0 := by omega
    have c1 : ¬ ((m % p : Nat) : Int) = 0 := by omega
    simp only [Nat.pow_zero, Nat.one_mul, if_neg c0, ← Int.ofNat_tmod, if_neg c1, w64 (x := (p : Int) + 1) (by omega)]
    have e : c = t := by omega
    subst e
    by_cases z : c = 0
    · have c2 : ¬ (c : Int) > 0 := by omega
      rw [if_pos z] at hN
      simp only [if_neg c2]; exact hN
    · have c2 : (0 : Int) < (c : Int) := by omega
      have c3 : out.length < 5864062014805 := by omega
      rw [if_neg z] at hN
      simp only [gt_iff_lt, if_pos c2, if_pos c3]; exact hN
  | succ j ih =>
    intro c hc hb ht
    refine Ev.step (fun k => by rw [spec_FactorsOf.l1]) ?_
    have e : p ^ (j + 1) * m = p * (p ^ j * m) := by rw [Nat.pow_succ, Nat.mul_comm (p ^ j) p, Nat.mul_assoc]
    have c0 : ¬ (p : Int) = 0 := by omega
    have c1 : ((p ^ (j + 1) * m % p : Nat) : Int) = 0 := by rw [e, Nat.mul_mod_right]; rfl
    have c2 : p ^ (j + 1) * m / p = p ^ j * m := by rw [e, Nat.mul_div_cancel_left _ (by omega)]
    have b2 : 1 * (p ^ j * m) ≤ p * (p ^ j * m) := Nat.mul_le_mul_right _ (by omega)
    simp only [if_neg c0, ← Int.ofNat_tmod, ← Int.ofNat_tdiv, if_pos c1, c2, w64 (x := ((p ^ j * m : Nat) : Int)) (by omega), w64 (x := (c : Int) + 1) (by omega)]
    exact ih (c + 1) (by omega) (by omega) ht
theorem ev_sfac_l0 (x0 : Int) (hx : 1 ≤ x0 ∧ x0 ≤ 10000) : ∀ (d p n : Nat) (out : List (List Int)), p + d = 10002 → 2 ≤ p → 1 ≤ n → n ≤ 10000 → out.length ≤ p →
    Ev (fun k => spec_FactorsOf.l0 k x0 out (n : Int) (p : Int)) (out ++ rowsF (fac p n)) := by
  intro d
  have stop : ∀ (p n : Nat) (out : List (List Int)), n < p → Ev (fun k => spec_FactorsOf.l0 k x0 out (n : Int) (p : Int)) (out ++ rowsF (fac p n)) := by
    intro p n out h
    refine Ev.step (fun k => by rw [spec_FactorsOf.l0]) ?_
    have c : ¬ (p : Int) ≤ (n : Int) := by omega
    simp only [if_neg c]
    refine Ev.step (fun k => by rw [spec_FactorsOf.j1]) ?_
    simp only [Bool.false_eq_true, if_false]
    rw [fac_lt h]
    exact Ev.ret (by simp [rowsF])
  induction d with
  | zero =>
    intro p n out hd hp h1 hn ho
    exact stop p n out (by omega)
  | succ d ih =>
    intro p n out hd hp h1 hn ho
    by_cases c : n < p
    · exact stop p n out c
    refine Ev.step (fun k => by rw [spec_FactorsOf.l0]) ?_
    have c1 : (p : Int) ≤ (n : Int) := by omega
    simp only [if_pos c1, l1In_f, Option.bind_some, decide_eq_true hx]
    refine Ev.step (fun k => by rw [spec_FactorsOf.j1]) ?_
    simp only [if_true]
    obtain ⟨j, m, e, hm, hm1⟩ := exists_strip p hp n h1
    have hj : j < p ^ j := Nat.lt_pow_self (by omega)
    have b1 : p ^ j * 1 ≤ p ^ j * m := Nat.mul_le_mul_left _ hm1
    have b2 : 1 * m ≤ p ^ j * m := Nat.mul_le_mul_right _ (Nat.pow_pos (by omega))
    have ihm := ih (p + 1) m (if j = 0 then out else out ++ [[(p : Int), (j : Int)]]) (by omega) (by omega) hm1 (by omega) (by split <;> (try simp) <;> omega)
    have main := ev_sfac_l1 x0 out (by omega) p ⟨hp, by omega⟩ _ j m hm ⟨hm1, by omega⟩ ihm j 0 (by omega) (by omega) (by omega)
    rw [← e] at main
    refine Ev.to main ?_
    by_cases z : j = 0
    · subst z
      rw [Nat.pow_zero, Nat.one_mul] at e
      subst e
      rw [if_pos rfl, ← fac_no hp h1 hm]
    · rw [if_neg z, e, fac_yes hp (by omega) hm hm1]; simp [rowsF]
theorem ev_sFactorsOf (n : Nat) (h1 : 1 ≤ n) (hn : n ≤ 10000) : Ev (fun k => spec_FactorsOf.f k (n : Int)) (rowsF (fac 2 n)) := by
  unfold spec_FactorsOf.f
  exact ev_sfac_l0 (n : Int) (by omega) 10000 2 n [] (by omega) (by omega) h1 hn (by simp)
theorem ev_sFactorsOf_no {n : Int} (h : ¬ (1 ≤ n ∧ n ≤ 10000)) : Ev (fun k => spec_FactorsOf.f k n) [] := by
  unfold spec_FactorsOf.f
  refine Ev.step (fun k => by rw [spec_FactorsOf.l0]) ?_
  have no : Ev (fun k => spec_FactorsOf.j1 k n [] n 2 false) [] := by
    refine Ev.step (fun k => by rw [spec_FactorsOf.j1]) ?_
    simp only [Bool.false_eq_true, if_false]; exact Ev.now _
  by_cases c : (2 : Int) ≤ n
  · simp only [if_pos c, l1In_f, Option.bind_some, decide_eq_false h]; exact no
  · simp only [if_neg c]; exact no

theorem numberOk_f (a : Int) : impl_numberOk.f a = some (decide (1 ≤ a ∧ a ≤ 10000)) := by
  unfold impl_numberOk.f
  by_cases h : a ≥ 1
  · rw [if_pos h]; simp [show 1 ≤ a from h]
  · rw [if_neg h]; simp [show ¬ 1 ≤ a from h]

theorem loop_len (b : ByteArray) : ∀ (m i : Nat) (r : List UInt8), b.size - i = m → r.length ≤ (ByteArray.toList.loop b i r).length := by
  intro m
  induction m with
  | zero =>
    intro i r h
    rw [ByteArray.toList.loop, if_neg (by omega), List.length_reverse]
    exact Nat.le_refl _
  | succ m ih =>
    intro i r h
    rw [ByteArray.toList.loop, if_pos (by omega)]
    have := ih (i + 1) (b.get! i :: r) (by omega)
    simp only [List.length_cons] at this
    omega
theorem toList_pos (b : ByteArray) (h : 1 ≤ b.size) : b.toList ≠ [] := by
  intro e
  unfold ByteArray.toList at e
  rw [ByteArray.toList.loop, if_pos (by omega)] at e
  have := loop_len b (b.size - 1) (0 + 1) [b.get! 0] (by omega)
  rw [e] at this
  simp at this
/-- One part of a number's text: a prime, and how often. -/
def ptB (x : Nat × Nat) : ByteArray := if 1 < x.2 then itB (x.1 : Int) ++ ((⟨#[94]⟩ : ByteArray) ++ itB (x.2 : Int)) else itB (x.1 : Int)
def jnP (F : List (Nat × Nat)) : ByteArray := jnB (F.map ptB) (⟨#[46]⟩ : ByteArray)
/-- The text of a number. -/
def txB (n : Int) : ByteArray := if 1 ≤ n ∧ n ≤ 10000 then (if n = 1 then ⟨#[49]⟩ else jnP (fac 2 n.toNat)) else ⟨#[]⟩
theorem join_two (a b : List UInt8) (t : List (List UInt8)) (s : List UInt8) : Lib.join (a :: b :: t) s = a ++ (s ++ Lib.join (b :: t) s) := by
  unfold Lib.join
  simp [List.intercalate, List.intersperse]
theorem join_snoc (l : List (List UInt8)) (x s : List UInt8) : Lib.join (l ++ [x]) s = if l = [] then x else Lib.join l s ++ (s ++ x) := by
  induction l with
  | nil => simp [Lib.join, List.intercalate]
  | cons a t ih =>
    rw [if_neg (by simp)]
    cases t with
    | nil => simp [Lib.join, List.intercalate, List.intersperse]
    | cons b t =>
      rw [List.cons_append, List.cons_append, join_two, join_two]
      rw [List.cons_append] at ih
      rw [ih, if_neg (by simp)]
      simp [List.append_assoc]
theorem jnP_nil : jnP [] = ⟨#[]⟩ := by
  unfold jnP jnB Lib.join
  simp [List.intercalate]
theorem jnP_snoc (F : List (Nat × Nat)) (x : Nat × Nat) : jnP (F ++ [x]) = if F = [] then ptB x else (jnP F ++ (⟨#[46]⟩ : ByteArray)) ++ ptB x := by
  unfold jnP jnB
  rw [List.map_append, List.map_append, List.map_singleton, List.map_singleton, join_snoc]
  by_cases h : F = []
  · subst h
    rw [if_pos (show List.map _ (List.map ptB []) = [] from rfl), if_pos rfl]
  · rw [if_neg h, if_neg (by simp [h])]
    apply ByteArray.ext
    rw [ByteArray.data_append, ByteArray.data_append]
    simp [List.append_assoc]
theorem ptB_size (x : Nat × Nat) (h : x.1 ≤ 10000 ∧ x.2 ≤ 10000) : (ptB x).size ≤ 20010 ∧ 1 ≤ (ptB x).size + 1 := by
  unfold ptB
  have a := itB_size x.1
  have b := itB_size x.2
  split
  · rw [ByteArray.size_append, ByteArray.size_append]
    have : (⟨#[94]⟩ : ByteArray).size = 1 := rfl
    omega
  · omega
theorem jnP_size : ∀ (n : Nat) (F : List (Nat × Nat)), F.length = n → (∀ x ∈ F, x.1 ≤ 10000 ∧ x.2 ≤ 10000) → (jnP F).size ≤ n * 20011 := by
  intro n
  induction n with
  | zero =>
    intro F hF _
    have : F = [] := List.length_eq_zero_iff.1 hF
    subst this
    rw [jnP_nil]; decide
  | succ n ih =>
    intro F hF h
    rcases List.eq_nil_or_concat F with e | ⟨G, x, e⟩
    · subst e; cases hF
    · rw [List.concat_eq_append] at e
      subst e
      rw [List.length_append, List.length_singleton] at hF
      have i := ih G (by omega) (fun y hy => h y (List.mem_append_left _ hy))
      have p := ptB_size x (h x (by simp))
      rw [jnP_snoc]
      split
      · omega
      · rw [ByteArray.size_append, ByteArray.size_append]
        have : (⟨#[46]⟩ : ByteArray).size = 1 := rfl
        omega
theorem itB_pos (m : Nat) : 1 ≤ (itB (m : Int)).size := by
  rw [itB_nat]
  show 1 ≤ (Lib.decDigits m).toArray.size
  rw [List.size_toArray]
  by_cases h : m < 10
  · rw [dec_one m h]; simp
  · rw [dec_more m h, List.length_append]; simp
theorem ptB_pos (x : Nat × Nat) : 1 ≤ (ptB x).size := by
  unfold ptB
  have a := itB_pos x.1
  split
  · rw [ByteArray.size_append]; omega
  · exact a
theorem jnP_pos (F : List (Nat × Nat)) (h : F ≠ []) : 1 ≤ (jnP F).size := by
  rcases List.eq_nil_or_concat F with e | ⟨G, x, e⟩
  · exact absurd e h
  · rw [List.concat_eq_append] at e
    subst e
    have p := ptB_pos x
    rw [jnP_snoc]
    split
    · exact p
    · rw [ByteArray.size_append]; omega
theorem ev_iText_l (n : Nat) (hn : 1 ≤ n ∧ n ≤ 10000) (h2 : fac 2 n ≠ []) : ∀ (d i : Nat), i + d = (fac 2 n).length →
    Ev (fun k => impl_FactorText.l0 k (((fac 2 n).take i).map ptB) (rowsF (fac 2 n)) ((fac 2 n).length : Int) (i : Int)) (jnP (fac 2 n)) := by
  intro d
  have hfl := fac_length_le n hn.1
  have sm : ∀ x ∈ fac 2 n, x.1 ≤ 10000 ∧ x.2 ≤ 10000 := fun x hx => by
    obtain ⟨p, j⟩ := x
    have a := fac_times_le n hn.1 p j hx
    show p ≤ 10000 ∧ j ≤ 10000
    omega
  induction d with
  | zero =>
    intro i hi
    refine Ev.step (fun k => by rw [impl_FactorText.l0]) ?_
    have c : ¬ (i : Int) < ((fac 2 n).length : Int) := by omega
    rw [List.take_of_length_le (by omega)]
    have sz := jnP_size _ (fac 2 n) rfl sm
    have e : strings_Join.f ((fac 2 n).map ptB) (⟨#[46]⟩ : ByteArray) = some (jnP (fac 2 n)) := by
      unfold strings_Join.f
      rw [if_pos]
      · rfl
      · refine ⟨by simpa using h2, by rw [List.length_map]; omega, ?_⟩
        have : (jnP (fac 2 n)).size = (Lib.join (((fac 2 n).map ptB).map (·.data.toList)) (⟨#[46]⟩ : ByteArray).data.toList).length := by
          show (List.toArray _).size = _
          rw [List.size_toArray]
        omega
    simp only [if_neg c, e, Option.bind_some]
    exact Ev.now _
  | succ d ih =>
    intro i hi
    have hx := getF_mem (fac 2 n) i (by omega)
    have hrow := rdrow (fac 2 n) i (by omega)
    have st : (fac 2 n).take (i + 1) = (fac 2 n).take i ++ [(fac 2 n).getD i (0, 0)] := by
      rw [List.take_succ_eq_append_getElem (by omega), List.getD_eq_getElem?_getD, List.getElem?_eq_getElem (by omega)]; rfl
    have ih' := ih (i + 1) (by omega)
    rw [st, List.map_append, List.map_singleton] at ih'
    have sx := sm _ hx
    generalize (fac 2 n).getD i (0, 0) = x at *
    obtain ⟨p, j⟩ := x
    have sp := itB_size p
    have sj := itB_size j
    have L0 : 0 < (([(p : Int), (j : Int)] : List Int).length : Int) := by simp
    have L1 : 1 < (([(p : Int), (j : Int)] : List Int).length : Int) := by simp
    have c : (i : Int) < ((fac 2 n).length : Int) := by omega
    have cr : (i : Int) < ((rowsF (fac 2 n)).length : Int) := by rw [rowsF_length]; omega
    have c1 : 0 ≤ (i : Int) := by omega
    have lt : (((fac 2 n).take i).map ptB).length < 8796093022208 := by rw [List.length_map, List.length_take]; omega
    have it : ∀ m : Nat, m ≤ 10000 → strconv_Itoa_18.f (m : Int) = some (itB (m : Int)) := fun m hm => by
      unfold strconv_Itoa_18.f; rw [if_pos (by omega)]
    have e94 : (⟨#[94]⟩ : ByteArray).size = 1 := rfl
    refine Ev.step (fun k => by rw [impl_FactorText.l0]) ?_
    simp only [if_pos c, if_pos c1, if_pos cr, hrow, if_pos L0, rd_two0, rd_two1, if_pos L1, it p (by omega), it j (by omega), Option.bind_some, w64 (x := (i : Int) + 1) (by omega)]
    by_cases g : 1 < j
    · have g1 : (j : Int) > 1 := by omega
      have s1 : 1 + (itB (j : Int)).size ≤ 9223372036854775807 := by omega
      have s2 : (itB (p : Int)).size + ((⟨#[94]⟩ : ByteArray) ++ itB (j : Int)).size ≤ 9223372036854775807 := by rw [ByteArray.size_append]; omega
      simp only [if_pos g1, if_pos s1, if_pos s2, if_pos lt]
      have e : ptB (p, j) = itB (p : Int) ++ ((⟨#[94]⟩ : ByteArray) ++ itB (j : Int)) := by unfold ptB; rw [if_pos g]
      rw [e] at ih'
      exact ih'
    · have g1 : ¬ (j : Int) > 1 := by omega
      simp only [if_neg g1, if_pos lt]
      have e : ptB (p, j) = itB (p : Int) := by unfold ptB; rw [if_neg g]
      rw [e] at ih'
      exact ih'
theorem fac_small (n : Nat) (h : 1 ≤ n ∧ n ≤ 10000) : ∀ x ∈ fac 2 n, x.1 ≤ 10000 ∧ x.2 ≤ 10000 := fun x hx => by
  obtain ⟨p, j⟩ := x
  have a := fac_times_le n h.1 p j hx
  show p ≤ 10000 ∧ j ≤ 10000
  omega
theorem take_snoc (F : List (Nat × Nat)) (i : Nat) (h : i < F.length) : F.take (i + 1) = F.take i ++ [F.getD i (0, 0)] := by
  rw [List.take_succ_eq_append_getElem h, List.getD_eq_getElem?_getD, List.getElem?_eq_getElem h]; rfl
theorem ev_sText_l (n : Nat) (hn : 1 ≤ n ∧ n ≤ 10000) (h2 : fac 2 n ≠ []) : ∀ (d i : Nat), i + d = (fac 2 n).length →
    Ev (fun k => spec_FactorText.l0 k (jnP ((fac 2 n).take i)) (rowsF (fac 2 n)) (i : Int)) (jnP (fac 2 n)) := by
  intro d
  have hfl := fac_length_le n hn.1
  have sm := fac_small n hn
  induction d with
  | zero =>
    intro i hi
    refine Ev.step (fun k => by rw [spec_FactorText.l0]) ?_
    have c : ¬ (i : Int) < ((rowsF (fac 2 n)).length : Int) := by rw [rowsF_length]; omega
    rw [List.take_of_length_le (by omega)]
    have ne : ¬ (jnP (fac 2 n)).toList = ([] : List UInt8) := fun h => by
      have p := jnP_pos (fac 2 n) h2
      exact toList_pos _ p h
    simp only [if_neg c, if_neg ne]
    exact Ev.now _
  | succ d ih =>
    intro i hi
    have hx := getF_mem (fac 2 n) i (by omega)
    have hrow := rdrow (fac 2 n) i (by omega)
    have st := take_snoc (fac 2 n) i (by omega)
    have ih' := ih (i + 1) (by omega)
    rw [st, jnP_snoc] at ih'
    have sz := jnP_size i ((fac 2 n).take i) (by rw [List.length_take]; omega) (fun y hy => sm y (List.mem_of_mem_take hy))
    have sx := sm _ hx
    generalize (fac 2 n).getD i (0, 0) = x at *
    obtain ⟨p, j⟩ := x
    have sp := itB_size p
    have sj := itB_size j
    have L0 : 0 < (([(p : Int), (j : Int)] : List Int).length : Int) := by simp
    have L1 : 1 < (([(p : Int), (j : Int)] : List Int).length : Int) := by simp
    have c : (i : Int) < ((rowsF (fac 2 n)).length : Int) := by rw [rowsF_length]; omega
    have c1 : 0 ≤ (i : Int) := by omega
    have e94 : (⟨#[94]⟩ : ByteArray).size = 1 := rfl
    have e46 : (⟨#[46]⟩ : ByteArray).size = 1 := rfl
    have part : ∀ acc : ByteArray, acc.size ≤ 1000000000000 → Ev (fun k => spec_FactorText.l0 k (acc ++ ptB (p, j)) (rowsF (fac 2 n)) ((i + 1 : Nat) : Int)) (jnP (fac 2 n)) →
        Ev (fun k => spec_FactorText.j1 k acc (rowsF (fac 2 n)) (i : Int)) (jnP (fac 2 n)) := fun acc ha hE => by
      refine Ev.step (fun k => by rw [spec_FactorText.j1]) ?_
      simp only [if_pos c1, if_pos c, hrow, if_pos L0, rd_two0, rd_two1, if_pos L1, w64 (x := (i : Int) + 1) (by omega)]
      refine Ev.bind (ev_l1Number p (by omega)) ?_
      have s1 : acc.size + (itB (p : Int)).size ≤ 9223372036854775807 := by omega
      simp only [if_pos s1]
      by_cases g : 1 < j
      · have g1 : (j : Int) > 1 := by omega
        have s2 : (acc ++ itB (p : Int)).size + 1 ≤ 9223372036854775807 := by rw [ByteArray.size_append]; omega
        simp only [if_pos g1, if_pos s2]
        refine Ev.bind (ev_l1Number j (by omega)) ?_
        have s3 : ((acc ++ itB (p : Int)) ++ (⟨#[94]⟩ : ByteArray)).size + (itB (j : Int)).size ≤ 9223372036854775807 := by rw [ByteArray.size_append, ByteArray.size_append]; omega
        simp only [if_pos s3]
        have e : ptB (p, j) = itB (p : Int) ++ ((⟨#[94]⟩ : ByteArray) ++ itB (j : Int)) := by unfold ptB; rw [if_pos g]
        rw [e, ← ByteArray.append_assoc, ← ByteArray.append_assoc] at hE
        exact hE
      · have g1 : ¬ (j : Int) > 1 := by omega
        simp only [if_neg g1]
        have e : ptB (p, j) = itB (p : Int) := by unfold ptB; rw [if_neg g]
        rw [e] at hE
        exact hE
    refine Ev.step (fun k => by rw [spec_FactorText.l0]) ?_
    simp only [if_pos c]
    by_cases i0 : i = 0
    · have c2 : ¬ (i : Int) > 0 := by omega
      simp only [if_neg c2]
      subst i0
      rw [List.take_zero, if_pos rfl] at ih'
      rw [List.take_zero, jnP_nil]
      refine part _ (by decide) ?_
      rw [show (⟨#[]⟩ : ByteArray) ++ ptB (p, j) = ptB (p, j) from by apply ByteArray.ext; simp]
      exact ih'
    · have c2 : (i : Int) > 0 := by omega
      have s0 : (jnP ((fac 2 n).take i)).size + 1 ≤ 9223372036854775807 := by omega
      simp only [if_pos c2, if_pos s0]
      rw [if_neg (fun h => by
        have := congrArg List.length h
        rw [List.length_take, List.length_nil] at this; omega)] at ih'
      exact part _ (by rw [ByteArray.size_append]; omega) ih'

theorem fac_ne (n : Nat) (h : 2 ≤ n) : fac 2 n ≠ [] := fun e => by
  have := prodF_fac n (by omega)
  rw [e] at this
  have z : prodF [] = 1 := rfl
  omega
theorem ev_sText (n : Int) : Ev (fun k => spec_FactorText.f k n) (txB n) := by
  unfold spec_FactorText.f txB
  simp only [l1In_f, Option.bind_some, decide_eq_true_eq]
  by_cases h : 1 ≤ n ∧ n ≤ 10000
  · obtain ⟨m, rfl⟩ := Int.eq_ofNat_of_zero_le (show 0 ≤ n by omega)
    simp only [if_pos h]
    refine Ev.bind (ev_sFactorsOf m (by omega) (by omega)) ?_
    by_cases h1 : m = 1
    · subst h1
      have e : fac 2 1 = [] := fac_one
      rw [e]
      refine Ev.step (fun k => by rw [spec_FactorText.l0]) ?_
      have c0 : ¬ (0 : Int) < ((rowsF []).length : Int) := by decide
      have tl : (⟨#[]⟩ : ByteArray).toList = ([] : List UInt8) := by
        unfold ByteArray.toList; rw [ByteArray.toList.loop, if_neg (by decide)]; rfl
      have c1 : ((1 : Nat) : Int) = 1 := rfl
      simp only [if_neg c0, tl, if_true, if_pos c1]
      exact Ev.now _
    · have c : ¬ (m : Int) = 1 := by omega
      rw [if_neg c, Int.toNat_natCast]
      have z := ev_sText_l m (by omega) (fac_ne m (by omega)) (fac 2 m).length 0 (by omega)
      rw [List.take_zero, jnP_nil] at z
      exact z
  · simp only [if_neg h]; exact Ev.now _
theorem ev_iText (n : Int) : Ev (fun k => impl_FactorText.f k n) (txB n) := by
  unfold impl_FactorText.f txB
  simp only [numberOk_f, Option.bind_some, decide_eq_true_eq]
  by_cases h : 1 ≤ n ∧ n ≤ 10000
  · obtain ⟨m, rfl⟩ := Int.eq_ofNat_of_zero_le (show 0 ≤ n by omega)
    simp only [if_pos h]
    by_cases h1 : (m : Int) = 1
    · simp only [if_pos h1]; exact Ev.now _
    · simp only [if_neg h1, Int.toNat_natCast]
      refine Ev.bind (ev_factors m (by omega) (by omega)) ?_
      have z := ev_iText_l m (by omega) (fac_ne m (by omega)) (fac 2 m).length 0 (by omega)
      rw [rowsF_length]
      exact z
  · simp only [if_neg h]; exact Ev.now _
theorem FnExactFactorText : laws_FnExactFactorText.Pure := by
  intro n hn
  apply Ev.k
  unfold laws_FnExactFactorText.f
  refine Ev.bind (ev_sText n) (Ev.bind (ev_iText n) ?_)
  simp only [if_true]
  exact Ev.now _

end Go.Proofs.YtcihlmfjbfgfoaaDoor.Pure
