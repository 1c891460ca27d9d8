/- A drawn text is read alike by the program and the reference; what is read is the number whose text it is, and with a point behind it it is read no more. -/
import Derived.Test.YtcihlmfjbfgfoaaDoorPFnReadFactorsx0
import Derived.Test.YtcihlmfjbfgfoaaDoorPFnReadFactorsx1
import Derived.Test.YtcihlmfjbfgfoaaDoorPFnReadFactorsx2
import Derived.Test.YtcihlmfjbfgfoaaDoorPFnReadFactorsx3
import Derived.Test.YtcihlmfjbfgfoaaDoorPFnReadFactorsx4
import Derived.Test.YtcihlmfjbfgfoaaDoorPFnReadFactorsx5
import Derived.Test.YtcihlmfjbfgfoaaDoorPFnReadFactorsx6
import Derived.Test.YtcihlmfjbfgfoaaDoorM1
import Derived.Test.YtcihlmfjbfgfoaaDoorM2
import Derived.Test.YtcihlmfjbfgfoaaDoorWSized
namespace Go.Proofs.YtcihlmfjbfgfoaaDoor.Pure
open Go.RowKit Go.Proofs.YtcihlmfjbfgfoaaDoor.PFnReadFactors Go.Proofs.YtcihlmfjbfgfoaaDoorW.PrintWords Go.Proofs.YtcihlmfjbfgfoaaDoorW.PrintLast Go.Proofs.YtcihlmfjbfgfoaaDoorW.PrintMore Go.Proofs.YtcihlmfjbfgfoaaDoor.Math Go.Proofs.YtcihlmfjbfgfoaaDoor.Clos
set_option linter.unusedVariables false
set_option linter.unusedSimpArgs false
theorem w64 {x : Int} (h : -9223372036854775808 ≤ x ∧ x ≤ 9223372036854775807) : wrap64 x = x := by unfold wrap64; omega
theorem Ev.k {α : Type} {g : Nat → Option α} {r : α} (h : Ev g r) : ∃ k, g k = some r := Ev.rounds h
theorem Ev.to {α : Type} {g : Nat → Option α} {r s : α} (h : Ev g r) (e : r = s) : Ev g s := e ▸ h
theorem Ev.ret {α : Type} {r s : α} (e : r = s) : Ev (fun _ => some r) s := e ▸ Ev.now r

theorem itB_nat (m : Nat) : itB (m : Int) = ⟨(Lib.decDigits m).toArray⟩ := by
  unfold itB Lib.itoa
  rw [if_neg (by omega), Int.toNat_natCast]
theorem dec_one (m : Nat) (h : m < 10) : Lib.decDigits m = [UInt8.ofNat (48 + m)] := by
  rw [Lib.decDigits, dif_pos h]
theorem dec_more (m : Nat) (h : ¬ m < 10) : Lib.decDigits m = Lib.decDigits (m / 10) ++ [UInt8.ofNat (48 + m % 10)] := by
  rw [Lib.decDigits, dif_neg h]
theorem itB_size (m : Nat) : (itB (m : Int)).size ≤ m + 1 := by
  rw [itB_nat]
  show (Lib.decDigits m).toArray.size ≤ m + 1
  rw [List.size_toArray]
  induction m using Nat.strongRecOn with
  | _ m ih =>
    by_cases h : m < 10
    · rw [dec_one m h]; simp
    · rw [dec_more m h, List.length_append]
      have := ih (m / 10) (by omega)
      simp only [List.length_cons, List.length_nil]
      omega
theorem ev_l1Number (m : Nat) (hm : m ≤ 100000) : Ev (fun k => spec_l1Number.f k (m : Int)) (itB (m : Int)) := by
  induction m using Nat.strongRecOn with
  | _ m ih =>
    refine Ev.step (fun k => by rw [spec_l1Number.f]) ?_
    have c0 : ¬ (m : Int) < 0 := by omega
    simp only [if_neg c0]
    refine Ev.step (fun k => by rw [spec_l1Number.j0]) ?_
    simp only [Bool.false_eq_true, if_false, if_neg c0]
    by_cases h : m < 10
    · have c1 : (m : Int) < 10 := by omega
      simp only [if_pos c1]
      refine Ev.ret ?_
      rw [itB_nat, dec_one m h, w64 (by omega)]
      have : ∀ d : Nat, d < 10 → strOfNums [((48 : Int) + (d : Int)) % 256] = ⟨[UInt8.ofNat (48 + d)].toArray⟩ := by decide
      exact this m h
    · have c1 : ¬ (m : Int) < 10 := by omega
      simp only [if_neg c1, ← Int.ofNat_tdiv, ← Int.ofNat_tmod]
      have e10 : Int.tdiv (m : Int) 10 = ((m / 10 : Nat) : Int) := by rw [Int.ofNat_tdiv]; rfl
      have r10 : Int.tmod (m : Int) 10 = ((m % 10 : Nat) : Int) := by rw [Int.ofNat_tmod]; rfl
      simp only [e10, r10, w64 (x := ((m / 10 : Nat) : Int)) (by omega)]
      refine Ev.bind (ih (m / 10) (by omega) (by omega)) ?_
      have sz := itB_size (m / 10)
      have d10 : m % 10 < 10 := Nat.mod_lt _ (by omega)
      have one : strOfNums [(wrap64 (48 + ((m % 10 : Nat) : Int))) % 256] = ⟨[UInt8.ofNat (48 + m % 10)].toArray⟩ := by
        rw [w64 (by omega)]
        have : ∀ d : Nat, d < 10 → strOfNums [((48 : Int) + (d : Int)) % 256] = ⟨[UInt8.ofNat (48 + d)].toArray⟩ := by decide
        exact this (m % 10) d10
      simp only [Option.bind_some, one]
      have c2 : (itB ((m / 10 : Nat) : Int)).size + (⟨[UInt8.ofNat (48 + m % 10)].toArray⟩ : ByteArray).size ≤ 9223372036854775807 := by
        have : (⟨[UInt8.ofNat (48 + m % 10)].toArray⟩ : ByteArray).size = 1 := rfl
        omega
      simp only [if_pos c2]
      refine Ev.ret ?_
      rw [itB_nat, itB_nat, dec_more m h]
      apply ByteArray.ext
      rw [ByteArray.data_append]
      simp

/-- Natural numbers as the program's numbers. -/
def ints (l : List Nat) : List Int := l.map (fun x : Nat => (x : Int))
theorem ints_length (l : List Nat) : (ints l).length = l.length := by simp [ints]
theorem ints_append (l m : List Nat) : ints (l ++ m) = ints l ++ ints m := by simp [ints]
theorem ints_reverse (l : List Nat) : (ints l).reverse = ints l.reverse := by simp [ints]

/-- Factors as the program tells them: rows of two numbers. -/
def rowsF (L : List (Nat × Nat)) : List (List Int) := L.map (fun x : Nat × Nat => [(x.1 : Int), (x.2 : Int)])
theorem rowsF_length (L : List (Nat × Nat)) : (rowsF L).length = L.length := by simp [rowsF]

theorem rdrow (L : List (Nat × Nat)) (i : Nat) (h : i < L.length) : rd_L1 (rowsF L) (i : Int) = [((L.getD i (0, 0)).1 : Int), ((L.getD i (0, 0)).2 : Int)] := by
  show (rowsF L).getD i [] = _
  unfold rowsF
  simp only [List.getD_eq_getElem?_getD, List.getElem?_map, List.getElem?_eq_getElem h, Option.map_some, Option.getD_some]
theorem dropF (L : List (Nat × Nat)) (i : Nat) (h : i < L.length) : L.drop i = L.getD i (0, 0) :: L.drop (i + 1) := by
  rw [List.drop_eq_getElem_cons h]; simp [List.getD_eq_getElem?_getD, List.getElem?_eq_getElem h]
theorem rd_two0 (a b : Int) : rd [a, b] 0 = a := rfl
theorem rd_two1 (a b : Int) : rd [a, b] 1 = b := rfl
theorem getF_mem (L : List (Nat × Nat)) (i : Nat) (h : i < L.length) : L.getD i (0, 0) ∈ L := by
  rw [List.getD_eq_getElem?_getD, List.getElem?_eq_getElem h]; exact List.getElem_mem _

theorem ev_fac_l1 (out : List (List Int)) (hout : out.length ≤ 1000000) (p : Nat) (hp : 2 ≤ p ∧ p ≤ 10000) (r : List (List Int)) (t m : Nat) (hm : m % p ≠ 0) (h1 : 1 ≤ m ∧ m ≤ 10000)
    (hN : Ev (fun k => impl_factors.l0 k (m : Int) (if t = 0 then out else out ++ [[(p : Int), (t : Int)]]) ((p + 1 : Nat) : Int)) r) :
    ∀ (j c : Nat), c + j = t → p ^ j * m ≤ 10000 → t ≤ 10000 →
    Ev (fun k => impl_factors.l1 k ((p ^ j * m : Nat) : Int) out (p : Int) (c : Int)) r := by
  intro j
  induction j with
  | zero =>
    intro c hc hb ht
    refine Ev.step (fun k => by rw [impl_factors.l1]) ?_
    have c0 : ¬ (p : Int) = 0 := by omega
    have c1 : ¬ ((m % p : Nat) : Int) = 0 := by omega
    simp only [Nat.pow_zero, Nat.one_mul, if_neg c0, ← Int.ofNat_tmod, if_neg c1, w64 (x := (p : Int) + 1) (by omega)]
    have e : c = t := by omega
    subst e
    by_cases z : c = 0
    · have c2 : ¬ (c : Int) > 0 := by omega
      rw [if_pos z] at hN
      simp only [if_neg c2]; exact hN
    · have c2 : (0 : Int) < (c : Int) := by omega
      have c3 : out.length < 5864062014805 := by omega
      rw [if_neg z] at hN
      simp only [gt_iff_lt, if_pos c2, if_pos c3]; exact hN
  | succ j ih =>
    intro c hc hb ht
    refine Ev.step (fun k => by rw [impl_factors.l1]) ?_
    have e : p ^ (j + 1) * m = p * (p ^ j * m) := by rw [Nat.pow_succ, Nat.mul_comm (p ^ j) p, Nat.mul_assoc]
    have c0 : ¬ (p : Int) = 0 := by omega
    have c1 : ((p ^ (j + 1) * m % p : Nat) : Int) = 0 := by rw [e, Nat.mul_mod_right]; rfl
    have c2 : p ^ (j + 1) * m / p = p ^ j * m := by rw [e, Nat.mul_div_cancel_left _ (by omega)]
    have b2 : 1 * (p ^ j * m) ≤ p * (p ^ j * m) := Nat.mul_le_mul_right _ (by omega)
    simp only [if_neg c0, ← Int.ofNat_tmod, ← Int.ofNat_tdiv, if_pos c1, c2, w64 (x := ((p ^ j * m : Nat) : Int)) (by omega), w64 (x := (c : Int) + 1) (by omega)]
    exact ih (c + 1) (by omega) (by omega) ht
theorem ev_fac_one (out : List (List Int)) (p : Int) : Ev (fun k => impl_factors.l0 k 1 out p) out := by
  refine Ev.step (fun k => by rw [impl_factors.l0]) ?_
  have c : ¬ (1 : Int) > 1 := by omega
  simp only [if_neg c]
  exact Ev.now _
theorem ev_fac_l0 : ∀ (d p n : Nat) (out : List (List Int)), p + d = 102 → 2 ≤ p → 1 ≤ n → n ≤ 10000 → out.length ≤ p → NoLow p n →
    Ev (fun k => impl_factors.l0 k (n : Int) out (p : Int)) (out ++ rowsF (fac p n)) := by
  intro d
  induction d with
  | zero =>
    intro p n out hd hp h1 hn ho hl
    by_cases c : n = 1
    · subst c; rw [fac_lt (by omega)]; simpa [rowsF] using ev_fac_one out (p : Int)
    refine Ev.step (fun k => by rw [impl_factors.l0]) ?_
    have c1 : (1 : Int) < (n : Int) := by omega
    have e : p = 102 := by omega
    subst e
    have c2 : (n : Int) < ((102 : Nat) : Int) * ((102 : Nat) : Int) := by omega
    have hpr : Pr n := pr_of_root (d := 102) (by omega) (by omega) hl
    have hf : fac 102 n = [(n, 1)] := by
      rw [← fac_skip h1 hl (by omega), fac_skip h1 (p := n) ?_ (by omega)]
      · have := fac_yes (p := n) (j := 1) (m := 1) (by omega) (by omega) (by rw [Nat.mod_eq_of_lt (by omega)]; omega) (by omega)
        rw [Nat.pow_one, Nat.mul_one] at this
        rw [this, fac_lt (by omega)]
      · intro x h2 hx e
        rcases hpr.2 x (Nat.dvd_of_mod_eq_zero e) with h | h <;> omega
    simp only [gt_iff_lt, if_pos c1, w64 (x := ((102 : Nat) : Int) * ((102 : Nat) : Int)) (by omega), if_pos c2]
    refine Ev.step (fun k => by rw [impl_factors.j1]) ?_
    rw [hf]
    have := ev_fac_l1 out (by omega) n ⟨by omega, hn⟩ (out ++ rowsF [(n, 1)]) 1 1 (by rw [Nat.mod_eq_of_lt (by omega)]; omega) (by omega) (by simpa [rowsF] using ev_fac_one (out ++ [[(n : Int), 1]]) ((n : Int) + 1)) 1 0 (by omega) (by rw [Nat.pow_one]; omega) (by omega)
    rw [Nat.pow_one, Nat.mul_one] at this
    exact this
  | succ d ih =>
    intro p n out hd hp h1 hn ho hl
    by_cases c : n = 1
    · subst c; rw [fac_lt (by omega)]; simpa [rowsF] using ev_fac_one out (p : Int)
    refine Ev.step (fun k => by rw [impl_factors.l0]) ?_
    have c1 : (1 : Int) < (n : Int) := by omega
    have pp : p * p ≤ 101 * 101 := Nat.mul_le_mul (by omega) (by omega)
    have ep : (p : Int) * (p : Int) = ((p * p : Nat) : Int) := by simp
    simp only [gt_iff_lt, if_pos c1, ep, w64 (x := ((p * p : Nat) : Int)) (by omega)]
    by_cases hpp : n < p * p
    · have c2 : (n : Int) < ((p * p : Nat) : Int) := by omega
      have hpr : Pr n := pr_of_root (d := p) (by omega) hpp hl
      have hln : NoLow n n := fun x h2 hx e => by
        rcases hpr.2 x (Nat.dvd_of_mod_eq_zero e) with h | h <;> omega
      have hf : fac p n = [(n, 1)] := by
        rw [← fac_skip h1 hl hp, fac_skip h1 (p := n) hln (by omega)]
        have := fac_yes (p := n) (j := 1) (m := 1) (by omega) (by omega) (by rw [Nat.mod_eq_of_lt (by omega)]; omega) (by omega)
        rw [Nat.pow_one, Nat.mul_one] at this
        rw [this, fac_lt (by omega)]
      simp only [if_pos c2]
      refine Ev.step (fun k => by rw [impl_factors.j1]) ?_
      rw [hf]
      have := ev_fac_l1 out (by omega) n ⟨by omega, hn⟩ (out ++ rowsF [(n, 1)]) 1 1 (by rw [Nat.mod_eq_of_lt (by omega)]; omega) (by omega) (by simpa [rowsF] using ev_fac_one (out ++ [[(n : Int), 1]]) ((n : Int) + 1)) 1 0 (by omega) (by rw [Nat.pow_one]; omega) (by omega)
      rw [Nat.pow_one, Nat.mul_one] at this
      exact this
    · have c2 : ¬ (n : Int) < ((p * p : Nat) : Int) := by omega
      simp only [if_neg c2]
      refine Ev.step (fun k => by rw [impl_factors.j1]) ?_
      obtain ⟨j, m, e, hm, hm1⟩ := exists_strip p hp n h1
      have hj : j < p ^ j := Nat.lt_pow_self (by omega)
      have b1 : p ^ j * 1 ≤ p ^ j * m := Nat.mul_le_mul_left _ hm1
      have b2 : 1 * m ≤ p ^ j * m := Nat.mul_le_mul_right _ (Nat.pow_pos (by omega))
      have hlm : NoLow (p + 1) m := (hl.of_dvd (by rw [e]; exact dvd_pow_mul p j m)).succ hm
      have ihm := ih (p + 1) m (if j = 0 then out else out ++ [[(p : Int), (j : Int)]]) (by omega) (by omega) hm1 (by omega) (by split <;> (try simp) <;> omega) hlm
      have main := ev_fac_l1 out (by omega) p ⟨hp, by omega⟩ _ j m hm ⟨hm1, by omega⟩ ihm j 0 (by omega) (by omega) (by omega)
      rw [← e] at main
      refine Ev.to main ?_
      by_cases z : j = 0
      · subst z
        rw [Nat.pow_zero, Nat.one_mul] at e
        subst e
        rw [if_pos rfl, ← fac_no hp h1 hm]
      · rw [if_neg z, e, fac_yes hp (by omega) hm hm1]; simp [rowsF]
theorem ev_factors (n : Nat) (h1 : 1 ≤ n) (hn : n ≤ 10000) : Ev (fun k => impl_factors.f k (n : Int)) (rowsF (fac 2 n)) := by
  unfold impl_factors.f
  exact ev_fac_l0 100 2 n [] (by omega) (by omega) h1 hn (by simp) (NoLow.two n)

theorem l1In_f (a b c : Int) : spec_l1In.f a b c = some (decide (b ≤ a ∧ a ≤ c)) := by
  unfold spec_l1In.f
  by_cases h : a ≥ b
  · rw [if_pos h]; simp [show b ≤ a from h]
  · rw [if_neg h]; simp [show ¬ b ≤ a from h]

theorem ev_sfac_l1 (x0 : Int) (out : List (List Int)) (hout : out.length ≤ 1000000) (p : Nat) (hp : 2 ≤ p ∧ p ≤ 10000) (r : List (List Int)) (t m : Nat) (hm : m % p ≠ 0) (h1 : 1 ≤ m ∧ m ≤ 10000)
    (hN : Ev (fun k => spec_FactorsOf.l0 k x0 (if t = 0 then out else out ++ [[(p : Int), (t : Int)]]) (m : Int) ((p + 1 : Nat) : Int)) r) :
    ∀ (j c : Nat), c + j = t → p ^ j * m ≤ 10000 → t ≤ 10000 →
    Ev (fun k => spec_FactorsOf.l1 k x0 out ((p ^ j * m : Nat) : Int) (p : Int) (c : Int)) r := by
  intro j
  induction j with
  | zero =>
    intro c hc hb ht
    refine Ev.step (fun k => by rw [spec_FactorsOf.l1]) ?_
    have c0 : ¬ (p : Int) = 0 := by omega
    have c1 : ¬ ((m % p : Nat) : Int) = 0 := by omega
    simp only [Nat.pow_zero, Nat.one_mul, if_neg c0, ← Int.ofNat_tmod, if_neg c1, w64 (x := (p : Int) + 1) (by omega)]
    have e : c = t := by omega
    subst e
    by_cases z : c = 0
    · have c2 : ¬ (c : Int) > 0 := by omega
      rw [if_pos z] at hN
      simp only [if_neg c2]; exact hN
    · have c2 : (0 : Int) < (c : Int) := by omega
      have c3 : out.length < 5864062014805 := by omega
      rw [if_neg z] at hN
      simp only [gt_iff_lt, if_pos c2, if_pos c3]; exact hN
  | succ j ih =>
    intro c hc hb ht
    refine Ev.step (fun k => by rw [spec_FactorsOf.l1]) ?_
    have e : p ^ (j + 1) * m = p * (p ^ j * m) := by rw [Nat.pow_succ, Nat.mul_comm (p ^ j) p, Nat.mul_assoc]
    have c0 : ¬ (p : Int) = 0 := by omega
    have c1 : ((p ^ (j + 1) * m % p : Nat) : Int) = 0 := by rw [e, Nat.mul_mod_right]; rfl
    have c2 : p ^ (j + 1) * m / p = p ^ j * m := by rw [e, Nat.mul_div_cancel_left _ (by omega)]
    have b2 : 1 * (p ^ j * m) ≤ p * (p ^ j * m) := Nat.mul_le_mul_right _ (by omega)
    simp only [if_neg c0, ← Int.ofNat_tmod, ← Int.ofNat_tdiv, if_pos c1, c2, w64 (x := ((p ^ j * m : Nat) : Int)) (by omega), w64 (x := (c : Int) + 1) (by omega)]
    exact ih (c + 1) (by omega) (by omega) ht
theorem ev_sfac_l0 (x0 : Int) (hx : 1 ≤ x0 ∧ x0 ≤ 10000) : ∀ (d p n : Nat) (out : List (List Int)), p + d = 10002 → 2 ≤ p → 1 ≤ n → n ≤ 10000 → out.length ≤ p →
    Ev (fun k => spec_FactorsOf.l0 k x0 out (n : Int) (p : Int)) (out ++ rowsF (fac p n)) := by
  intro d
  have stop : ∀ (p n : Nat) (out : List (List Int)), n < p → Ev (fun k => spec_FactorsOf.l0 k x0 out (n : Int) (p : Int)) (out ++ rowsF (fac p n)) := by
    intro p n out h
    refine Ev.step (fun k => by rw [spec_FactorsOf.l0]) ?_
    have c : ¬ (p : Int) ≤ (n : Int) := by omega
    simp only [if_neg c]
    refine Ev.step (fun k => by rw [spec_FactorsOf.j1]) ?_
    simp only [Bool.false_eq_true, if_false]
    rw [fac_lt h]
    exact Ev.ret (by simp [rowsF])
  induction d with
  | zero =>
    intro p n out hd hp h1 hn ho
    exact stop p n out (by omega)
  | succ d ih =>
    intro p n out hd hp h1 hn ho
    by_cases c : n < p
    · exact stop p n out c
    refine Ev.step (fun k => by rw [spec_FactorsOf.l0]) ?_
    have c1 : (p : Int) ≤ (n : Int) := by omega
    simp only [if_pos c1, l1In_f, Option.bind_some, decide_eq_true hx]
    refine Ev.step (fun k => by rw [spec_FactorsOf.j1]) ?_
    simp only [if_true]
    obtain ⟨j, m, e, hm, hm1⟩ := exists_strip p hp n h1
    have hj : j < p ^ j := Nat.lt_pow_self (by omega)
    have b1 : p ^ j * 1 ≤ p ^ j * m := Nat.mul_le_mul_left _ hm1
    have b2 : 1 * m ≤ p ^ j * m := Nat.mul_le_mul_right _ (Nat.pow_pos (by omega))
    have ihm := ih (p + 1) m (if j = 0 then out else out ++ [[(p : Int), (j : Int)]]) (by omega) (by omega) hm1 (by omega) (by split <;> (try simp) <;> omega)
    have main := ev_sfac_l1 x0 out (by omega) p ⟨hp, by omega⟩ _ j m hm ⟨hm1, by omega⟩ ihm j 0 (by omega) (by omega) (by omega)
    rw [← e] at main
    refine Ev.to main ?_
    by_cases z : j = 0
    · subst z
      rw [Nat.pow_zero, Nat.one_mul] at e
      subst e
      rw [if_pos rfl, ← fac_no hp h1 hm]
    · rw [if_neg z, e, fac_yes hp (by omega) hm hm1]; simp [rowsF]
theorem ev_sFactorsOf (n : Nat) (h1 : 1 ≤ n) (hn : n ≤ 10000) : Ev (fun k => spec_FactorsOf.f k (n : Int)) (rowsF (fac 2 n)) := by
  unfold spec_FactorsOf.f
  exact ev_sfac_l0 (n : Int) (by omega) 10000 2 n [] (by omega) (by omega) h1 hn (by simp)
theorem ev_sFactorsOf_no {n : Int} (h : ¬ (1 ≤ n ∧ n ≤ 10000)) : Ev (fun k => spec_FactorsOf.f k n) [] := by
  unfold spec_FactorsOf.f
  refine Ev.step (fun k => by rw [spec_FactorsOf.l0]) ?_
  have no : Ev (fun k => spec_FactorsOf.j1 k n [] n 2 false) [] := by
    refine Ev.step (fun k => by rw [spec_FactorsOf.j1]) ?_
    simp only [Bool.false_eq_true, if_false]; exact Ev.now _
  by_cases c : (2 : Int) ≤ n
  · simp only [if_pos c, l1In_f, Option.bind_some, decide_eq_false h]; exact no
  · simp only [if_neg c]; exact no

theorem numberOk_f (a : Int) : impl_numberOk.f a = some (decide (1 ≤ a ∧ a ≤ 10000)) := by
  unfold impl_numberOk.f
  by_cases h : a ≥ 1
  · rw [if_pos h]; simp [show 1 ≤ a from h]
  · rw [if_neg h]; simp [show ¬ 1 ≤ a from h]

theorem loop_len (b : ByteArray) : ∀ (m i : Nat) (r : List UInt8), b.size - i = m → r.length ≤ (ByteArray.toList.loop b i r).length := by
  intro m
  induction m with
  | zero =>
    intro i r h
    rw [ByteArray.toList.loop, if_neg (by omega), List.length_reverse]
    exact Nat.le_refl _
  | succ m ih =>
    intro i r h
    rw [ByteArray.toList.loop, if_pos (by omega)]
    have := ih (i + 1) (b.get! i :: r) (by omega)
    simp only [List.length_cons] at this
    omega
theorem toList_pos (b : ByteArray) (h : 1 ≤ b.size) : b.toList ≠ [] := by
  intro e
  unfold ByteArray.toList at e
  rw [ByteArray.toList.loop, if_pos (by omega)] at e
  have := loop_len b (b.size - 1) (0 + 1) [b.get! 0] (by omega)
  rw [e] at this
  simp at this
/-- One part of a number's text: a prime, and how often. -/
def ptB (x : Nat × Nat) : ByteArray := if 1 < x.2 then itB (x.1 : Int) ++ ((⟨#[94]⟩ : ByteArray) ++ itB (x.2 : Int)) else itB (x.1 : Int)
def jnP (F : List (Nat × Nat)) : ByteArray := jnB (F.map ptB) (⟨#[46]⟩ : ByteArray)
/-- The text of a number. -/
def txB (n : Int) : ByteArray := if 1 ≤ n ∧ n ≤ 10000 then (if n = 1 then ⟨#[49]⟩ else jnP (fac 2 n.toNat)) else ⟨#[]⟩
theorem join_two (a b : List UInt8) (t : List (List UInt8)) (s : List UInt8) : Lib.join (a :: b :: t) s = a ++ (s ++ Lib.join (b :: t) s) := by
  unfold Lib.join
  simp [List.intercalate, List.intersperse]
theorem join_snoc (l : List (List UInt8)) (x s : List UInt8) : Lib.join (l ++ [x]) s = if l = [] then x else Lib.join l s ++ (s ++ x) := by
  induction l with
  | nil => simp [Lib.join, List.intercalate]
  | cons a t ih =>
    rw [if_neg (by simp)]
    cases t with
    | nil => simp [Lib.join, List.intercalate, List.intersperse]
    | cons b t =>
      rw [List.cons_append, List.cons_append, join_two, join_two]
      rw [List.cons_append] at ih
      rw [ih, if_neg (by simp)]
      simp [List.append_assoc]
theorem jnP_nil : jnP [] = ⟨#[]⟩ := by
  unfold jnP jnB Lib.join
  simp [List.intercalate]
theorem jnP_snoc (F : List (Nat × Nat)) (x : Nat × Nat) : jnP (F ++ [x]) = if F = [] then ptB x else (jnP F ++ (⟨#[46]⟩ : ByteArray)) ++ ptB x := by
  unfold jnP jnB
  rw [List.map_append, List.map_append, List.map_singleton, List.map_singleton, join_snoc]
  by_cases h : F = []
  · subst h
    rw [if_pos (show List.map _ (List.map ptB []) = [] from rfl), if_pos rfl]
  · rw [if_neg h, if_neg (by simp [h])]
    apply ByteArray.ext
    rw [ByteArray.data_append, ByteArray.data_append]
    simp [List.append_assoc]
theorem ptB_size (x : Nat × Nat) (h : x.1 ≤ 10000 ∧ x.2 ≤ 10000) : (ptB x).size ≤ 20010 ∧ 1 ≤ (ptB x).size + 1 := by
  unfold ptB
  have a := itB_size x.1
  have b := itB_size x.2
  split
  · rw [ByteArray.size_append, ByteArray.size_append]
    have : (⟨#[94]⟩ : ByteArray).size = 1 := rfl
    omega
  · omega
theorem jnP_size : ∀ (n : Nat) (F : List (Nat × Nat)), F.length = n → (∀ x ∈ F, x.1 ≤ 10000 ∧ x.2 ≤ 10000) → (jnP F).size ≤ n * 20011 := by
  intro n
  induction n with
  | zero =>
    intro F hF _
    have : F = [] := List.length_eq_zero_iff.1 hF
    subst this
    rw [jnP_nil]; decide
  | succ n ih =>
    intro F hF h
    rcases List.eq_nil_or_concat F with e | ⟨G, x, e⟩
    · subst e; cases hF
    · rw [List.concat_eq_append] at e
      subst e
      rw [List.length_append, List.length_singleton] at hF
      have i := ih G (by omega) (fun y hy => h y (List.mem_append_left _ hy))
      have p := ptB_size x (h x (by simp))
      rw [jnP_snoc]
      split
      · omega
      · rw [ByteArray.size_append, ByteArray.size_append]
        have : (⟨#[46]⟩ : ByteArray).size = 1 := rfl
        omega
theorem itB_pos (m : Nat) : 1 ≤ (itB (m : Int)).size := by
  rw [itB_nat]
  show 1 ≤ (Lib.decDigits m).toArray.size
  rw [List.size_toArray]
  by_cases h : m < 10
  · rw [dec_one m h]; simp
  · rw [dec_more m h, List.length_append]; simp
theorem ptB_pos (x : Nat × Nat) : 1 ≤ (ptB x).size := by
  unfold ptB
  have a := itB_pos x.1
  split
  · rw [ByteArray.size_append]; omega
  · exact a
theorem jnP_pos (F : List (Nat × Nat)) (h : F ≠ []) : 1 ≤ (jnP F).size := by
  rcases List.eq_nil_or_concat F with e | ⟨G, x, e⟩
  · exact absurd e h
  · rw [List.concat_eq_append] at e
    subst e
    have p := ptB_pos x
    rw [jnP_snoc]
    split
    · exact p
    · rw [ByteArray.size_append]; omega
theorem ev_iText_l (n : Nat) (hn : 1 ≤ n ∧ n ≤ 10000) (h2 : fac 2 n ≠ []) : ∀ (d i : Nat), i + d = (fac 2 n).length →
    Ev (fun k => impl_FactorText.l0 k (((fac 2 n).take i).map ptB) (rowsF (fac 2 n)) ((fac 2 n).length : Int) (i : Int)) (jnP (fac 2 n)) := by
  intro d
  have hfl := fac_length_le n hn.1
  have sm : ∀ x ∈ fac 2 n, x.1 ≤ 10000 ∧ x.2 ≤ 10000 := fun x hx => by
    obtain ⟨p, j⟩ := x
    have a := fac_times_le n hn.1 p j hx
    show p ≤ 10000 ∧ j ≤ 10000
    omega
  induction d with
  | zero =>
    intro i hi
    refine Ev.step (fun k => by rw [impl_FactorText.l0]) ?_
    have c : ¬ (i : Int) < ((fac 2 n).length : Int) := by omega
    rw [List.take_of_length_le (by omega)]
    have sz := jnP_size _ (fac 2 n) rfl sm
    have e : strings_Join.f ((fac 2 n).map ptB) (⟨#[46]⟩ : ByteArray) = some (jnP (fac 2 n)) := by
      unfold strings_Join.f
      rw [if_pos]
      · rfl
      · refine ⟨by simpa using h2, by rw [List.length_map]; omega, ?_⟩
        have : (jnP (fac 2 n)).size = (Lib.join (((fac 2 n).map ptB).map (·.data.toList)) (⟨#[46]⟩ : ByteArray).data.toList).length := by
          show (List.toArray _).size = _
          rw [List.size_toArray]
        omega
    simp only [if_neg c, e, Option.bind_some]
    exact Ev.now _
  | succ d ih =>
    intro i hi
    have hx := getF_mem (fac 2 n) i (by omega)
    have hrow := rdrow (fac 2 n) i (by omega)
    have st : (fac 2 n).take (i + 1) = (fac 2 n).take i ++ [(fac 2 n).getD i (0, 0)] := by
      rw [List.take_succ_eq_append_getElem (by omega), List.getD_eq_getElem?_getD, List.getElem?_eq_getElem (by omega)]; rfl
    have ih' := ih (i + 1) (by omega)
    rw [st, List.map_append, List.map_singleton] at ih'
    have sx := sm _ hx
    generalize (fac 2 n).getD i (0, 0) = x at *
    obtain ⟨p, j⟩ := x
    have sp := itB_size p
    have sj := itB_size j
    have L0 : 0 < (([(p : Int), (j : Int)] : List Int).length : Int) := by simp
    have L1 : 1 < (([(p : Int), (j : Int)] : List Int).length : Int) := by simp
    have c : (i : Int) < ((fac 2 n).length : Int) := by omega
    have cr : (i : Int) < ((rowsF (fac 2 n)).length : Int) := by rw [rowsF_length]; omega
    have c1 : 0 ≤ (i : Int) := by omega
    have lt : (((fac 2 n).take i).map ptB).length < 8796093022208 := by rw [List.length_map, List.length_take]; omega
    have it : ∀ m : Nat, m ≤ 10000 → strconv_Itoa_18.f (m : Int) = some (itB (m : Int)) := fun m hm => by
      unfold strconv_Itoa_18.f; rw [if_pos (by omega)]
    have e94 : (⟨#[94]⟩ : ByteArray).size = 1 := rfl
    refine Ev.step (fun k => by rw [impl_FactorText.l0]) ?_
    simp only [if_pos c, if_pos c1, if_pos cr, hrow, if_pos L0, rd_two0, rd_two1, if_pos L1, it p (by omega), it j (by omega), Option.bind_some, w64 (x := (i : Int) + 1) (by omega)]
    by_cases g : 1 < j
    · have g1 : (j : Int) > 1 := by omega
      have s1 : 1 + (itB (j : Int)).size ≤ 9223372036854775807 := by omega
      have s2 : (itB (p : Int)).size + ((⟨#[94]⟩ : ByteArray) ++ itB (j : Int)).size ≤ 9223372036854775807 := by rw [ByteArray.size_append]; omega
      simp only [if_pos g1, if_pos s1, if_pos s2, if_pos lt]
      have e : ptB (p, j) = itB (p : Int) ++ ((⟨#[94]⟩ : ByteArray) ++ itB (j : Int)) := by unfold ptB; rw [if_pos g]
      rw [e] at ih'
      exact ih'
    · have g1 : ¬ (j : Int) > 1 := by omega
      simp only [if_neg g1, if_pos lt]
      have e : ptB (p, j) = itB (p : Int) := by unfold ptB; rw [if_neg g]
      rw [e] at ih'
      exact ih'
theorem fac_small (n : Nat) (h : 1 ≤ n ∧ n ≤ 10000) : ∀ x ∈ fac 2 n, x.1 ≤ 10000 ∧ x.2 ≤ 10000 := fun x hx => by
  obtain ⟨p, j⟩ := x
  have a := fac_times_le n h.1 p j hx
  show p ≤ 10000 ∧ j ≤ 10000
  omega
theorem take_snoc (F : List (Nat × Nat)) (i : Nat) (h : i < F.length) : F.take (i + 1) = F.take i ++ [F.getD i (0, 0)] := by
  rw [List.take_succ_eq_append_getElem h, List.getD_eq_getElem?_getD, List.getElem?_eq_getElem h]; rfl
theorem ev_sText_l (n : Nat) (hn : 1 ≤ n ∧ n ≤ 10000) (h2 : fac 2 n ≠ []) : ∀ (d i : Nat), i + d = (fac 2 n).length →
    Ev (fun k => spec_FactorText.l0 k (jnP ((fac 2 n).take i)) (rowsF (fac 2 n)) (i : Int)) (jnP (fac 2 n)) := by
  intro d
  have hfl := fac_length_le n hn.1
  have sm := fac_small n hn
  induction d with
  | zero =>
    intro i hi
    refine Ev.step (fun k => by rw [spec_FactorText.l0]) ?_
    have c : ¬ (i : Int) < ((rowsF (fac 2 n)).length : Int) := by rw [rowsF_length]; omega
    rw [List.take_of_length_le (by omega)]
    have ne : ¬ (jnP (fac 2 n)).toList = ([] : List UInt8) := fun h => by
      have p := jnP_pos (fac 2 n) h2
      exact toList_pos _ p h
    simp only [if_neg c, if_neg ne]
    exact Ev.now _
  | succ d ih =>
    intro i hi
    have hx := getF_mem (fac 2 n) i (by omega)
    have hrow := rdrow (fac 2 n) i (by omega)
    have st := take_snoc (fac 2 n) i (by omega)
    have ih' := ih (i + 1) (by omega)
    rw [st, jnP_snoc] at ih'
    have sz := jnP_size i ((fac 2 n).take i) (by rw [List.length_take]; omega) (fun y hy => sm y (List.mem_of_mem_take hy))
    have sx := sm _ hx
    generalize (fac 2 n).getD i (0, 0) = x at *
    obtain ⟨p, j⟩ := x
    have sp := itB_size p
    have sj := itB_size j
    have L0 : 0 < (([(p : Int), (j : Int)] : List Int).length : Int) := by simp
    have L1 : 1 < (([(p : Int), (j : Int)] : List Int).length : Int) := by simp
    have c : (i : Int) < ((rowsF (fac 2 n)).length : Int) := by rw [rowsF_length]; omega
    have c1 : 0 ≤ (i : Int) := by omega
    have e94 : (⟨#[94]⟩ : ByteArray).size = 1 := rfl
    have e46 : (⟨#[46]⟩ : ByteArray).size = 1 := rfl
    have part : ∀ acc : ByteArray, acc.size ≤ 1000000000000 → Ev (fun k => spec_FactorText.l0 k (acc ++ ptB (p, j)) (rowsF (fac 2 n)) ((i + 1 : Nat) : Int)) (jnP (fac 2 n)) →
        Ev (fun k => spec_FactorText.j1 k acc (rowsF (fac 2 n)) (i : Int)) (jnP (fac 2 n)) := fun acc ha hE => by
      refine Ev.step (fun k => by rw [spec_FactorText.j1]) ?_
      simp only [if_pos c1, if_pos c, hrow, if_pos L0, rd_two0, rd_two1, if_pos L1, w64 (x := (i : Int) + 1) (by omega)]
      refine Ev.bind (ev_l1Number p (by omega)) ?_
      have s1 : acc.size + (itB (p : Int)).size ≤ 9223372036854775807 := by omega
      simp only [if_pos s1]
      by_cases g : 1 < j
      · have g1 : (j : Int) > 1 := by omega
        have s2 : (acc ++ itB (p : Int)).size + 1 ≤ 9223372036854775807 := by rw [ByteArray.size_append]; omega
        simp only [if_pos g1, if_pos s2]
        refine Ev.bind (ev_l1Number j (by omega)) ?_
        have s3 : ((acc ++ itB (p : Int)) ++ (⟨#[94]⟩ : ByteArray)).size + (itB (j : Int)).size ≤ 9223372036854775807 := by rw [ByteArray.size_append, ByteArray.size_append]; omega
        simp only [if_pos s3]
        have e : ptB (p, j) = itB (p : Int) ++ ((⟨#[94]⟩ : ByteArray) ++ itB (j : Int)) := by unfold ptB; rw [if_pos g]
        rw [e, ← ByteArray.append_assoc, ← ByteArray.append_assoc] at hE
        exact hE
      · have g1 : ¬ (j : Int) > 1 := by omega
        simp only [if_neg g1]
        have e : ptB (p, j) = itB (p : Int) := by unfold ptB; rw [if_neg g]
        rw [e] at hE
        exact hE
    refine Ev.step (fun k => by rw [spec_FactorText.l0]) ?_
    simp only [if_pos c]
    by_cases i0 : i = 0
    · have c2 : ¬ (i : Int) > 0 := by omega
      simp only [if_neg c2]
      subst i0
      rw [List.take_zero, if_pos rfl] at ih'
      rw [List.take_zero, jnP_nil]
      refine part _ (by decide) ?_
      rw [show (⟨#[]⟩ : ByteArray) ++ ptB (p, j) = ptB (p, j) from by apply ByteArray.ext; simp]
      exact ih'
    · have c2 : (i : Int) > 0 := by omega
      have s0 : (jnP ((fac 2 n).take i)).size + 1 ≤ 9223372036854775807 := by omega
      simp only [if_pos c2, if_pos s0]
      rw [if_neg (fun h => by
        have := congrArg List.length h
        rw [List.length_take, List.length_nil] at this; omega)] at ih'
      exact part _ (by rw [ByteArray.size_append]; omega) ih'

/-- A text as its bytes between the bytes c. -/
def cutL (c : UInt8) : List UInt8 → List (List UInt8)
  | [] => [[]]
  | x :: t => if x = c then [] :: cutL c t else (x :: (cutL c t).headD []) :: (cutL c t).tail
theorem cutL_ne (c : UInt8) (l : List UInt8) : cutL c l ≠ [] := by
  cases l with
  | nil => simp [cutL]
  | cons x t => unfold cutL; split <;> simp
theorem cutL_head (c : UInt8) (l : List UInt8) : (cutL c l).headD [] :: (cutL c l).tail = cutL c l := by
  have h := cutL_ne c l
  cases e : cutL c l with
  | nil => exact absurd e h
  | cons a t => rfl
theorem cutL_no (c : UInt8) : ∀ (l : List UInt8), c ∉ l → cutL c l = [l]
  | [], _ => rfl
  | x :: t, h => by
    have hx : ¬ x = c := fun e => h (by simp [e])
    have ih := cutL_no c t (fun m => h (List.mem_cons_of_mem _ m))
    unfold cutL
    rw [if_neg hx, ih]; rfl
theorem cutL_at (c : UInt8) : ∀ (a b : List UInt8), c ∉ a → cutL c (a ++ c :: b) = a :: cutL c b
  | [], b, _ => by simp [cutL]
  | x :: t, b, h => by
    have hx : ¬ x = c := fun e => h (by simp [e])
    have ih := cutL_at c t b (fun m => h (List.mem_cons_of_mem _ m))
    rw [List.cons_append, cutL, if_neg hx, ih]; rfl
theorem cutL_le (c : UInt8) : ∀ (l : List UInt8), ∀ x ∈ cutL c l, x.length ≤ l.length
  | [], x, h => by simp [cutL] at h; simp [h]
  | y :: t, x, h => by
    have ih := cutL_le c t
    unfold cutL at h
    split at h
    · rcases List.mem_cons.1 h with e | e
      · simp [e]
      · have := ih x e; simp only [List.length_cons]; omega
    · rw [← cutL_head] at ih
      rcases List.mem_cons.1 h with e | e
      · have := ih ((cutL c t).headD []) (by simp)
        rw [e]; simp only [List.length_cons]; omega
      · have := ih x (List.mem_cons_of_mem _ e); simp only [List.length_cons]; omega
theorem cutL_length (c : UInt8) : ∀ (l : List UInt8), (cutL c l).length ≤ l.length + 1
  | [] => by simp [cutL]
  | y :: t => by
    have ih := cutL_length c t
    rw [← cutL_head, List.length_cons] at ih
    unfold cutL
    split
    · rw [← cutL_head c t]; simp only [List.length_cons]; omega
    · simp only [List.length_cons]; omega
theorem join_one (a s : List UInt8) : Lib.join [a] s = a := by simp [Lib.join, List.intercalate]
theorem cutL_join (c : UInt8) : ∀ (L : List (List UInt8)), L ≠ [] → (∀ x ∈ L, c ∉ x) → cutL c (Lib.join L [c]) = L
  | [], h, _ => absurd rfl h
  | [a], _, h => by rw [join_one, cutL_no c a (h a (by simp))]
  | a :: b :: t, _, h => by
    have ih := cutL_join c (b :: t) (by simp) (fun x hx => h x (List.mem_cons_of_mem _ hx))
    rw [join_two, List.singleton_append, cutL_at c a _ (h a (by simp)), ih]
/-- Where the first byte c stands. -/
theorem index_cases (c : UInt8) (l : List UInt8) : (c ∉ l ∧ Lib.index l [c] = -1) ∨ (∃ a b, l = a ++ c :: b ∧ c ∉ a ∧ Lib.index l [c] = (a.length : Int)) := by
  induction l with
  | nil => exact .inl ⟨by simp, rfl⟩
  | cons x t ih =>
    by_cases e : x = c
    · subst e
      refine .inr ⟨[], t, rfl, by simp, ?_⟩
      unfold Lib.index
      rw [if_pos (by simp [List.isPrefixOf])]; rfl
    · have hp : ¬ (List.isPrefixOf [c] (x :: t)) = true := by simp [List.isPrefixOf]; exact fun h => e h.symm
      rcases ih with ⟨h1, h2⟩ | ⟨a, b, h1, h2, h3⟩
      · refine .inl ⟨?_, ?_⟩
        · intro m
          rcases List.mem_cons.1 m with q | q
          · exact e q.symm
          · exact h1 q
        · unfold Lib.index
          rw [if_neg hp, h2]; rfl
      · refine .inr ⟨x :: a, b, by rw [h1]; rfl, ?_, ?_⟩
        · intro m
          rcases List.mem_cons.1 m with q | q
          · exact e q.symm
          · exact h2 q
        · unfold Lib.index
          rw [if_neg hp, h3, if_neg (by rw [beq_iff_eq]; omega)]
          simp
theorem cut_no (c : UInt8) (l : List UInt8) (h : c ∉ l) : Lib.cut l [c] = (l, [], false) := by
  rcases index_cases c l with ⟨_, h2⟩ | ⟨a, b, h1, _, _⟩
  · unfold Lib.cut
    rw [h2, if_neg (by omega)]
  · exact absurd (by rw [h1]; simp) h
theorem app_once (c : UInt8) : ∀ (a b a' b' : List UInt8), c ∉ a → c ∉ a' → a ++ c :: b = a' ++ c :: b' → a = a' ∧ b = b'
  | [], b, [], b', _, _, e => by simpa using e
  | [], b, y :: s, b', _, h', e => by
    simp only [List.nil_append, List.cons_append, List.cons.injEq] at e
    exact absurd (by rw [← e.1]; simp) h'
  | x :: t, b, [], b', h, _, e => by
    simp only [List.nil_append, List.cons_append, List.cons.injEq] at e
    exact absurd (by rw [e.1]; simp) h
  | x :: t, b, y :: s, b', h, h', e => by
    simp only [List.cons_append, List.cons.injEq] at e
    obtain ⟨p, q⟩ := app_once c t b s b' (fun m => h (List.mem_cons_of_mem _ m)) (fun m => h' (List.mem_cons_of_mem _ m)) e.2
    exact ⟨by rw [e.1, p], q⟩
theorem cut_at (c : UInt8) (a b : List UInt8) (h : c ∉ a) : Lib.cut (a ++ c :: b) [c] = (a, b, true) := by
  rcases index_cases c (a ++ c :: b) with ⟨h1, _⟩ | ⟨a', b', h1, h2, h3⟩
  · exact absurd (by simp) h1
  · obtain ⟨rfl, rfl⟩ := app_once c a b a' b' h h2 h1
    unfold Lib.cut
    rw [h3, if_pos (by omega)]
    simp
/-- What Split tells at a text of one byte. -/
theorem splitK_eq (c : UInt8) : ∀ (k : Nat) (l : List UInt8), Lib.count l [c] = k → Lib.splitK [c] 0 k l = cutL c l := by
  intro k
  induction k with
  | zero =>
    intro l hl
    rcases index_cases c l with ⟨h1, _⟩ | ⟨a, b, h1, _, h3⟩
    · rw [cutL_no c l h1]; rfl
    · have := Lib.count_hit (s := l) (sub := [c]) (i := a.length) (by simp) h3
      omega
  | succ k ih =>
    intro l hl
    rcases index_cases c l with ⟨_, h2⟩ | ⟨a, b, h1, h2, h3⟩
    · have := Lib.count_miss h2
      omega
    · have hc := Lib.count_hit (s := l) (sub := [c]) (i := a.length) (by simp) h3
      unfold Lib.splitK
      rw [h3, if_neg (by rw [beq_iff_eq]; omega)]
      have e1 : ((a.length : Int)).toNat = a.length := by simp
      rw [e1]
      have d : l.drop (a.length + [c].length) = b := by rw [h1]; simp
      rw [d] at hc ⊢
      rw [ih b (by omega), h1, cutL_at c a b h2]
      simp
theorem split_eq (c : UInt8) (s : ByteArray) : (Lib.splitB ⟨#[c]⟩ 0 (Lib.countB s ⟨#[c]⟩) s).map (·.data.toList) = cutL c s.data.toList := by
  rw [Lib.splitB_data]
  exact splitK_eq c _ s.data.toList rfl
def ba (l : List UInt8) : ByteArray := ⟨l.toArray⟩
theorem ba_data (l : List UInt8) : (ba l).data.toList = l := rfl
theorem ba_size (l : List UInt8) : (ba l).size = l.length := by show l.toArray.size = _; simp
theorem ba_of (b : ByteArray) : ba b.data.toList = b := Lib.mk_data b
theorem split_ba (c : UInt8) (s : ByteArray) : Lib.splitB ⟨#[c]⟩ 0 (Lib.countB s ⟨#[c]⟩) s = (cutL c s.data.toList).map ba := by
  rw [← split_eq c s, List.map_map]
  exact (List.map_id'' (fun b => ba_of b) _).symm
/-- The digits of a number. -/
def Dig (l : List UInt8) : Prop := ∀ c ∈ l, 48 ≤ c.toNat ∧ c.toNat ≤ 57
theorem dec_dig (m : Nat) : Dig (Lib.decDigits m) := by
  induction m using Nat.strongRecOn with
  | _ m ih =>
    have one : ∀ d : Nat, d < 10 → 48 ≤ (UInt8.ofNat (48 + d)).toNat ∧ (UInt8.ofNat (48 + d)).toNat ≤ 57 := by decide
    intro c hc
    by_cases h : m < 10
    · rw [dec_one m h, List.mem_singleton] at hc
      subst hc
      exact one m h
    · rw [dec_more m h] at hc
      rcases List.mem_append.1 hc with q | q
      · exact ih (m / 10) (by omega) c q
      · rw [List.mem_singleton] at q
        subst q
        exact one (m % 10) (Nat.mod_lt _ (by omega))
theorem dec_ne (m : Nat) : Lib.decDigits m ≠ [] := by
  by_cases h : m < 10
  · rw [dec_one m h]; simp
  · rw [dec_more m h]; simp
theorem dig_no (l : List UInt8) (c : UInt8) (h : Dig l) (hc : ¬ (48 ≤ c.toNat ∧ c.toNat ≤ 57)) : c ∉ l := fun m => hc (h c m)
/-- What digits spell. -/
def valL (l : List UInt8) : Nat := l.foldl (fun a c => 10 * a + (c.toNat - 48)) 0
theorem valL_snoc (l : List UInt8) (c : UInt8) : valL (l ++ [c]) = 10 * valL l + (c.toNat - 48) := by
  unfold valL; rw [List.foldl_append]; rfl
theorem val_dec (m : Nat) : valL (Lib.decDigits m) = m := by
  induction m using Nat.strongRecOn with
  | _ m ih =>
    have one : ∀ d : Nat, d < 10 → (UInt8.ofNat (48 + d)).toNat - 48 = d := by decide
    by_cases h : m < 10
    · rw [dec_one m h]
      show 10 * 0 + _ = m
      rw [one m h]; omega
    · rw [dec_more m h, valL_snoc, ih (m / 10) (by omega), one (m % 10) (Nat.mod_lt _ (by omega))]
      omega
theorem dec_len (m : Nat) : ∀ j, m < 10 ^ j → 1 ≤ j → (Lib.decDigits m).length ≤ j := by
  induction m using Nat.strongRecOn with
  | _ m ih =>
    intro j hm hj
    by_cases h : m < 10
    · rw [dec_one m h]; simpa using hj
    · rw [dec_more m h, List.length_append, List.length_singleton]
      have j2 : 2 ≤ j := by
        rcases Nat.lt_or_ge j 2 with q | q
        · have : j = 1 := by omega
          subst this; omega
        · exact q
      have := ih (m / 10) (by omega) (j - 1) (by
        have : 10 ^ j = 10 * 10 ^ (j - 1) := by rw [← Nat.pow_succ']; congr 1; omega
        omega) (by omega)
      omega
theorem dec_lead (m : Nat) (h : 1 ≤ m) : (Lib.decDigits m).head? ≠ some 48 := by
  induction m using Nat.strongRecOn with
  | _ m ih =>
    by_cases c : m < 10
    · rw [dec_one m c]
      have : ∀ d : Nat, d < 10 → 1 ≤ d → ¬ UInt8.ofNat (48 + d) = 48 := by decide
      simpa using this m c h
    · rw [dec_more m c]
      have q := ih (m / 10) (by omega) (by omega)
      have n := dec_ne (m / 10)
      cases e : Lib.decDigits (m / 10) with
      | nil => exact absurd e n
      | cons a t => rw [e] at q; simpa using q
theorem val_le : ∀ (n : Nat) (l : List UInt8), l.length = n → Dig l → valL l < 10 ^ n := by
  intro n
  induction n with
  | zero =>
    intro l hl _
    rw [List.length_eq_zero_iff.1 hl]; decide
  | succ n ih =>
    intro l hl h
    rcases List.eq_nil_or_concat l with e | ⟨G, x, e⟩
    · subst e; cases hl
    · rw [List.concat_eq_append] at e
      subst e
      rw [List.length_append, List.length_singleton] at hl
      have i := ih G (by omega) (fun c hc => h c (by simp [hc]))
      have hx := h x (by simp)
      rw [valL_snoc, Nat.pow_succ]
      omega
theorem parse_val : ∀ (l : List UInt8) (acc : Nat), Dig l → acc < 10 ^ 9 → l.length ≤ 9 → Lib.parseUint10 acc l = .ok (l.foldl (fun a c => 10 * a + (c.toNat - 48)) acc) := by
  suffices ∀ (l : List UInt8) (acc j : Nat), Dig l → acc < 10 ^ j → j + l.length ≤ 18 → Lib.parseUint10 acc l = .ok (l.foldl (fun a c => 10 * a + (c.toNat - 48)) acc) from fun l acc h1 h2 h3 => this l acc 9 h1 h2 (by omega)
  intro l
  induction l with
  | nil => intro acc j _ _ _; rfl
  | cons c t ih =>
    intro acc j hd ha hl
    have hc := hd c (by simp)
    rw [List.length_cons] at hl
    have b : 10 ^ j ≤ 10 ^ 17 := Nat.pow_le_pow_right (by omega) (by omega)
    have n : acc * 10 + (c.toNat - 48) < 10 ^ (j + 1) := by rw [Nat.pow_succ]; omega
    have e : acc * 10 + (c.toNat - 48) = 10 * acc + (c.toNat - 48) := by omega
    unfold Lib.parseUint10
    rw [if_pos hc, if_neg (by omega), if_neg (by omega), ih _ (j + 1) (fun x hx => hd x (List.mem_cons_of_mem _ hx)) n (by omega), List.foldl_cons, e]
theorem atoi_dec (m : Nat) (h : m ≤ 1000000) : Lib.atoiAll (Lib.decDigits m) = .ok (m : Int) := by
  have hd := dec_dig m
  have hn := dec_ne m
  have hl := dec_len m 7 (by omega) (by omega)
  have hv := val_dec m
  cases e : Lib.decDigits m with
  | nil => exact absurd e hn
  | cons c r =>
    rw [e] at hd hl hv
    have hc := hd c (by simp)
    have p : Lib.parseMag (c :: r) = .ok m := by
      unfold Lib.parseMag
      rw [if_neg (by simp), parse_val (c :: r) 0 hd (by decide) (by omega)]
      exact congrArg _ hv
    have q : ¬ (c.toNat = 43 ∨ c.toNat = 45) := by omega
    unfold Lib.atoiAll
    simp only [if_neg q, p]
    have z : ¬ c.toNat = 45 := by omega
    have y : ¬ 9223372036854775808 ≤ m := by omega
    simp [z, y]

theorem fac_ne (n : Nat) (h : 2 ≤ n) : fac 2 n ≠ [] := fun e => by
  have := prodF_fac n (by omega)
  rw [e] at this
  have z : prodF [] = 1 := rfl
  omega
theorem ev_sText (n : Int) : Ev (fun k => spec_FactorText.f k n) (txB n) := by
  unfold spec_FactorText.f txB
  simp only [l1In_f, Option.bind_some, decide_eq_true_eq]
  by_cases h : 1 ≤ n ∧ n ≤ 10000
  · obtain ⟨m, rfl⟩ := Int.eq_ofNat_of_zero_le (show 0 ≤ n by omega)
    simp only [if_pos h]
    refine Ev.bind (ev_sFactorsOf m (by omega) (by omega)) ?_
    by_cases h1 : m = 1
    · subst h1
      have e : fac 2 1 = [] := fac_one
      rw [e]
      refine Ev.step (fun k => by rw [spec_FactorText.l0]) ?_
      have c0 : ¬ (0 : Int) < ((rowsF []).length : Int) := by decide
      have tl : (⟨#[]⟩ : ByteArray).toList = ([] : List UInt8) := by
        unfold ByteArray.toList; rw [ByteArray.toList.loop, if_neg (by decide)]; rfl
      have c1 : ((1 : Nat) : Int) = 1 := rfl
      simp only [if_neg c0, tl, if_true, if_pos c1]
      exact Ev.now _
    · have c : ¬ (m : Int) = 1 := by omega
      rw [if_neg c, Int.toNat_natCast]
      have z := ev_sText_l m (by omega) (fac_ne m (by omega)) (fac 2 m).length 0 (by omega)
      rw [List.take_zero, jnP_nil] at z
      exact z
  · simp only [if_neg h]; exact Ev.now _
theorem ev_iText (n : Int) : Ev (fun k => impl_FactorText.f k n) (txB n) := by
  unfold impl_FactorText.f txB
  simp only [numberOk_f, Option.bind_some, decide_eq_true_eq]
  by_cases h : 1 ≤ n ∧ n ≤ 10000
  · obtain ⟨m, rfl⟩ := Int.eq_ofNat_of_zero_le (show 0 ≤ n by omega)
    simp only [if_pos h]
    by_cases h1 : (m : Int) = 1
    · simp only [if_pos h1]; exact Ev.now _
    · simp only [if_neg h1, Int.toNat_natCast]
      refine Ev.bind (ev_factors m (by omega) (by omega)) ?_
      have z := ev_iText_l m (by omega) (fac_ne m (by omega)) (fac 2 m).length 0 (by omega)
      rw [rowsF_length]
      exact z
  · simp only [if_neg h]; exact Ev.now _

theorem loop_eq (b : ByteArray) : ∀ (m i : Nat) (r : List UInt8), b.size - i = m → ByteArray.toList.loop b i r = r.reverse ++ b.data.toList.drop i := by
  intro m
  induction m with
  | zero =>
    intro i r h
    rw [ByteArray.toList.loop, if_neg (by omega), List.drop_of_length_le (by rw [Array.length_toList]; exact Nat.le_of_sub_eq_zero h)]
    simp
  | succ m ih =>
    intro i r h
    rw [ByteArray.toList.loop, if_pos (by omega), ih (i + 1) _ (by omega)]
    have hi : i < b.data.toList.length := by rw [Array.length_toList]; have : b.size = b.data.size := rfl; omega
    rw [List.reverse_cons, List.append_assoc, List.drop_eq_getElem_cons hi]
    congr 1
    rw [List.singleton_append]
    congr 1
    have hi' : i < b.data.size := by rw [Array.length_toList] at hi; exact hi
    show b.data[i]! = _
    rw [getElem!_pos b.data i hi', Array.getElem_toList]
theorem toList_data (b : ByteArray) : b.toList = b.data.toList := by
  unfold ByteArray.toList
  rw [loop_eq b b.size 0 [] (by omega)]; simp
theorem toList_eq (a b : ByteArray) : a.toList = b.toList ↔ a = b := by
  rw [toList_data, toList_data]
  constructor
  · intro h
    rw [← ba_of a, ← ba_of b, h]
  · intro h; rw [h]
/-- What reading a text tells: nothing, or the number whose text it is. -/
def Good (s : ByteArray) (r : Int × Bool) : Prop := r = (-1, false) ∨ ∃ m : Nat, 1 ≤ m ∧ m ≤ 10000 ∧ r = ((m : Int), true) ∧ txB (m : Int) = s
theorem ev_l1I (s : ByteArray) (L : List ByteArray) (y i : Int) (p : Nat) (hp : 1 ≤ p ∧ p ≤ 10000) (r : Int × Bool) (K : Nat) (hK : K ≤ 20) :
    ∀ (d n j : Nat), j + d = K → 1 ≤ n → n ≤ 10000 → (n * p ^ d ≤ 10000 → Ev (fun k => impl_ReadFactors.l0 k s ((n * p ^ d : Nat) : Int) L y (wrap64 (i + 1))) r) → (10000 < n * p ^ d → r = (-1, false)) →
    Ev (fun k => impl_ReadFactors.l1 k s (n : Int) (p : Int) L y i (K : Int) (j : Int)) r := by
  intro d
  induction d with
  | zero =>
    intro n j hj h1 hn hE _
    refine Ev.step (fun k => by rw [impl_ReadFactors.l1]) ?_
    have c : ¬ (j : Int) < (K : Int) := by omega
    rw [Nat.pow_zero, Nat.mul_one] at hE
    simp only [if_neg c]
    exact hE hn
  | succ d ih =>
    intro n j hj h1 hn hE hF
    refine Ev.step (fun k => by rw [impl_ReadFactors.l1]) ?_
    have c : (j : Int) < (K : Int) := by omega
    have b : n * p ≤ 10000 * 10000 := Nat.mul_le_mul hn hp.2
    have e : (n : Int) * (p : Int) = ((n * p : Nat) : Int) := by simp
    have pw : n * p ^ (d + 1) = n * p * p ^ d := by rw [Nat.pow_succ, Nat.mul_assoc, Nat.mul_comm p]
    have pp : 1 ≤ p ^ d := Nat.pow_pos (by omega)
    simp only [if_pos c, e, w64 (x := ((n * p : Nat) : Int)) (by omega), w64 (x := (j : Int) + 1) (by omega)]
    by_cases g : n * p ≤ 10000
    · have c2 : ¬ ((n * p : Nat) : Int) > 10000 := by omega
      simp only [if_neg c2]
      have n1 : 1 ≤ n * p := Nat.mul_pos (by omega) (by omega)
      rw [pw] at hE hF
      exact ih (n * p) (j + 1) (by omega) n1 g hE hF
    · have c2 : ((n * p : Nat) : Int) > 10000 := by omega
      simp only [if_pos c2]
      have : n * p * 1 ≤ n * p * p ^ d := Nat.mul_le_mul_left _ pp
      rw [hF (by omega)]
      exact Ev.now _
theorem ev_j1I (s : ByteArray) (n a b : Int) (u v : Option Int) (L : List ByteArray) (y i : Int) (r : Int × Bool)
    (h1 : u.isNone = true → v.isNone = true → 1 ≤ a → a ≤ 10000 → 1 ≤ b → b ≤ 20 → Ev (fun k => impl_ReadFactors.l1 k s n a L y i b 0) r)
    (h2 : ¬ (u.isNone = true ∧ v.isNone = true ∧ 1 ≤ a ∧ a ≤ 10000 ∧ 1 ≤ b ∧ b ≤ 20) → r = (-1, false)) :
    Ev (fun k => impl_ReadFactors.j1 k s n a u b v L y i) r := by
  refine Ev.step (fun k => by rw [impl_ReadFactors.j1]) ?_
  have out : r = (-1, false) → Ev (fun k => impl_ReadFactors.j2 k s n a b L y i true) r := fun e => by
    refine Ev.step (fun k => by rw [impl_ReadFactors.j2]) ?_
    rw [e]; simp only [if_true]; exact Ev.now _
  by_cases c1 : u.isNone = true
  · by_cases c2 : v.isNone = true
    · simp only [if_pos c1, if_pos c2]
      by_cases c3 : a < 1
      · simp only [if_pos c3]; exact out (h2 (fun h => by omega))
      · by_cases c4 : a > 10000
        · simp only [if_neg c3, if_pos c4]; exact out (h2 (fun h => by omega))
        · by_cases c5 : b < 1
          · simp only [if_neg c3, if_neg c4, if_pos c5]; exact out (h2 (fun h => by omega))
          · simp only [if_neg c3, if_neg c4, if_neg c5]
            by_cases c6 : b > 20
            · simp only [decide_eq_true c6]; exact out (h2 (fun h => by omega))
            · simp only [decide_eq_false c6]
              refine Ev.step (fun k => by rw [impl_ReadFactors.j2]) ?_
              simp only [Bool.false_eq_true, if_false]
              exact h1 c1 c2 (by omega) (by omega) (by omega) (by omega)
    · simp only [if_pos c1, if_neg c2]; exact out (h2 (fun h => c2 h.2.1))
  · simp only [if_neg c1]; exact out (h2 (fun h => c1 h.1))
theorem ev_endI (s : ByteArray) (n : Nat) (L : List ByteArray) : Ev (fun k => impl_ReadFactors.l0 k s (n : Int) L (L.length : Int) (L.length : Int)) (if txB (n : Int) = s then ((n : Int), true) else (-1, false)) := by
  refine Ev.step (fun k => by rw [impl_ReadFactors.l0]) ?_
  have c : ¬ (L.length : Int) < (L.length : Int) := by omega
  simp only [if_neg c]
  refine Ev.bind (ev_iText (n : Int)) ?_
  simp only [toList_eq]
  by_cases h : txB (n : Int) = s
  · simp only [if_pos h]; exact Ev.now _
  · simp only [if_neg h]; exact Ev.now _
theorem getB (L : List ByteArray) (i : Nat) (h : i < L.length) : rdOf ByteArray.empty L (i : Int) ∈ L := by
  unfold rdOf
  rw [Int.toNat_natCast, List.getD_eq_getElem?_getD, List.getElem?_eq_getElem h]; exact List.getElem_mem _
theorem atoi_some (b : ByteArray) (h : b.size ≤ 1000000) : ∃ a u, strconv_Atoi_26.f b = some (a, u) := by
  unfold strconv_Atoi_26.f
  rw [if_pos h]
  split <;> exact ⟨_, _, rfl⟩
theorem cut_some (b c : ByteArray) (h : b.size ≤ 1000000) : ∃ x y t, strings_Cut.f b c = some (x, y, t) ∧ x.size ≤ b.size ∧ y.size ≤ b.size := by
  unfold strings_Cut.f
  rw [if_pos h]
  refine ⟨_, _, _, rfl, ?_, ?_⟩
  · show (ba _).size ≤ _
    rw [ba_size, Lib.size_eq b]
    unfold Lib.cut
    split
    · show (List.take _ _).length ≤ _
      rw [List.length_take]; omega
    · exact Nat.le_refl _
  · show (ba _).size ≤ _
    rw [ba_size, Lib.size_eq b]
    unfold Lib.cut
    split
    · show (List.drop _ _).length ≤ _
      rw [List.length_drop]; omega
    · exact Nat.zero_le _
theorem ev_allI (s : ByteArray) (L : List ByteArray) (hL : ∀ b ∈ L, b.size ≤ 1000000) (hn : L.length ≤ 1000000) : ∀ (d i n : Nat), i + d = L.length → 1 ≤ n → n ≤ 10000 →
    ∃ r, Ev (fun k => impl_ReadFactors.l0 k s (n : Int) L (L.length : Int) (i : Int)) r ∧ Good s r := by
  intro d
  induction d with
  | zero =>
    intro i n hi h1 h2
    have e : i = L.length := by omega
    subst e
    refine ⟨_, ev_endI s n L, ?_⟩
    by_cases h : txB (n : Int) = s
    · rw [if_pos h]; exact .inr ⟨n, h1, h2, rfl, h⟩
    · rw [if_neg h]; exact .inl rfl
  | succ d ih =>
    intro i n hi h1 h2
    have hb := hL _ (getB L i (by omega))
    generalize hbe : rdOf ByteArray.empty L (i : Int) = b at hb
    obtain ⟨x, y, t, hc, hx, hy⟩ := cut_some b ⟨#[94]⟩ hb
    obtain ⟨a, u, ha⟩ := atoi_some x (by omega)
    obtain ⟨a', u', ha'⟩ := atoi_some y (by omega)
    have c1 : (i : Int) < (L.length : Int) := by omega
    have c2 : 0 ≤ (i : Int) := by omega
    have go : ∀ (v : Option Int) (m : Int), ∃ r, Ev (fun k => impl_ReadFactors.j1 k s (n : Int) a u m v L (L.length : Int) (i : Int)) r ∧ Good s r := fun v m => by
      by_cases q : u.isNone = true ∧ v.isNone = true ∧ 1 ≤ a ∧ a ≤ 10000 ∧ 1 ≤ m ∧ m ≤ 20
      · obtain ⟨p, rfl⟩ := Int.eq_ofNat_of_zero_le (show 0 ≤ a by omega)
        obtain ⟨K, rfl⟩ := Int.eq_ofNat_of_zero_le (show 0 ≤ m by omega)
        by_cases g : n * p ^ K ≤ 10000
        · obtain ⟨r, hr, hg⟩ := ih (i + 1) (n * p ^ K) (by omega) (Nat.mul_pos (by omega) (Nat.pow_pos (by omega))) g
          refine ⟨r, ev_j1I s n p K u v L _ i r (fun _ _ _ _ _ _ => ?_) (fun h => absurd q h), hg⟩
          refine ev_l1I s L _ i p (by omega) r K (by omega) K n 0 (by omega) h1 h2 (fun _ => ?_) (fun h => by omega)
          rw [w64 (by omega)]
          exact hr
        · refine ⟨(-1, false), ev_j1I s n p K u v L _ i _ (fun _ _ _ _ _ _ => ?_) (fun h => absurd q h), .inl rfl⟩
          exact ev_l1I s L _ i p (by omega) _ K (by omega) K n 0 (by omega) h1 h2 (fun h => absurd h g) (fun _ => rfl)
      · exact ⟨(-1, false), ev_j1I s n a m u v L _ i _ (fun p1 p2 p3 p4 p5 p6 => absurd ⟨p1, p2, p3, p4, p5, p6⟩ q) (fun _ => rfl), .inl rfl⟩
    have step : ∀ r, Ev (fun k => if t = true then ((strconv_Atoi_26.f y).bind fun bt => impl_ReadFactors.j1 k s (n : Int) a u bt.1 bt.2 L (L.length : Int) (i : Int)) else impl_ReadFactors.j1 k s (n : Int) a u 1 none L (L.length : Int) (i : Int)) r →
        Ev (fun k => impl_ReadFactors.l0 k s (n : Int) L (L.length : Int) (i : Int)) r := fun r hr => by
      refine Ev.step (fun k => by rw [impl_ReadFactors.l0]) ?_
      simp only [if_pos c1, if_pos c2, hbe, hc, Option.bind_some, ha]
      exact hr
    cases t with
    | true =>
      obtain ⟨r, hr, hg⟩ := go u' a'
      refine ⟨r, step r ?_, hg⟩
      simp only [if_true, ha', Option.bind_some]
      exact hr
    | false =>
      obtain ⟨r, hr, hg⟩ := go none 1
      refine ⟨r, step r ?_, hg⟩
      simp only [Bool.false_eq_true, if_false]
      exact hr
theorem splitI (s : ByteArray) (h : s.size ≤ 100) : strings_Split.f s (⟨#[46]⟩ : ByteArray) = some ((cutL 46 s.data.toList).map ba) := by
  unfold strings_Split.f
  rw [if_pos ⟨by omega, by decide⟩, split_ba]
theorem ev_readI (s : ByteArray) (h : s.size ≤ 1048577) : ∃ r, Ev (fun k => impl_ReadFactors.f k s) r ∧ Good s r := by
  unfold impl_ReadFactors.f
  by_cases c : (s.size : Int) > 100
  · simp only [if_pos c]; exact ⟨_, Ev.now _, .inl rfl⟩
  · have hs : s.size ≤ 100 := by omega
    simp only [if_neg c, splitI s hs, Option.bind_some]
    have hle := cutL_le 46 s.data.toList
    have hln := cutL_length 46 s.data.toList
    rw [← Lib.size_eq] at hln
    exact ev_allI s _ (fun b hb => by
      obtain ⟨l, hl, rfl⟩ := List.mem_map.1 hb
      rw [ba_size]
      have := hle l hl
      rw [← Lib.size_eq] at this; omega) (by rw [List.length_map]; omega) _ 0 1 (by rw [Nat.zero_add]) (by omega) (by omega)
/-- A list of powers whose text can be read. -/
structure Fine (F : List (Nat × Nat)) : Prop where
  ne : F ≠ []
  el : ∀ x ∈ F, 1 ≤ x.1 ∧ x.1 ≤ 10000 ∧ 1 ≤ x.2 ∧ x.2 ≤ 13
  pr : prodF F ≤ 10000
theorem itB_data (m : Nat) : (itB (m : Int)).data.toList = Lib.decDigits m := by rw [itB_nat]
theorem at_itB (m : Nat) (h : m ≤ 10000) : strconv_Atoi_26.f (itB (m : Int)) = some ((m : Int), none) := by
  have z := itB_size m
  unfold strconv_Atoi_26.f
  rw [if_pos (by omega), itB_data, atoi_dec m (by omega)]
theorem ptB_data (x : Nat × Nat) : (ptB x).data.toList = if 1 < x.2 then Lib.decDigits x.1 ++ 94 :: Lib.decDigits x.2 else Lib.decDigits x.1 := by
  unfold ptB
  split
  · rw [ByteArray.data_append, ByteArray.data_append, Array.toList_append, Array.toList_append, itB_data, itB_data]; rfl
  · rw [itB_data]
theorem no94 (m : Nat) : (94 : UInt8) ∉ Lib.decDigits m := dig_no _ _ (dec_dig m) (by decide)
theorem no46 (m : Nat) : (46 : UInt8) ∉ Lib.decDigits m := dig_no _ _ (dec_dig m) (by decide)
theorem pt46 (x : Nat × Nat) : (46 : UInt8) ∉ (ptB x).data.toList := by
  rw [ptB_data]
  split
  · intro m
    rcases List.mem_append.1 m with q | q
    · exact no46 _ q
    · rcases List.mem_cons.1 q with q | q
      · exact absurd q (by decide)
      · exact no46 _ q
  · exact no46 _
theorem jnP_cut (F : List (Nat × Nat)) (h : F ≠ []) : (cutL 46 (jnP F).data.toList).map ba = F.map ptB := by
  have e : (jnP F).data.toList = Lib.join ((F.map ptB).map (·.data.toList)) [46] := rfl
  rw [e, cutL_join 46 _ (by simpa using h) (fun x hx => by
    obtain ⟨b, hb, rfl⟩ := List.mem_map.1 hx
    obtain ⟨y, _, rfl⟩ := List.mem_map.1 hb
    exact pt46 y), List.map_map]
  exact List.map_id'' (fun b => ba_of b) _
theorem cut_ptB (x : Nat × Nat) (h : x.1 ≤ 10000 ∧ x.2 ≤ 10000) : strings_Cut.f (ptB x) (⟨#[94]⟩ : ByteArray) = some (if 1 < x.2 then (itB (x.1 : Int), itB (x.2 : Int), true) else (itB (x.1 : Int), ba [], false)) := by
  have z := ptB_size x h
  have e : (⟨#[94]⟩ : ByteArray).data.toList = [94] := rfl
  unfold strings_Cut.f
  rw [if_pos (by omega), ptB_data, e]
  by_cases c : 1 < x.2
  · rw [if_pos c, if_pos c, cut_at 94 _ _ (no94 x.1), itB_nat, itB_nat]
  · rw [if_neg c, if_neg c, cut_no 94 _ (no94 x.1), itB_nat]
    rfl
theorem fine_small (F : List (Nat × Nat)) (h : Fine F) : ∀ x ∈ F, x.1 ≤ 10000 ∧ x.2 ≤ 10000 := fun x hx => by
  have := h.el x hx; omega
theorem rdP (F : List (Nat × Nat)) (i : Nat) (h : i < F.length) : rdOf ByteArray.empty (F.map ptB) (i : Int) = ptB (F.getD i (0, 0)) := by
  unfold rdOf
  simp only [Int.toNat_natCast, List.getD_eq_getElem?_getD, List.getElem?_map, List.getElem?_eq_getElem h, Option.map_some, Option.getD_some]
theorem prodF_cons (p j : Nat) (F : List (Nat × Nat)) : prodF ((p, j) :: F) = p ^ j * prodF F := rfl
theorem prodF_pos : ∀ (F : List (Nat × Nat)), (∀ x ∈ F, 1 ≤ x.1) → 1 ≤ prodF F
  | [], _ => Nat.le_refl _
  | (p, j) :: t, h => by
    rw [prodF_cons]
    exact Nat.mul_pos (Nat.pow_pos (h (p, j) (by simp))) (prodF_pos t (fun x hx => h x (List.mem_cons_of_mem _ hx)))
theorem ev_txI_l (s : ByteArray) (F : List (Nat × Nat)) (h : Fine F) (hl : F.length ≤ 10000) (N : Nat) (hs : txB (N : Int) = s) (h1 : 1 ≤ N ∧ N ≤ 10000) : ∀ (d i n : Nat), i + d = F.length → 1 ≤ n → n * prodF (F.drop i) = N →
    Ev (fun k => impl_ReadFactors.l0 k s (n : Int) (F.map ptB) ((F.map ptB).length : Int) (i : Int)) ((N : Int), true) := by
  intro d
  induction d with
  | zero =>
    intro i n hi h1 hp
    have e : i = (F.map ptB).length := by rw [List.length_map]; omega
    rw [List.drop_of_length_le (by omega)] at hp
    have hn : n = N := by rw [← hp]; exact (Nat.mul_one n).symm
    subst hn
    have z := ev_endI s n (F.map ptB)
    rw [if_pos hs] at z
    rw [e]
    exact z
  | succ d ih =>
    intro i n hi hn hp
    have hx := getF_mem F i (by omega)
    have hd := dropF F i (by omega)
    have hr := rdP F i (by omega)
    have he := h.el _ hx
    have pos : 1 ≤ prodF (F.drop (i + 1)) := prodF_pos _ (fun x hx => (h.el x (List.mem_of_mem_drop hx)).1)
    rw [hd] at hp
    generalize F.getD i (0, 0) = x at *
    obtain ⟨p, j⟩ := x
    rw [prodF_cons] at hp
    simp only at he
    have c1 : (i : Int) < ((F.map ptB).length : Int) := by rw [List.length_map]; omega
    have c2 : 0 ≤ (i : Int) := by omega
    have pp : 1 ≤ p ^ j := Nat.pow_pos (by omega)
    have b1 : n * p ^ j * 1 ≤ n * p ^ j * prodF (F.drop (i + 1)) := Nat.mul_le_mul_left _ pos
    have b2 : n * 1 ≤ n * p ^ j := Nat.mul_le_mul_left _ pp
    rw [Nat.mul_one, Nat.mul_assoc n (p ^ j) (prodF _), hp] at b1
    have ih' := ih (i + 1) (n * p ^ j) (by omega) (by omega) (by rw [Nat.mul_assoc]; exact hp)
    have main : Ev (fun k => impl_ReadFactors.j1 k s (n : Int) (p : Int) none (j : Int) none (F.map ptB) ((F.map ptB).length : Int) (i : Int)) ((N : Int), true) := by
      refine ev_j1I s n p j none none _ _ i _ (fun _ _ _ _ _ _ => ?_) (fun q => absurd ⟨rfl, rfl, by omega, by omega, by omega, by omega⟩ q)
      refine ev_l1I s _ _ i p (by omega) _ j (by omega) j n 0 (by omega) hn (by omega) (fun _ => ?_) (fun q => by omega)
      rw [w64 (by omega)]
      exact ih'
    refine Ev.step (fun k => by rw [impl_ReadFactors.l0]) ?_
    simp only [if_pos c1, if_pos c2, hr, cut_ptB (p, j) (by omega), Option.bind_some]
    by_cases g : 1 < j
    · simp only [if_pos g, at_itB p (by omega), at_itB j (by omega), Option.bind_some, if_true]
      exact main
    · have e : j = 1 := by omega
      subst e
      simp only [if_neg g, at_itB p (by omega), Option.bind_some, Bool.false_eq_true, if_false]
      exact main
theorem pow_low (p j : Nat) (h : 2 ≤ p) (hp : p ^ j ≤ 10000) : j ≤ 13 := by
  rcases Nat.lt_or_ge 13 j with q | q
  · have a : 2 ^ j ≤ p ^ j := Nat.pow_le_pow_left h j
    have b : 2 ^ 14 ≤ 2 ^ j := Nat.pow_le_pow_right (by omega) q
    omega
  · exact q
theorem prodF_mem : ∀ (F : List (Nat × Nat)), (∀ x ∈ F, 1 ≤ x.1) → ∀ p j, (p, j) ∈ F → p ^ j ≤ prodF F
  | [], _, p, j, h => by cases h
  | (q, e) :: t, h0, p, j, h => by
    have ht : ∀ x ∈ t, 1 ≤ x.1 := fun x hx => h0 x (List.mem_cons_of_mem _ hx)
    rw [prodF_cons]
    rcases List.mem_cons.1 h with c | c
    · obtain ⟨rfl, rfl⟩ := Prod.mk.inj c
      have := Nat.mul_le_mul_left (p ^ j) (prodF_pos t ht)
      omega
    · have a := prodF_mem t ht p j c
      have b := Nat.mul_le_mul_right (prodF t) (show 1 ≤ q ^ e from Nat.pow_pos (h0 (q, e) (by simp)))
      omega
/-- Each number's text is that of a list of powers. -/
theorem tx_fine (N : Nat) (h : 1 ≤ N ∧ N ≤ 10000) : ∃ F, Fine F ∧ prodF F = N ∧ txB (N : Int) = jnP F ∧ F.length ≤ 10000 := by
  have c : 1 ≤ (N : Int) ∧ (N : Int) ≤ 10000 := by omega
  by_cases h1 : N = 1
  · subst h1
    refine ⟨[(1, 1)], ⟨by simp, by simp, by decide⟩, rfl, ?_, by simp⟩
    have e : jnP [(1, 1)] = ptB (1, 1) := jnP_snoc [] (1, 1)
    rw [e]
    unfold txB ptB
    rw [if_pos c, if_pos (show ((1 : Nat) : Int) = 1 from rfl), if_neg (by decide), itB_nat, dec_one 1 (by decide)]
    rfl
  · have n1 : ¬ (N : Int) = 1 := by omega
    have pf := prodF_fac N h.1
    have pz : ∀ x ∈ fac 2 N, 1 ≤ x.1 := fun x hx => by
      obtain ⟨p, j⟩ := x
      exact Nat.le_trans (by decide) (mem_fac N h.1 p j hx).1.1
    refine ⟨fac 2 N, ⟨fac_ne N (by omega), fun x hx => ?_, by omega⟩, pf, ?_, Nat.le_trans (fac_length_le N h.1) h.2⟩
    · obtain ⟨p, j⟩ := x
      have a := mem_fac N h.1 p j hx
      have b := fac_small N h (p, j) hx
      have pw := prodF_mem _ pz p j hx
      have lo := pow_low p j a.1.1 (by omega)
      have := a.1.1
      have := a.2.1
      exact ⟨by show 1 ≤ p; omega, b.1, by show 1 ≤ j; omega, lo⟩
    · unfold txB
      rw [if_pos c, if_neg n1, Int.toNat_natCast]
theorem itB_le (m : Nat) (h : m < 100000) : (itB (m : Int)).size ≤ 5 := by
  rw [itB_nat]
  show (List.toArray _).size ≤ 5
  rw [List.size_toArray]
  exact dec_len m 5 (by omega) (by omega)
theorem jnP_short : ∀ (n : Nat) (F : List (Nat × Nat)), F.length = n → (∀ x ∈ F, x.1 ≤ 10000 ∧ x.2 ≤ 13) → (jnP F).size ≤ n * 9 := by
  intro n
  induction n with
  | zero =>
    intro F hF _
    have : F = [] := List.length_eq_zero_iff.1 hF
    subst this
    rw [jnP_nil]; decide
  | succ n ih =>
    intro F hF h
    rcases List.eq_nil_or_concat F with e | ⟨G, x, e⟩
    · subst e; cases hF
    · rw [List.concat_eq_append] at e
      subst e
      rw [List.length_append, List.length_singleton] at hF
      have i := ih G (by omega) (fun y hy => h y (List.mem_append_left _ hy))
      have hx := h x (by simp)
      have p : (ptB x).size ≤ 8 := by
        have a := itB_le x.1 (by omega)
        have b : (itB (x.2 : Int)).size ≤ 2 := by
          rw [itB_nat]
          show (List.toArray _).size ≤ 2
          rw [List.size_toArray]
          exact dec_len x.2 2 (by omega) (by omega)
        unfold ptB
        split
        · rw [ByteArray.size_append, ByteArray.size_append]
          have : (⟨#[94]⟩ : ByteArray).size = 1 := rfl
          omega
        · omega
      rw [jnP_snoc]
      split
      · omega
      · rw [ByteArray.size_append, ByteArray.size_append]
        have : (⟨#[46]⟩ : ByteArray).size = 1 := rfl
        omega
theorem prodF_base (b : Nat) (hb : 1 ≤ b) : ∀ (F : List (Nat × Nat)), (∀ x ∈ F, b ≤ x.1 ∧ 1 ≤ x.2) → b ^ F.length ≤ prodF F
  | [], _ => Nat.le_refl _
  | (p, j) :: t, h => by
    have hx := h (p, j) (by simp)
    have a := prodF_base b hb t (fun x hx => h x (List.mem_cons_of_mem _ hx))
    have c : b ^ 1 ≤ p ^ j := Nat.le_trans (Nat.pow_le_pow_left hx.1 1) (Nat.pow_le_pow_right (by omega) hx.2)
    rw [Nat.pow_one] at c
    rw [prodF_cons, List.length_cons, Nat.pow_succ, Nat.mul_comm]
    exact Nat.mul_le_mul c a
theorem tx_few (N : Nat) (h : 1 ≤ N ∧ N ≤ 10000) : (fac 2 N).length ≤ 9 := by
  have pz : ∀ x ∈ fac 2 N, 2 ≤ x.1 ∧ 1 ≤ x.2 := fun x hx => by
    obtain ⟨p, j⟩ := x
    have := mem_fac N h.1 p j hx
    exact ⟨this.1.1, this.2.1⟩
  have asc := fac_ascend N h.1
  have pf := prodF_fac N h.1
  cases e : fac 2 N with
  | nil => simp
  | cons x t =>
    rw [e] at asc pz pf
    obtain ⟨p, j⟩ := x
    have h3 : ∀ y ∈ t, 3 ≤ y.1 ∧ 1 ≤ y.2 := fun y hy => by
      have a := (List.pairwise_cons.1 asc).1 y hy
      have b := (pz _ (List.mem_cons_self)).1
      have c := (pz y (List.mem_cons_of_mem _ hy)).2
      simp only at a b
      omega
    have q := prodF_base 3 (by decide) t h3
    rw [prodF_cons] at pf
    have pp : 1 ≤ p ^ j := Nat.pow_pos (by have := (pz _ (List.mem_cons_self)).1; simp only at this; omega)
    have m := Nat.mul_le_mul_right (prodF t) pp
    rw [List.length_cons]
    rcases Nat.lt_or_ge 8 t.length with g | g
    · have b : 3 ^ 9 ≤ 3 ^ t.length := Nat.pow_le_pow_right (by omega) g
      omega
    · omega
theorem tx_size (N : Nat) (h : 1 ≤ N ∧ N ≤ 10000) : (txB (N : Int)).size ≤ 100 := by
  have c : 1 ≤ (N : Int) ∧ (N : Int) ≤ 10000 := by omega
  unfold txB
  rw [if_pos c]
  by_cases h1 : (N : Int) = 1
  · rw [if_pos h1]; decide
  · rw [if_neg h1, Int.toNat_natCast]
    have pz : ∀ x ∈ fac 2 N, 2 ≤ x.1 ∧ 1 ≤ x.2 := fun x hx => by
      obtain ⟨p, j⟩ := x
      have := mem_fac N h.1 p j hx
      exact ⟨this.1.1, this.2.1⟩
    have el : ∀ x ∈ fac 2 N, x.1 ≤ 10000 ∧ x.2 ≤ 13 := fun x hx => by
      obtain ⟨p, j⟩ := x
      have b := fac_small N h (p, j) hx
      have pw := prodF_mem _ (fun y hy => Nat.le_trans (by decide) (pz y hy).1) p j hx
      rw [prodF_fac N h.1] at pw
      exact ⟨b.1, pow_low p j (pz _ hx).1 (by omega)⟩
    have l9 := tx_few N h
    have := jnP_short _ (fac 2 N) rfl el
    omega
theorem ev_txI (N : Nat) (h : 1 ≤ N ∧ N ≤ 10000) : Ev (fun k => impl_ReadFactors.f k (txB (N : Int))) ((N : Int), true) := by
  obtain ⟨F, hF, hp, ht, hl⟩ := tx_fine N h
  have sz := tx_size N h
  unfold impl_ReadFactors.f
  have c : ¬ ((txB (N : Int)).size : Int) > 100 := by omega
  simp only [if_neg c, splitI (txB (N : Int)) sz, Option.bind_some]
  have e : (cutL 46 (txB (N : Int)).data.toList).map ba = F.map ptB := by rw [ht]; exact jnP_cut F hF.ne
  rw [e]
  exact ev_txI_l (txB (N : Int)) F hF hl N rfl h F.length 0 1 (by omega) (by omega) (by rw [List.drop_zero, Nat.one_mul, hp])

theorem bt_drop (s : ByteArray) (i : Nat) (h : i < s.size) : ∃ c : UInt8, s.data.toList.drop i = c :: s.data.toList.drop (i + 1) ∧ bt s (i : Int) = (c.toNat : Int) := by
  have hi : i < s.data.toList.length := by rw [Array.length_toList]; exact h
  refine ⟨s.data.toList[i], List.drop_eq_getElem_cons hi, ?_⟩
  unfold bt
  have h' : (i : Int).toNat < s.size := by simpa using h
  rw [dif_pos h', Array.getElem_toList]
  rfl
/-- What the reference reads of digits. -/
def dgR : Nat → List UInt8 → Int
  | v, [] => (v : Int)
  | v, c :: t => if c.toNat < 48 ∨ c.toNat > 57 then -1 else dgR (10 * v + (c.toNat - 48)) t
theorem dgR_range : ∀ (l : List UInt8) (v i : Nat), v < 10 ^ i → -1 ≤ dgR v l ∧ dgR v l < ((10 ^ (i + l.length) : Nat) : Int)
  | [], v, i, h => by
    show -1 ≤ (v : Int) ∧ (v : Int) < _
    rw [List.length_nil, Nat.add_zero]
    omega
  | c :: t, v, i, h => by
    unfold dgR
    have pp : 1 ≤ 10 ^ (i + (c :: t).length) := Nat.pow_pos (by omega)
    split
    · omega
    · have := dgR_range t (10 * v + (c.toNat - 48)) (i + 1) (by rw [Nat.pow_succ]; omega)
      rw [List.length_cons, show i + (t.length + 1) = i + 1 + t.length by omega]
      exact this
theorem dgR_dig : ∀ (l : List UInt8) (v : Nat), Dig l → dgR v l = ((l.foldl (fun a c => 10 * a + (c.toNat - 48)) v : Nat) : Int)
  | [], v, _ => rfl
  | c :: t, v, h => by
    have hc := h c (by simp)
    unfold dgR
    rw [if_neg (by omega), List.foldl_cons]
    exact dgR_dig t _ (fun x hx => h x (List.mem_cons_of_mem _ hx))
theorem ev_dgR (s : ByteArray) (hs : s.size ≤ 5) : ∀ (d i v : Nat), i + d = s.size → v < 10 ^ i → Ev (fun k => spec_l1Digits.l0 k s (v : Int) (i : Int)) (dgR v (s.data.toList.drop i)) := by
  intro d
  induction d with
  | zero =>
    intro i v hi hv
    refine Ev.step (fun k => by rw [spec_l1Digits.l0]) ?_
    have c : ¬ (i : Int) < (s.size : Int) := by omega
    rw [List.drop_of_length_le (by rw [← Lib.size_eq]; omega)]
    simp only [if_neg c]
    exact Ev.now _
  | succ d ih =>
    intro i v hi hv
    obtain ⟨c, hc, hb⟩ := bt_drop s i (by omega)
    refine Ev.step (fun k => by rw [spec_l1Digits.l0]) ?_
    have c1 : (i : Int) < (s.size : Int) := by omega
    have c2 : 0 ≤ (i : Int) := by omega
    have b : 10 ^ i ≤ 10 ^ 5 := Nat.pow_le_pow_right (by omega) (by omega)
    simp only [if_pos c1, if_pos c2, hb]
    rw [hc]
    unfold dgR
    by_cases g : c.toNat < 48
    · have g' : (c.toNat : Int) < 48 := by omega
      rw [if_pos (.inl g)]
      simp only [if_pos g']
      exact Ev.now _
    · have g' : ¬ (c.toNat : Int) < 48 := by omega
      by_cases q : c.toNat > 57
      · have q' : (c.toNat : Int) > 57 := by omega
        rw [if_pos (.inr q)]
        simp only [if_neg g', if_pos q']
        exact Ev.now _
      · have q' : ¬ (c.toNat : Int) > 57 := by omega
        rw [if_neg (by omega)]
        have e : wrap64 (wrap64 (10 * (v : Int)) + ((c.toNat : Int) - 48) % 256) = ((10 * v + (c.toNat - 48) : Nat) : Int) := by
          rw [w64 (x := 10 * (v : Int)) (by omega), w64 (by omega)]; omega
        simp only [if_neg g', if_neg q', e, w64 (x := (i : Int) + 1) (by omega)]
        exact ih (i + 1) _ (by omega) (by rw [Nat.pow_succ]; omega)
theorem ev_digS (s : ByteArray) (hs : s.size ≤ 1048577) : ∃ d : Int, Ev (fun k => spec_l1Digits.f k s) d ∧ -1 ≤ d ∧ d < 100000 := by
  have out : Ev (fun k => spec_l1Digits.j0 k s true) (-1) := by
    refine Ev.step (fun k => by rw [spec_l1Digits.j0]) ?_
    simp only [if_true]; exact Ev.now _
  unfold spec_l1Digits.f
  simp only [l1In_f, Option.bind_some, decide_eq_true_eq]
  by_cases c : 1 ≤ (s.size : Int) ∧ (s.size : Int) ≤ 5
  · simp only [if_pos c]
    have go : Ev (fun k => spec_l1Digits.j0 k s false) (dgR 0 s.data.toList) := by
      refine Ev.step (fun k => by rw [spec_l1Digits.j0]) ?_
      simp only [Bool.false_eq_true, if_false]
      exact ev_dgR s (by omega) s.size 0 0 (by omega) (by decide)
    have rg := dgR_range s.data.toList 0 0 (by decide)
    have pw : 10 ^ (0 + s.data.toList.length) ≤ 10 ^ 5 := Nat.pow_le_pow_right (by omega) (by rw [← Lib.size_eq]; omega)
    by_cases c1 : (s.size : Int) > 1
    · have c2 : 0 < (s.size : Int) := by omega
      simp only [if_pos c1, if_pos c2]
      cases h : (bt s 0 == 48) with
      | true => exact ⟨-1, out, by omega, by omega⟩
      | false => exact ⟨_, go, rg.1, by omega⟩
    · simp only [if_neg c1]
      exact ⟨_, go, rg.1, by omega⟩
  · simp only [if_neg c]
    exact ⟨-1, out, by omega, by omega⟩
theorem ev_digV (m : Nat) (h : 1 ≤ m ∧ m ≤ 10000) : Ev (fun k => spec_l1Digits.f k (itB (m : Int))) (m : Int) := by
  have h5 := itB_le m (by omega)
  have h1 := itB_pos m
  have lead := dec_lead m h.1
  have c : 1 ≤ ((itB (m : Int)).size : Int) ∧ ((itB (m : Int)).size : Int) ≤ 5 := by omega
  have v : dgR 0 (itB (m : Int)).data.toList = (m : Int) := by
    rw [itB_data, dgR_dig _ _ (dec_dig m)]
    exact congrArg _ (val_dec m)
  unfold spec_l1Digits.f
  simp only [l1In_f, Option.bind_some, decide_eq_true_eq, if_pos c]
  have go : Ev (fun k => spec_l1Digits.j0 k (itB (m : Int)) false) (m : Int) := by
    refine Ev.step (fun k => by rw [spec_l1Digits.j0]) ?_
    simp only [Bool.false_eq_true, if_false]
    have z := ev_dgR (itB (m : Int)) (by omega) _ 0 0 (Nat.zero_add _) (by decide)
    rw [List.drop_zero, v] at z
    exact z
  by_cases c1 : ((itB (m : Int)).size : Int) > 1
  · have c2 : 0 < ((itB (m : Int)).size : Int) := by omega
    have nb : (bt (itB (m : Int)) 0 == 48) = false := by
      obtain ⟨b, hb, hv⟩ := bt_drop (itB (m : Int)) 0 (by omega)
      rw [List.drop_zero, itB_data] at hb
      rw [hb, List.head?_cons] at lead
      rw [show ((0 : Nat) : Int) = 0 from rfl] at hv
      rw [hv, beq_eq_false_iff_ne]
      intro e
      apply lead
      rw [show b = 48 from UInt8.toNat_inj.1 (by show b.toNat = 48; omega)]
    simp only [if_pos c1, if_pos c2, nb]
    exact go
  · simp only [if_neg c1]
    exact go
theorem cutL_eq (c : UInt8) (t : List UInt8) : cutL c (c :: t) = [] :: cutL c t := by rw [cutL, if_pos rfl]
theorem cutL_else (c x : UInt8) (t : List UInt8) (h : ¬ x = c) : cutL c (x :: t) = (x :: (cutL c t).headD []) :: (cutL c t).tail := by rw [cutL, if_neg h]
def pre (h : List UInt8) (L : List (List UInt8)) : List (List UInt8) := (h ++ L.headD []) :: L.tail
theorem ev_cutS_l (s : ByteArray) (hs : s.size ≤ 10000000) (c : UInt8) : ∀ (d i a : Nat) (out : List ByteArray), i + d = s.size → a ≤ i → out.length ≤ i →
    Ev (fun k => spec_l1Cut.l0 k s (c.toNat : Int) out (a : Int) (i : Int)) (out ++ (pre ((s.data.toList.drop a).take (i - a)) (cutL c (s.data.toList.drop i))).map ba) := by
  intro d
  induction d with
  | zero =>
    intro i a out hi ha ho
    refine Ev.step (fun k => by rw [spec_l1Cut.l0]) ?_
    have c1 : ¬ (i : Int) < (s.size : Int) := by omega
    have c2 : 0 ≤ (a : Int) := by omega
    have c3 : (a : Int) ≤ (s.size : Int) := by omega
    have c4 : out.length < 8796093022208 := by omega
    simp only [if_neg c1, if_pos c2, if_pos c3, if_pos c4, Int.toNat_natCast]
    refine Ev.ret ?_
    have e : i = s.size := by omega
    rw [e, List.drop_of_length_le (l := s.data.toList) (i := s.size) (by rw [← Lib.size_eq]; omega)]
    congr 1
    show _ = [ba (_ ++ [])]
    rw [List.append_nil, Lib.extract_eq]
    rfl
  | succ d ih =>
    intro i a out hi ha ho
    obtain ⟨x, hx, hb⟩ := bt_drop s i (by omega)
    refine Ev.step (fun k => by rw [spec_l1Cut.l0]) ?_
    have c1 : (i : Int) < (s.size : Int) := by omega
    have c2 : 0 ≤ (i : Int) := by omega
    have c3 : 0 ≤ (a : Int) := by omega
    have c4 : (a : Int) ≤ (i : Int) := by omega
    have c5 : (i : Int) ≤ (s.size : Int) := by omega
    have c6 : out.length < 8796093022208 := by omega
    simp only [if_pos c1, if_pos c2, hb, if_pos c3, if_pos c4, if_pos c5, if_pos c6, Int.toNat_natCast, w64 (x := (i : Int) + 1) (by omega)]
    rw [hx]
    by_cases g : x = c
    · subst g
      simp only [if_true]
      have z := ih (i + 1) (i + 1) (out ++ [s.extract a i]) (by omega) (Nat.le_refl _) (by rw [List.length_append, List.length_singleton]; omega)
      refine Ev.to z ?_
      rw [Nat.sub_self, List.take_zero, List.append_assoc]
      congr 1
      rw [cutL_eq]
      show _ = ba (_ ++ []) :: (cutL x _).map ba
      have e : pre [] (cutL x (s.data.toList.drop (i + 1))) = cutL x (s.data.toList.drop (i + 1)) := cutL_head x _
      rw [List.append_nil, e, Lib.extract_eq]
      rfl
    · have g' : ¬ ((x.toNat : Int) = (c.toNat : Int)) := fun e => g (UInt8.toNat_inj.1 (by omega))
      simp only [if_neg g']
      have z := ih (i + 1) a out (by omega) (by omega) (by omega)
      refine Ev.to z ?_
      congr 2
      have t1 : (s.data.toList.drop a).take (i + 1 - a) = (s.data.toList.drop a).take (i - a) ++ [x] := by
        rw [show i + 1 - a = (i - a) + 1 by omega, List.take_add_one]
        congr 1
        rw [List.getElem?_drop, show a + (i - a) = i by omega]
        have : (s.data.toList.drop i)[0]? = some x := by rw [hx]; rfl
        rw [List.getElem?_drop, Nat.add_zero] at this
        rw [this]; rfl
      rw [t1]
      rw [cutL_else c x _ g]
      unfold pre
      simp [List.append_assoc]
theorem ev_cutS (s : ByteArray) (hs : s.size ≤ 10000000) (c : UInt8) : Ev (fun k => spec_l1Cut.f k s (c.toNat : Int)) ((cutL c s.data.toList).map ba) := by
  unfold spec_l1Cut.f
  have z := ev_cutS_l s hs c s.size 0 0 [] (by omega) (Nat.le_refl _) (by simp)
  refine Ev.to z ?_
  rw [List.drop_zero, List.nil_append]
  congr 1
  exact cutL_head c _

theorem ev_l1S (s : ByteArray) (L : List ByteArray) (i : Int) (p : Nat) (hp : 1 ≤ p ∧ p ≤ 100000) (r : Int × Bool) (K : Nat) (hK : K ≤ 20) :
    ∀ (d n j : Nat), j + d = K → 1 ≤ n → n ≤ 1000000000 → (n * p ^ d ≤ 10000 → Ev (fun k => spec_ReadFactors.l0 k s ((n * p ^ d : Nat) : Int) L (wrap64 (i + 1))) r) → (10000 < n * p ^ d → r = (-1, false)) →
    Ev (fun k => spec_ReadFactors.l1 k s (n : Int) L i (p : Int) (K : Int) (j : Int)) r := by
  intro d
  induction d with
  | zero =>
    intro n j hj h1 hn hE hF
    refine Ev.step (fun k => by rw [spec_ReadFactors.l1]) ?_
    have c : ¬ (j : Int) < (K : Int) := by omega
    rw [Nat.pow_zero, Nat.mul_one] at hE hF
    simp only [if_neg c]
    by_cases g : n ≤ 10000
    · have c2 : ¬ (n : Int) > 10000 := by omega
      simp only [if_neg c2]
      exact hE g
    · have c2 : (n : Int) > 10000 := by omega
      simp only [if_pos c2]
      rw [hF (by omega)]
      exact Ev.now _
  | succ d ih =>
    intro n j hj h1 hn hE hF
    refine Ev.step (fun k => by rw [spec_ReadFactors.l1]) ?_
    have c : (j : Int) < (K : Int) := by omega
    have pw : n * p ^ (d + 1) = n * p * p ^ d := by rw [Nat.pow_succ, Nat.mul_assoc, Nat.mul_comm p]
    have pp : 1 ≤ p ^ (d + 1) := Nat.pow_pos (by omega)
    simp only [if_pos c]
    by_cases g : n ≤ 10000
    · have b : n * p ≤ 10000 * 100000 := Nat.mul_le_mul g hp.2
      have e : (n : Int) * (p : Int) = ((n * p : Nat) : Int) := by simp
      have c2 : (n : Int) ≤ 10000 := by omega
      simp only [if_pos c2, e, w64 (x := ((n * p : Nat) : Int)) (by omega), w64 (x := (j : Int) + 1) (by omega)]
      have n1 : 1 ≤ n * p := Nat.mul_pos (by omega) (by omega)
      rw [pw] at hE hF
      exact ih (n * p) (j + 1) (by omega) n1 (by omega) hE hF
    · have c2 : ¬ (n : Int) ≤ 10000 := by omega
      have c3 : (n : Int) > 10000 := by omega
      simp only [if_neg c2, if_pos c3]
      have : n * 1 ≤ n * p ^ (d + 1) := Nat.mul_le_mul_left _ pp
      rw [hF (by omega)]
      exact Ev.now _
theorem ev_j1S (s : ByteArray) (n a b : Int) (L B : List ByteArray) (i : Int) (r : Int × Bool)
    (h1 : (B.length : Int) ≤ 2 → 1 ≤ a → 1 ≤ b → b ≤ 14 → Ev (fun k => spec_ReadFactors.l1 k s n L i a b 0) r)
    (h2 : ¬ ((B.length : Int) ≤ 2 ∧ 1 ≤ a ∧ 1 ≤ b ∧ b ≤ 14) → r = (-1, false)) :
    Ev (fun k => spec_ReadFactors.j1 k s n L i B a b) r := by
  refine Ev.step (fun k => by rw [spec_ReadFactors.j1]) ?_
  have out : r = (-1, false) → Ev (fun k => spec_ReadFactors.j2 k s n L i a b true) r := fun e => by
    refine Ev.step (fun k => by rw [spec_ReadFactors.j2]) ?_
    rw [e]; simp only [if_true]; exact Ev.now _
  by_cases c1 : (B.length : Int) > 2
  · simp only [if_pos c1]; exact out (h2 (fun h => by omega))
  · simp only [if_neg c1]
    by_cases c3 : a < 1
    · simp only [if_pos c3]; exact out (h2 (fun h => by omega))
    · by_cases c5 : b < 1
      · simp only [if_neg c3, if_pos c5]; exact out (h2 (fun h => by omega))
      · simp only [if_neg c3, if_neg c5]
        by_cases c6 : b > 14
        · simp only [decide_eq_true c6]; exact out (h2 (fun h => by omega))
        · simp only [decide_eq_false c6]
          refine Ev.step (fun k => by rw [spec_ReadFactors.j2]) ?_
          simp only [Bool.false_eq_true, if_false]
          exact h1 (by omega) (by omega) (by omega) (by omega)
theorem ev_endS (s : ByteArray) (n : Nat) (L : List ByteArray) : Ev (fun k => spec_ReadFactors.l0 k s (n : Int) L (L.length : Int)) (if txB (n : Int) = s then ((n : Int), true) else (-1, false)) := by
  refine Ev.step (fun k => by rw [spec_ReadFactors.l0]) ?_
  have c : ¬ (L.length : Int) < (L.length : Int) := by omega
  simp only [if_neg c]
  refine Ev.bind (ev_sText (n : Int)) ?_
  simp only [toList_eq]
  by_cases h : txB (n : Int) = s
  · simp only [if_pos h]; exact Ev.now _
  · simp only [if_neg h]; exact Ev.now _
theorem getBA (L : List (List UInt8)) (i : Nat) (h : i < L.length) : rdOf ByteArray.empty (L.map ba) (i : Int) = ba (L.getD i []) := by
  unfold rdOf
  simp only [Int.toNat_natCast, List.getD_eq_getElem?_getD, List.getElem?_map, List.getElem?_eq_getElem h, Option.map_some, Option.getD_some]
theorem ev_allS (s : ByteArray) (L : List (List UInt8)) (hL : ∀ b ∈ L, b.length ≤ 1048577) (hn : L.length ≤ 10000000) : ∀ (d i n : Nat), i + d = L.length → 1 ≤ n → n ≤ 10000 →
    ∃ r, Ev (fun k => spec_ReadFactors.l0 k s (n : Int) (L.map ba) (i : Int)) r ∧ Good s r := by
  intro d
  induction d with
  | zero =>
    intro i n hi h1 h2
    have e : i = (L.map ba).length := by rw [List.length_map]; omega
    rw [e]
    refine ⟨_, ev_endS s n (L.map ba), ?_⟩
    by_cases h : txB (n : Int) = s
    · rw [if_pos h]; exact .inr ⟨n, h1, h2, rfl, h⟩
    · rw [if_neg h]; exact .inl rfl
  | succ d ih =>
    intro i n hi h1 h2
    have hr := getBA L i (by omega)
    have hb : (L.getD i []).length ≤ 1048577 := by
      rw [List.getD_eq_getElem?_getD, List.getElem?_eq_getElem (show i < L.length by omega)]
      exact hL _ (List.getElem_mem _)
    generalize hbe : L.getD i [] = b at hb hr
    have c1 : (i : Int) < ((L.map ba).length : Int) := by rw [List.length_map]; omega
    have c2 : 0 ≤ (i : Int) := by omega
    have hle := cutL_le 94 b
    have hne := cutL_ne 94 b
    have cb := ev_cutS (ba b) (by rw [ba_size]; omega) 94
    rw [ba_data] at cb
    generalize cutL 94 b = C at hle hne cb
    have cl : 0 < C.length := List.length_pos_iff.2 hne
    have el : ∀ j, j < C.length → (ba (C.getD j [])).size ≤ 1048577 := fun j hj => by
      rw [ba_size, List.getD_eq_getElem?_getD, List.getElem?_eq_getElem hj]
      have := hle _ (List.getElem_mem hj)
      show (C[j]).length ≤ _
      omega
    obtain ⟨a, ha, a0, a1⟩ := ev_digS _ (el 0 cl)
    have go : ∀ (m : Int), ∃ r, Ev (fun k => spec_ReadFactors.j1 k s (n : Int) (L.map ba) (i : Int) (C.map ba) a m) r ∧ Good s r := fun m => by
      by_cases q : ((C.map ba).length : Int) ≤ 2 ∧ 1 ≤ a ∧ 1 ≤ m ∧ m ≤ 14
      · obtain ⟨p, rfl⟩ := Int.eq_ofNat_of_zero_le (show 0 ≤ a by omega)
        obtain ⟨K, rfl⟩ := Int.eq_ofNat_of_zero_le (show 0 ≤ m by omega)
        by_cases g : n * p ^ K ≤ 10000
        · obtain ⟨r, hr, hg⟩ := ih (i + 1) (n * p ^ K) (by omega) (Nat.mul_pos (by omega) (Nat.pow_pos (by omega))) g
          refine ⟨r, ev_j1S s n p K _ _ i r (fun _ _ _ _ => ?_) (fun h => absurd q h), hg⟩
          refine ev_l1S s _ i p (by omega) r K (by omega) K n 0 (by omega) h1 (by omega) (fun _ => ?_) (fun h => by omega)
          rw [w64 (by omega)]
          exact hr
        · refine ⟨(-1, false), ev_j1S s n p K _ _ i _ (fun _ _ _ _ => ?_) (fun h => absurd q h), .inl rfl⟩
          exact ev_l1S s _ i p (by omega) _ K (by omega) K n 0 (by omega) h1 (by omega) (fun h => absurd h g) (fun _ => rfl)
      · exact ⟨(-1, false), ev_j1S s n a m _ _ i _ (fun p1 p2 p3 p4 => absurd ⟨p1, p2, p3, p4⟩ q) (fun _ => rfl), .inl rfl⟩
    have r0 := getBA C 0 cl
    rw [show ((0 : Nat) : Int) = 0 from rfl] at r0
    have l0 : 0 < ((C.map ba).length : Int) := by rw [List.length_map]; omega
    have step : ∀ r, Ev (fun k => if ((C.map ba).length : Int) = 2 then (if 1 < ((C.map ba).length : Int) then ((spec_l1Digits.f k (rdOf ByteArray.empty (C.map ba) 1)).bind fun t => spec_ReadFactors.j1 k s (n : Int) (L.map ba) (i : Int) (C.map ba) a t) else none) else spec_ReadFactors.j1 k s (n : Int) (L.map ba) (i : Int) (C.map ba) a 1) r →
        Ev (fun k => spec_ReadFactors.l0 k s (n : Int) (L.map ba) (i : Int)) r := fun r he => by
      refine Ev.step (fun k => by rw [spec_ReadFactors.l0]) ?_
      simp only [if_pos c1, if_pos c2, hr]
      refine Ev.bind cb ?_
      simp only [if_pos l0, r0]
      exact Ev.bind ha he
    by_cases two : C.length = 2
    · have r1 := getBA C 1 (by omega)
      rw [show ((1 : Nat) : Int) = 1 from rfl] at r1
      obtain ⟨a', ha', _, _⟩ := ev_digS _ (el 1 (by omega))
      obtain ⟨r, he, hg⟩ := go a'
      refine ⟨r, step r ?_, hg⟩
      have t1 : ((C.map ba).length : Int) = 2 := by rw [List.length_map]; omega
      have t2 : 1 < ((C.map ba).length : Int) := by omega
      simp only [if_pos t1, if_pos t2, r1]
      exact Ev.bind ha' he
    · obtain ⟨r, he, hg⟩ := go 1
      refine ⟨r, step r ?_, hg⟩
      have t1 : ¬ ((C.map ba).length : Int) = 2 := by rw [List.length_map]; omega
      simp only [if_neg t1]
      exact he
theorem ev_readS (s : ByteArray) (h : s.size ≤ 1048577) : ∃ r, Ev (fun k => spec_ReadFactors.f k s) r ∧ Good s r := by
  unfold spec_ReadFactors.f
  have hle := cutL_le 46 s.data.toList
  have hln := cutL_length 46 s.data.toList
  rw [← Lib.size_eq] at hln
  obtain ⟨r, he, hg⟩ := ev_allS s (cutL 46 s.data.toList) (fun b hb => by
      have := hle b hb
      rw [← Lib.size_eq] at this; omega) (by omega) _ 0 1 (by rw [Nat.zero_add]) (by omega) (by omega)
  exact ⟨r, Ev.bind (ev_cutS s (by omega) 46) he, hg⟩
theorem ev_txS_l (s : ByteArray) (F : List (Nat × Nat)) (h : Fine F) (hl : F.length ≤ 10000) (N : Nat) (hs : txB (N : Int) = s) (h1 : 1 ≤ N ∧ N ≤ 10000) : ∀ (d i n : Nat), i + d = F.length → 1 ≤ n → n * prodF (F.drop i) = N →
    Ev (fun k => spec_ReadFactors.l0 k s (n : Int) (F.map ptB) (i : Int)) ((N : Int), true) := by
  intro d
  induction d with
  | zero =>
    intro i n hi h1 hp
    have e : i = (F.map ptB).length := by rw [List.length_map]; omega
    rw [List.drop_of_length_le (by omega)] at hp
    have hn : n = N := by rw [← hp]; exact (Nat.mul_one n).symm
    subst hn
    have z := ev_endS s n (F.map ptB)
    rw [if_pos hs] at z
    rw [e]
    exact z
  | succ d ih =>
    intro i n hi hn hp
    have hx := getF_mem F i (by omega)
    have hd := dropF F i (by omega)
    have hr := rdP F i (by omega)
    have he := h.el _ hx
    have pos : 1 ≤ prodF (F.drop (i + 1)) := prodF_pos _ (fun x hx => (h.el x (List.mem_of_mem_drop hx)).1)
    rw [hd] at hp
    generalize F.getD i (0, 0) = x at *
    obtain ⟨p, j⟩ := x
    rw [prodF_cons] at hp
    simp only at he
    have c1 : (i : Int) < ((F.map ptB).length : Int) := by rw [List.length_map]; omega
    have c2 : 0 ≤ (i : Int) := by omega
    have pp : 1 ≤ p ^ j := Nat.pow_pos (by omega)
    have b1 : n * p ^ j * 1 ≤ n * p ^ j * prodF (F.drop (i + 1)) := Nat.mul_le_mul_left _ pos
    have b2 : n * 1 ≤ n * p ^ j := Nat.mul_le_mul_left _ pp
    rw [Nat.mul_one, Nat.mul_assoc n (p ^ j) (prodF _), hp] at b1
    have ih' := ih (i + 1) (n * p ^ j) (by omega) (by omega) (by rw [Nat.mul_assoc]; exact hp)
    have main : ∀ B : List ByteArray, (B.length : Int) ≤ 2 → Ev (fun k => spec_ReadFactors.j1 k s (n : Int) (F.map ptB) (i : Int) B (p : Int) (j : Int)) ((N : Int), true) := fun B hB => by
      refine ev_j1S s n p j _ B i _ (fun _ _ _ _ => ?_) (fun q => absurd ⟨hB, by omega, by omega, by omega⟩ q)
      refine ev_l1S s _ i p (by omega) _ j (by omega) j n 0 (by omega) hn (by omega) (fun _ => ?_) (fun q => by omega)
      rw [w64 (by omega)]
      exact ih'
    have sz := ptB_size (p, j) (by show p ≤ 10000 ∧ j ≤ 10000; omega)
    have cb := ev_cutS (ptB (p, j)) (by omega) 94
    have hp' : 1 ≤ p ∧ p ≤ 10000 := by omega
    have hj' : 1 ≤ j ∧ j ≤ 10000 := by omega
    refine Ev.step (fun k => by rw [spec_ReadFactors.l0]) ?_
    simp only [if_pos c1, if_pos c2, hr]
    refine Ev.bind cb ?_
    by_cases g : 1 < j
    · have e : (cutL 94 (ptB (p, j)).data.toList).map ba = [itB (p : Int), itB (j : Int)] := by
        rw [ptB_data, if_pos g, cutL_at 94 _ _ (no94 p), cutL_no 94 _ (no94 j), itB_nat, itB_nat]; rfl
      have L0 : 0 < (([itB (p : Int), itB (j : Int)] : List ByteArray).length : Int) := by simp
      have L1 : 1 < (([itB (p : Int), itB (j : Int)] : List ByteArray).length : Int) := by simp
      have L2 : (([itB (p : Int), itB (j : Int)] : List ByteArray).length : Int) = 2 := by simp
      have q0 : rdOf ByteArray.empty [itB (p : Int), itB (j : Int)] 0 = itB (p : Int) := rfl
      have q1 : rdOf ByteArray.empty [itB (p : Int), itB (j : Int)] 1 = itB (j : Int) := rfl
      rw [e]
      simp only [if_pos L0, if_pos L1, if_pos L2, q0, q1]
      exact Ev.bind (ev_digV p hp') (Ev.bind (ev_digV j hj') (main _ (by simp)))
    · have e : (cutL 94 (ptB (p, j)).data.toList).map ba = [itB (p : Int)] := by
        rw [ptB_data, if_neg g, cutL_no 94 _ (no94 p), itB_nat]; rfl
      have j1 : j = 1 := by omega
      subst j1
      have L0 : 0 < (([itB (p : Int)] : List ByteArray).length : Int) := by simp
      have L2 : ¬ (([itB (p : Int)] : List ByteArray).length : Int) = 2 := by simp
      have q0 : rdOf ByteArray.empty [itB (p : Int)] 0 = itB (p : Int) := rfl
      rw [e]
      simp only [if_pos L0, if_neg L2, q0]
      exact Ev.bind (ev_digV p hp') (main _ (by simp))
theorem ev_txS (N : Nat) (h : 1 ≤ N ∧ N ≤ 10000) (hs : (txB (N : Int)).size ≤ 1048577) : Ev (fun k => spec_ReadFactors.f k (txB (N : Int))) ((N : Int), true) := by
  obtain ⟨F, hF, hp, ht, hl⟩ := tx_fine N h
  unfold spec_ReadFactors.f
  refine Ev.bind (ev_cutS (txB (N : Int)) (by omega) 46) ?_
  have e : (cutL 46 (txB (N : Int)).data.toList).map ba = F.map ptB := by rw [ht]; exact jnP_cut F hF.ne
  rw [e]
  exact ev_txS_l (txB (N : Int)) F hF hl N rfl h F.length 0 1 (by omega) (by omega) (by rw [List.drop_zero, Nat.one_mul, hp])

/-- The program and the reference read the same. -/
theorem reads_same (s : ByteArray) (h : s.size ≤ 1048577) : ∃ r, Ev (fun k => impl_ReadFactors.f k s) r ∧ Ev (fun k => spec_ReadFactors.f k s) r ∧ Good s r := by
  obtain ⟨r, hr, hg⟩ := ev_readI s h
  obtain ⟨q, hq, gq⟩ := ev_readS s (by omega)
  rcases hg with rfl | ⟨m, m1, m2, rfl, hm⟩
  · rcases gq with rfl | ⟨m, m1, m2, rfl, hm⟩
    · exact ⟨_, hr, hq, .inl rfl⟩
    · subst hm
      exact ⟨_, ev_txI m ⟨m1, m2⟩, hq, .inr ⟨m, m1, m2, rfl, rfl⟩⟩
  · subst hm
    have sz := tx_size m ⟨m1, m2⟩
    exact ⟨_, hr, ev_txS m ⟨m1, m2⟩ (by omega), .inr ⟨m, m1, m2, rfl, rfl⟩⟩

theorem wf_u8 {x : Int} (h : (Lit.int .u8 x).wf = true) : 0 ≤ x ∧ x ≤ 255 := by
  simp [Lit.wf, IntKind.wrap, IntKind.bits, IntKind.signed, IntKind.min, IntKind.max] at h; omega
theorem wf_i64 {x : Int} (h : (Lit.int .i64 x).wf = true) : -9223372036854775808 ≤ x ∧ x ≤ 9223372036854775807 := by
  simp [Lit.wf, IntKind.wrap, IntKind.bits, IntKind.signed, IntKind.min, IntKind.max] at h; omega
theorem xor_nonneg (x y : Int) (h0 : 0 ≤ x) (h1 : x < 4611686018427387904) (h2 : 0 ≤ y) (h3 : y < 4611686018427387904) : 0 ≤ Go.bits .xor .i64 x y := by
  obtain ⟨a, rfl⟩ := Int.eq_ofNat_of_zero_le h0
  obtain ⟨b, rfl⟩ := Int.eq_ofNat_of_zero_le h2
  have ha : a < 2 ^ 62 := by omega
  have hb : b < 2 ^ 62 := by omega
  have hx := Nat.xor_lt_two_pow ha hb
  have ha' : a % 2 ^ 64 = a := Nat.mod_eq_of_lt (by omega)
  have hb' : b % 2 ^ 64 = b := Nat.mod_eq_of_lt (by omega)
  have e : Go.bits .xor .i64 ((a : Nat) : Int) ((b : Nat) : Int) = IntKind.i64.wrap ((a ^^^ b : Nat) : Int) := by
    simp only [Go.bits, IntKind.bits, BitVec.ofInt_natCast]
    show IntKind.i64.wrap (((BitVec.ofNat 64 a ^^^ BitVec.ofNat 64 b).toNat : Nat) : Int) = _
    rw [BitVec.toNat_xor, BitVec.toNat_ofNat, BitVec.toNat_ofNat, ha', hb']
  rw [e]
  simp only [IntKind.wrap, IntKind.bits, IntKind.signed]
  simp
  omega
/-- The bytes of a draw. -/
def Bytes (b : List Int) : Prop := b.length ≤ 2000 ∧ ∀ x ∈ b, 0 ≤ x ∧ x ≤ 255
theorem Bytes.rd {b : List Int} (hb : Bytes b) (i : Int) : 0 ≤ rd b i ∧ rd b i ≤ 255 := by
  show 0 ≤ b.getD i.toNat 0 ∧ b.getD i.toNat 0 ≤ 255
  rw [List.getD_eq_getElem?_getD]
  by_cases h : i.toNat < b.length
  · rw [List.getElem?_eq_getElem h]; exact hb.2 _ (List.getElem_mem _)
  · rw [List.getElem?_eq_none (by omega)]; simp
theorem ev_pick {b : List Int} (hb : Bytes b) (p n : Int) (hp : 0 ≤ p ∧ p ≤ 1000000) (hn : 1 ≤ n ∧ n ≤ 1000000000000) :
    ∃ r, (0 ≤ r ∧ r < n) ∧ Ev (fun k => spec_l20Rd_pick.f k b p n) (r, p + 1) := by
  have g0 : ¬ n < 1 := by omega
  unfold spec_l20Rd_pick.f
  simp only [if_neg g0, w64 (x := p + 1) (by omega)]
  have e1 : p + 1 - 1 = p := by omega
  by_cases h0 : (b.length : Int) = 0
  · refine ⟨0, by omega, Ev.step (fun k => by rw [spec_l20Rd_pick.j0]) ?_⟩
    simp only [h0, beq_self_eq_true, if_true]; exact Ev.now _
  have hl := hb.1
  have n0 : ¬ n = 0 := by omega
  by_cases h1 : p < (b.length : Int)
  · have hr := hb.rd p
    refine ⟨Int.tmod (rd b p) n, ?_, Ev.step (fun k => by rw [spec_l20Rd_pick.j0]) ?_⟩
    · rw [Int.tmod_eq_emod_of_nonneg hr.1]; exact ⟨Int.emod_nonneg _ n0, Int.emod_lt_of_pos _ (by omega)⟩
    · simp only [e1, w64 (x := p) (by omega), beq_eq_false_iff_ne.2 h0, Bool.false_eq_true, if_false, if_pos h1, if_pos hp.1, if_neg n0, w64 (x := rd b p) (by omega)]
      exact Ev.now _
  · have L0 : (0 : Int) < (b.length : Int) := by omega
    have m1 : Int.tmod p (b.length : Int) = p % (b.length : Int) := Int.tmod_eq_emod_of_nonneg hp.1
    have m2 : Int.tmod (p * 7 + 3) (b.length : Int) = (p * 7 + 3) % (b.length : Int) := Int.tmod_eq_emod_of_nonneg (by omega)
    have q1 : Int.tdiv p (b.length : Int) = p / (b.length : Int) := Int.tdiv_eq_ediv_of_nonneg hp.1
    have a1 := Int.emod_nonneg p (show (b.length : Int) ≠ 0 from h0)
    have a2 := Int.emod_lt_of_pos p L0
    have a3 := Int.emod_nonneg (p * 7 + 3) (show (b.length : Int) ≠ 0 from h0)
    have a4 := Int.emod_lt_of_pos (p * 7 + 3) L0
    have a5 : 0 ≤ p / (b.length : Int) := Int.ediv_nonneg hp.1 (by omega)
    have a6 : p / (b.length : Int) ≤ p := Int.ediv_le_self _ hp.1
    have u := hb.rd (p % (b.length : Int))
    have v := hb.rd ((p * 7 + 3) % (b.length : Int))
    generalize hU : rd b (p % (b.length : Int)) = U at *
    generalize hV : rd b ((p * 7 + 3) % (b.length : Int)) = V at *
    generalize hQ : p / (b.length : Int) = Q at *
    generalize hM : p % (b.length : Int) = M at *
    generalize hM2 : (p * 7 + 3) % (b.length : Int) = M2 at *
    generalize hX : U * 131 + V * 1117 + p * 29 + Q * 53 = X at *
    have x0 : 0 ≤ X := by omega
    have x1 : X ≤ 1000000000000 := by omega
    have d1 : Int.tdiv X 64 = X / 64 := Int.tdiv_eq_ediv_of_nonneg x0
    have y := xor_nonneg X (X / 64) x0 (by omega) (by omega) (by omega)
    refine ⟨Int.tmod (Go.bits .xor .i64 X (X / 64)) n, ?_, Ev.step (fun k => by rw [spec_l20Rd_pick.j0]) ?_⟩
    · rw [Int.tmod_eq_emod_of_nonneg y]; exact ⟨Int.emod_nonneg _ n0, Int.emod_lt_of_pos _ (by omega)⟩
    · simp only [e1, w64 (x := p) (by omega), w64 (x := p * 7) (by omega), w64 (x := p * 7 + 3) (by omega), beq_eq_false_iff_ne.2 h0, Bool.false_eq_true, if_false, if_neg h1, if_neg h0, m1, m2, q1, if_pos a1, if_pos a2, if_pos a3, if_pos a4, if_neg n0, hU, hV, w64 (x := U) (by omega), w64 (x := V) (by omega), w64 (x := U * 131) (by omega), w64 (x := V * 1117) (by omega), w64 (x := U * 131 + V * 1117) (by omega), w64 (x := p * 29) (by omega), w64 (x := U * 131 + V * 1117 + p * 29) (by omega), w64 (x := Q) (by omega), w64 (x := Q * 53) (by omega), hX, w64 (x := X) (by omega), d1, w64 (x := X / 64) (by omega)]
      exact Ev.now _

theorem open_l (l : List Int) (h : ∀ x ∈ l, (Lit.int .u8 x).wf = true) : ∃ b, Bytes b ∧ spec_l20Open.f l = some (b, 0) := by
  unfold spec_l20Open.f
  by_cases c : (l.length : Int) > 2000
  · refine ⟨l.take 2000, ⟨by simp; omega, fun x hx => wf_u8 (h x (List.mem_of_mem_take hx))⟩, ?_⟩
    rw [if_pos c, if_pos (by omega)]
  · exact ⟨l, ⟨by omega, fun x hx => wf_u8 (h x hx)⟩, by rw [if_neg c]⟩

theorem rd7 (a b c d e f g : Int) (i : Int) (h : 0 ≤ i ∧ i < 7) (lo hi : Int) (ha : lo ≤ a ∧ a ≤ hi) (hb : lo ≤ b ∧ b ≤ hi) (hc : lo ≤ c ∧ c ≤ hi) (hd : lo ≤ d ∧ d ≤ hi) (he : lo ≤ e ∧ e ≤ hi) (hf : lo ≤ f ∧ f ≤ hi) (hg : lo ≤ g ∧ g ≤ hi) :
    lo ≤ rd [a, b, c, d, e, f, g] i ∧ rd [a, b, c, d, e, f, g] i ≤ hi := by
  obtain ⟨n, rfl⟩ := Int.eq_ofNat_of_zero_le h.1
  have : n = 0 ∨ n = 1 ∨ n = 2 ∨ n = 3 ∨ n = 4 ∨ n = 5 ∨ n = 6 := by omega
  rcases this with rfl | rfl | rfl | rfl | rfl | rfl | rfl <;> assumption
theorem mul_bd {a b A B : Int} (ha : 0 ≤ a ∧ a ≤ A) (hb : 0 ≤ b ∧ b ≤ B) : 0 ≤ a * b ∧ a * b ≤ A * B :=
  ⟨Int.mul_nonneg ha.1 hb.1, Int.mul_le_mul ha.2 hb.2 hb.1 (by omega)⟩
theorem ev_some {b : List Int} (hb : Bytes b) (p : Int) (hp : 0 ≤ p ∧ p ≤ 999900) :
    ∃ v q, (-20000 ≤ v ∧ v ≤ 40000) ∧ (p ≤ q ∧ q ≤ p + 8) ∧ Ev (fun k => spec_l20Some.f k b p) (v, q) := by
  unfold spec_l20Some.f
  obtain ⟨r1, b1, e1⟩ := ev_pick hb p 12 (by omega) (by omega)
  obtain ⟨r2, b2, e2⟩ := ev_pick hb (p + 1) 60 (by omega) (by omega)
  obtain ⟨r3, b3, e3⟩ := ev_pick hb (p + 1 + 1) 100 (by omega) (by omega)
  obtain ⟨r4, b4, e4⟩ := ev_pick hb (p + 1 + 1 + 1) 100 (by omega) (by omega)
  obtain ⟨r5, b5, e5⟩ := ev_pick hb (p + 1 + 1 + 1 + 1) 60 (by omega) (by omega)
  obtain ⟨r6, b6, e6⟩ := ev_pick hb (p + 1 + 1 + 1 + 1 + 1) 13 (by omega) (by omega)
  obtain ⟨r7, b7, e7⟩ := ev_pick hb (p + 1 + 1 + 1 + 1 + 1 + 1) 40 (by omega) (by omega)
  obtain ⟨r8, b8, e8⟩ := ev_pick hb (p + 1 + 1 + 1 + 1 + 1 + 1 + 1) 50 (by omega) (by omega)
  have m := mul_bd (a := r3) (b := r4) (A := 99) (B := 99) (by omega) (by omega)
  have d6 : Int.tdiv r6 2 = r6 / 2 := Int.tdiv_eq_ediv_of_nonneg b6.1
  have d7 : Int.tdiv r7 39 = r7 / 39 := Int.tdiv_eq_ediv_of_nonneg b7.1
  have d8 : Int.tdiv r8 49 = r8 / 49 := Int.tdiv_eq_ediv_of_nonneg b8.1
  have RB := rd7 (1 + r1) (1 + r2) (1 + r3 * r4) (12 * (1 + r5)) 9973 8192 9240 (r6 / 2) (by omega) 1 9973 (by omega) (by omega) (by omega) (by omega) (by omega) (by omega) (by omega)
  generalize hR : rd [1 + r1, 1 + r2, 1 + r3 * r4, 12 * (1 + r5), 9973, 8192, 9240] (r6 / 2) = R at *
  refine ⟨R + r7 / 39 * 10000 - r8 / 49 * 20000, p + 1 + 1 + 1 + 1 + 1 + 1 + 1 + 1, by omega, by omega, ?_⟩
  refine Ev.bind e1 (Ev.bind e2 (Ev.bind e3 (Ev.bind e4 (Ev.bind e5 ?_))))
  simp only [Option.bind_some, w64 (x := 1 + r1) (by omega), w64 (x := 1 + r2) (by omega), w64 (x := r3 * r4) (by omega), w64 (x := 1 + r3 * r4) (by omega), w64 (x := 1 + r5) (by omega), w64 (x := 12 * (1 + r5)) (by omega)]
  refine Ev.bind e6 ?_
  have c1 : 0 ≤ r6 / 2 := by omega
  have c2 : r6 / 2 < (([1 + r1, 1 + r2, 1 + r3 * r4, 12 * (1 + r5), 9973, 8192, 9240] : List Int).length : Int) := by simp; omega
  simp only [d6, w64 (x := r6 / 2) (by omega), if_pos c1, if_pos c2]
  refine Ev.bind e7 (Ev.bind e8 ?_)
  simp only [hR, d7, d8, w64 (x := r7 / 39) (by omega), w64 (x := r8 / 49) (by omega), w64 (x := r7 / 39 * 10000) (by omega), w64 (x := r8 / 49 * 20000) (by omega), w64 (x := R + r7 / 39 * 10000) (by omega), w64 (x := R + r7 / 39 * 10000 - r8 / 49 * 20000) (by omega)]
  exact Ev.now _

theorem alive_f : laws_alive.f = some true := by
  unfold laws_alive.f impl_DividesOk.f
  simp only [numberOk_f, Option.bind_some]; simp

theorem cutL_point (c : UInt8) : ∀ l : List UInt8, ([] : List UInt8) ∈ (cutL c (l ++ [c])).tail
  | [] => by rw [List.nil_append, cutL_eq]; simp [cutL]
  | x :: t => by
    have ih := cutL_point c t
    rw [List.cons_append]
    by_cases g : x = c
    · subst g
      rw [cutL_eq]
      exact List.mem_of_mem_tail ih
    · rw [cutL_else c x _ g]
      exact ih
theorem tx_point (N : Nat) (h : 1 ≤ N ∧ N ≤ 10000) (s : ByteArray) : ¬ txB (N : Int) = s ++ (⟨#[46]⟩ : ByteArray) := fun e => by
  obtain ⟨F, hF, hp, ht, hl⟩ := tx_fine N h
  have z := jnP_cut F hF.ne
  rw [← ht, e, ByteArray.data_append, Array.toList_append] at z
  have m := List.mem_of_mem_tail (cutL_point 46 s.data.toList)
  have q : ba [] ∈ F.map ptB := by rw [← z]; exact List.mem_map_of_mem m
  obtain ⟨x, _, hx⟩ := List.mem_map.1 q
  have p := ptB_pos x
  rw [hx, ba_size] at p
  simp at p
theorem ev_drawT (b : List Int) (hb : Bytes b) (p : Int) (hp : 0 ≤ p ∧ p ≤ 10000) (s : ByteArray) (h : 1 ≤ s.size ∧ s.size ≤ 100) : ∃ r, r.size ≤ 1000 ∧ Ev (fun k => spec_DrawReadFactors.j0 k s b p) r := by
  obtain ⟨r1, b1, e1⟩ := ev_pick hb p 3 (by omega) (by omega)
  by_cases c : r1 = 0
  · obtain ⟨r2, b2, e2⟩ := ev_pick hb (p + 1) (s.size : Int) (by omega) (by omega)
    obtain ⟨r3, b3, e3⟩ := ev_pick hb (p + 1 + 1) 6 (by omega) (by omega)
    have c1 : 0 ≤ r2 := by omega
    have c2 : r2 ≤ (s.size : Int) := by omega
    have c3 : 0 ≤ r3 := by omega
    have c4 : r3 < (([(⟨#[]⟩ : ByteArray), (⟨#[48]⟩ : ByteArray), (⟨#[46]⟩ : ByteArray), (⟨#[94]⟩ : ByteArray), (⟨#[49]⟩ : ByteArray), (⟨#[52]⟩ : ByteArray)] : List ByteArray).length : Int) := by show r3 < 6; omega
    have one : (rdOf ByteArray.empty [(⟨#[]⟩ : ByteArray), (⟨#[48]⟩ : ByteArray), (⟨#[46]⟩ : ByteArray), (⟨#[94]⟩ : ByteArray), (⟨#[49]⟩ : ByteArray), (⟨#[52]⟩ : ByteArray)] r3).size ≤ 1 := by
      obtain ⟨n, rfl⟩ := Int.eq_ofNat_of_zero_le c3
      have : n = 0 ∨ n = 1 ∨ n = 2 ∨ n = 3 ∨ n = 4 ∨ n = 5 := by omega
      rcases this with rfl | rfl | rfl | rfl | rfl | rfl <;> decide
    generalize hY : ([(⟨#[]⟩ : ByteArray), (⟨#[48]⟩ : ByteArray), (⟨#[46]⟩ : ByteArray), (⟨#[94]⟩ : ByteArray), (⟨#[49]⟩ : ByteArray), (⟨#[52]⟩ : ByteArray)] : List ByteArray) = Y at *
    generalize hZ : rdOf ByteArray.empty Y r3 = Z at *
    have s1 : (s.extract 0 r2.toNat).size ≤ 100 := by rw [ByteArray.size_extract]; omega
    have s2 : (s.extract (r2 + 1).toNat s.size).size ≤ 100 := by rw [ByteArray.size_extract]; omega
    have c5 : (s.extract 0 r2.toNat).size + Z.size ≤ 9223372036854775807 := by omega
    have c6 : 0 ≤ r2 + 1 := by omega
    have c7 : r2 + 1 ≤ (s.size : Int) := by omega
    have c8 : ((s.extract 0 r2.toNat) ++ Z).size + (s.extract (r2 + 1).toNat s.size).size ≤ 9223372036854775807 := by rw [ByteArray.size_append]; omega
    refine ⟨((s.extract 0 r2.toNat) ++ Z) ++ (s.extract (r2 + 1).toNat s.size), by rw [ByteArray.size_append, ByteArray.size_append]; omega, ?_⟩
    refine Ev.step (fun k => by rw [spec_DrawReadFactors.j0]) ?_
    refine Ev.bind e1 ?_
    simp only [if_pos c]
    refine Ev.bind e2 ?_
    simp only [if_pos c1, if_pos c2, Option.bind_some]
    refine Ev.bind e3 ?_
    simp only [hY, hZ, if_pos c3, if_pos c4, if_pos c5, w64 (x := r2 + 1) (by omega), if_pos c6, if_pos c7, if_pos c8]
    exact Ev.now _
  · refine ⟨s, by omega, Ev.step (fun k => by rw [spec_DrawReadFactors.j0]) ?_⟩
    refine Ev.bind e1 ?_
    simp only [if_neg c]
    exact Ev.now _
theorem tx_pos (N : Nat) (h : 1 ≤ N ∧ N ≤ 10000) : 1 ≤ (txB (N : Int)).size := by
  have c : 1 ≤ (N : Int) ∧ (N : Int) ≤ 10000 := by omega
  unfold txB
  rw [if_pos c]
  by_cases h1 : (N : Int) = 1
  · rw [if_pos h1]; decide
  · rw [if_neg h1, Int.toNat_natCast]; exact jnP_pos _ (fac_ne N (by omega))
theorem FnReadFactors : laws_FnReadFactors.Pure := by
  intro l hm hl hw
  apply Ev.k
  obtain ⟨b, hb, ho⟩ := open_l l hw
  obtain ⟨n, p, hp, hn, hE⟩ := ev_some hb 0 (by omega)
  unfold laws_FnReadFactors.f
  by_cases c : (l.length : Int) > 1048576
  · simp only [if_pos c]; exact Ev.now _
  simp only [if_neg c]
  obtain ⟨s, hs, hd⟩ : ∃ s, s.size ≤ 1000 ∧ Ev (fun k => spec_DrawReadFactors.f k l) s := by
    unfold spec_DrawReadFactors.f
    simp only [ho, Option.bind_some]
    by_cases q : 1 ≤ n ∧ n ≤ 10000
    · obtain ⟨N, rfl⟩ := Int.eq_ofNat_of_zero_le (show 0 ≤ n by omega)
      obtain ⟨s, hs, he⟩ := ev_drawT b hb p (by omega) (txB (N : Int)) ⟨tx_pos N (by omega), tx_size N (by omega)⟩
      refine ⟨s, hs, Ev.bind hE (Ev.bind (ev_sText (N : Int)) ?_)⟩
      have ne : ¬ (txB (N : Int)).toList = ([] : List UInt8) := toList_pos _ (tx_pos N (by omega))
      simp only [if_neg ne]
      exact he
    · obtain ⟨s, hs, he⟩ := ev_drawT b hb p (by omega) (⟨#[50, 94, 50, 46, 51]⟩ : ByteArray) (by decide)
      refine ⟨s, hs, Ev.bind hE (Ev.bind (ev_sText n) ?_)⟩
      have em : (txB n).toList = ([] : List UInt8) := by
        unfold txB
        rw [if_neg q, toList_data]
      simp only [if_pos em]
      exact he
  obtain ⟨r, hI, hS, hg⟩ := reads_same s (by omega)
  refine Ev.bind hd (Ev.bind hI (Ev.bind hS ?_))
  simp only [if_true, bne_self_eq_false]
  refine Ev.step (fun k => by rw [laws_FnReadFactors.j0]) ?_
  simp only [Bool.false_eq_true, if_false]
  rcases hg with rfl | ⟨m, m1, m2, rfl, hm⟩
  · simp only [Bool.false_eq_true, if_false, if_true, alive_f, Option.bind_some]
    exact Ev.now _
  · have e46 : (⟨#[46]⟩ : ByteArray).size = 1 := rfl
    have c1 : s.size + 1 ≤ 9223372036854775807 := by omega
    obtain ⟨r', hI', hg'⟩ := ev_readI (s ++ (⟨#[46]⟩ : ByteArray)) (by rw [ByteArray.size_append]; omega)
    have hf : r' = (-1, false) := by
      rcases hg' with h | ⟨m', a1, a2, _, hm'⟩
      · exact h
      · exact absurd hm' (tx_point m' ⟨a1, a2⟩ s)
    subst hf
    simp only [if_true, if_pos c1]
    refine Ev.bind hI' (Ev.bind (ev_iText (m : Int)) ?_)
    simp only [hm, if_true, Bool.not_false]
    exact Ev.now _

end Go.Proofs.YtcihlmfjbfgfoaaDoor.Pure
namespace Go.Proofs.YtcihlmfjbfgfoaaDoor.PrintWords
/-- The printed row's word, under the name by which that row calls it. -/
abbrev sized_ints := @Go.Proofs.YtcihlmfjbfgfoaaDoorW.PrintWords.sized_ints
end Go.Proofs.YtcihlmfjbfgfoaaDoor.PrintWords
