/- Two drawn numbers are apart exactly if no prime that divides the one divides the other; 1 is apart from each. -/
import Derived.Test.YteeejjfoghmnpaaPFnApartOkx0
import Derived.Test.YteeejjfoghmnpaaPFnApartOkx1
import Derived.Test.YteeejjfoghmnpaaPFnApartOkx2
import Derived.Test.YteeejjfoghmnpaaM1
import Derived.Test.YteeejjfoghmnpaaM2
import Derived.Test.YteeejjfoghmnpaaWSized
namespace Go.Proofs.Yteeejjfoghmnpaa.Pure
open Go.RowKit Go.Proofs.Yteeejjfoghmnpaa.PFnApartOk Go.Proofs.YteeejjfoghmnpaaW.PrintWords Go.Proofs.YteeejjfoghmnpaaW.PrintLast Go.Proofs.YteeejjfoghmnpaaW.PrintMore Go.Proofs.Yteeejjfoghmnpaa.Math
set_option linter.unusedVariables false
set_option linter.unusedSimpArgs false
theorem w64 {x : Int} (h : -9223372036854775808 ≤ x ∧ x ≤ 9223372036854775807) : wrap64 x = x := by unfold wrap64; omega
theorem Ev.k {α : Type} {g : Nat → Option α} {r : α} (h : Ev g r) : ∃ k, g k = some r := Ev.rounds h
theorem Ev.to {α : Type} {g : Nat → Option α} {r s : α} (h : Ev g r) (e : r = s) : Ev g s := e ▸ h
theorem Ev.ret {α : Type} {r s : α} (e : r = s) : Ev (fun _ => some r) s := e ▸ Ev.now r

theorem numberOk_f (a : Int) : impl_numberOk.f a = some (decide (1 ≤ a ∧ a ≤ 10000)) := by
  unfold impl_numberOk.f
  by_cases h : a ≥ 1
  · rw [if_pos h]; simp [show 1 ≤ a from h]
  · rw [if_neg h]; simp [show ¬ 1 ≤ a from h]

theorem ev_gcd_l (b : Nat) : ∀ a : Nat, Ev (fun k => impl_gcd.l0 k (a : Int) (b : Int)) ((Nat.gcd a b : Nat) : Int) := by
  induction b using Nat.strongRecOn with
  | _ b ih =>
    intro a
    refine Ev.step (fun k => by rw [impl_gcd.l0]) ?_
    by_cases hb : b = 0
    · subst hb
      simp only [Int.natCast_zero, if_true]
      exact Ev.ret (by simp)
    · have h0 : ¬ (b : Int) = 0 := by omega
      simp only [if_neg h0, ← Int.ofNat_tmod]
      refine Ev.to (ih (a % b) (Nat.mod_lt _ (by omega)) b) ?_
      rw [Nat.gcd_comm a b, Nat.gcd_rec b a, Nat.gcd_comm]
theorem ev_gcd (a b : Nat) : Ev (fun k => impl_gcd.f k (a : Int) (b : Int)) ((Nat.gcd a b : Nat) : Int) := by
  unfold impl_gcd.f; exact ev_gcd_l b a

theorem ev_CommonOf_no {a b : Int} (h : ¬ ((1 ≤ a ∧ a ≤ 10000) ∧ (1 ≤ b ∧ b ≤ 10000))) : Ev (fun k => impl_CommonOf.f k a b) (-1) := by
  unfold impl_CommonOf.f
  simp only [numberOk_f, Option.bind_some, decide_eq_true_eq]
  by_cases h1 : 1 ≤ a ∧ a ≤ 10000
  · have h2 : ¬ (1 ≤ b ∧ b ≤ 10000) := fun h2 => h ⟨h1, h2⟩
    simp only [if_pos h1, if_neg h2]
    exact Ev.now _
  · simp only [if_neg h1]
    exact Ev.now _
theorem ev_CommonOf (a b : Nat) (h : (1 ≤ a ∧ a ≤ 10000) ∧ (1 ≤ b ∧ b ≤ 10000)) : Ev (fun k => impl_CommonOf.f k (a : Int) (b : Int)) ((Nat.gcd a b : Nat) : Int) := by
  unfold impl_CommonOf.f
  have h1 : 1 ≤ (a : Int) ∧ (a : Int) ≤ 10000 := by omega
  have h2 : 1 ≤ (b : Int) ∧ (b : Int) ≤ 10000 := by omega
  simp only [numberOk_f, Option.bind_some, decide_eq_true_eq, if_pos h1, if_pos h2]
  exact Ev.bind (ev_gcd a b) (Ev.now _)

theorem l1In_f (a b c : Int) : spec_l1In.f a b c = some (decide (b ≤ a ∧ a ≤ c)) := by
  unfold spec_l1In.f
  by_cases h : a ≥ b
  · rw [if_pos h]; simp [show b ≤ a from h]
  · rw [if_neg h]; simp [show ¬ b ≤ a from h]

theorem ev_sCommonOf_l (b : Nat) : ∀ a : Nat, Ev (fun k => spec_CommonOf.l0 k (a : Int) (b : Int)) ((Nat.gcd a b : Nat) : Int) := by
  induction b using Nat.strongRecOn with
  | _ b ih =>
    intro a
    refine Ev.step (fun k => by rw [spec_CommonOf.l0]) ?_
    by_cases hb : b = 0
    · subst hb
      simp only [Int.natCast_zero, gt_iff_lt, Int.lt_irrefl, if_false]
      exact Ev.ret (by simp)
    · have h0 : ¬ (b : Int) = 0 := by omega
      have h1 : (b : Int) > 0 := by omega
      simp only [if_neg h0, if_pos h1, ← Int.ofNat_tmod]
      refine Ev.to (ih (a % b) (Nat.mod_lt _ (by omega)) b) ?_
      rw [Nat.gcd_comm a b, Nat.gcd_rec b a, Nat.gcd_comm]
theorem ev_sCommonOf_no {a b : Int} (h : ¬ ((1 ≤ a ∧ a ≤ 10000) ∧ (1 ≤ b ∧ b ≤ 10000))) : Ev (fun k => spec_CommonOf.f k a b) (-1) := by
  unfold spec_CommonOf.f
  simp only [l1In_f, Option.bind_some, decide_eq_true_eq]
  by_cases h1 : 1 ≤ a ∧ a ≤ 10000
  · have h2 : ¬ (1 ≤ b ∧ b ≤ 10000) := fun h2 => h ⟨h1, h2⟩
    simp only [if_pos h1, decide_eq_false h2]
    refine Ev.step (fun k => by rw [spec_CommonOf.j0]) ?_
    simp only [Bool.not_false, if_true]
    exact Ev.now _
  · simp only [if_neg h1]
    refine Ev.step (fun k => by rw [spec_CommonOf.j0]) ?_
    simp only [if_true]
    exact Ev.now _
theorem ev_sCommonOf (a b : Nat) (h : (1 ≤ a ∧ a ≤ 10000) ∧ (1 ≤ b ∧ b ≤ 10000)) : Ev (fun k => spec_CommonOf.f k (a : Int) (b : Int)) ((Nat.gcd a b : Nat) : Int) := by
  unfold spec_CommonOf.f
  have h1 : 1 ≤ (a : Int) ∧ (a : Int) ≤ 10000 := by omega
  have h2 : 1 ≤ (b : Int) ∧ (b : Int) ≤ 10000 := by omega
  simp only [l1In_f, Option.bind_some, decide_eq_true_eq, if_pos h1, decide_eq_true h2]
  refine Ev.step (fun k => by rw [spec_CommonOf.j0]) ?_
  simp only [Bool.not_true, Bool.false_eq_true, if_false]
  exact ev_sCommonOf_l b a

/-- Natural numbers as the program's numbers. -/
def ints (l : List Nat) : List Int := l.map (fun x : Nat => (x : Int))
theorem ints_length (l : List Nat) : (ints l).length = l.length := by simp [ints]
theorem ints_append (l m : List Nat) : ints (l ++ m) = ints l ++ ints m := by simp [ints]
theorem ints_reverse (l : List Nat) : (ints l).reverse = ints l.reverse := by simp [ints]

/-- Factors as the program tells them: rows of two numbers. -/
def rowsF (L : List (Nat × Nat)) : List (List Int) := L.map (fun x : Nat × Nat => [(x.1 : Int), (x.2 : Int)])
theorem rowsF_length (L : List (Nat × Nat)) : (rowsF L).length = L.length := by simp [rowsF]

theorem ev_sfac_l1 (x0 : Int) (out : List (List Int)) (hout : out.length ≤ 1000000) (p : Nat) (hp : 2 ≤ p ∧ p ≤ 10000) (r : List (List Int)) (t m : Nat) (hm : m % p ≠ 0) (h1 : 1 ≤ m ∧ m ≤ 10000)
    (hN : Ev (fun k => spec_FactorsOf.l0 k x0 (if t = 0 then out else out ++ [[(p : Int), (t : Int)]]) (m : Int) ((p + 1 : Nat) : Int)) r) :
    ∀ (j c : Nat), c + j = t → p ^ j * m ≤ 10000 → t ≤ 10000 →
    Ev (fun k => spec_FactorsOf.l1 k x0 out ((p ^ j * m : Nat) : Int) (p : Int) (c : Int)) r := by
  intro j
  induction j with
  | zero =>
    intro c hc hb ht
    refine Ev.step (fun k => by rw [spec_FactorsOf.l1]) ?_
    have c0 : ¬ (p : Int) = 0 := by omega
    have c1 : ¬ ((m % p : Nat) : Int) = 0 := by omega
    simp only [Nat.pow_zero, Nat.one_mul, if_neg c0, ← Int.ofNat_tmod, if_neg c1, w64 (x := (p : Int) + 1) (by omega)]
    have e : c = t := by omega
    subst e
    by_cases z : c = 0
    · have c2 : ¬ (c : Int) > 0 := by omega
      rw [if_pos z] at hN
      simp only [if_neg c2]; exact hN
    · have c2 : (0 : Int) < (c : Int) := by omega
      have c3 : out.length < 5864062014805 := by omega
      rw [if_neg z] at hN
      simp only [gt_iff_lt, if_pos c2, if_pos c3]; exact hN
  | succ j ih =>
    intro c hc hb ht
    refine Ev.step (fun k => by rw [spec_FactorsOf.l1]) ?_
    have e : p ^ (j + 1) * m = p * (p ^ j * m) := by rw [Nat.pow_succ, Nat.mul_comm (p ^ j) p, Nat.mul_assoc]
    have c0 : ¬ (p : Int) = 0 := by omega
    have c1 : ((p ^ (j + 1) * m % p : Nat) : Int) = 0 := by rw [e, Nat.mul_mod_right]; rfl
    have c2 : p ^ (j + 1) * m / p = p ^ j * m := by rw [e, Nat.mul_div_cancel_left _ (by omega)]
    have b2 : 1 * (p ^ j * m) ≤ p * (p ^ j * m) := Nat.mul_le_mul_right _ (by omega)
    simp only [if_neg c0, ← Int.ofNat_tmod, ← Int.ofNat_tdiv, if_pos c1, c2, w64 (x := ((p ^ j * m : Nat) : Int)) (by omega), w64 (x := (c : Int) + 1) (by omega)]
    exact ih (c + 1) (by omega) (by omega) ht
theorem ev_sfac_l0 (x0 : Int) (hx : 1 ≤ x0 ∧ x0 ≤ 10000) : ∀ (d p n : Nat) (out : List (List Int)), p + d = 10002 → 2 ≤ p → 1 ≤ n → n ≤ 10000 → out.length ≤ p →
    Ev (fun k => spec_FactorsOf.l0 k x0 out (n : Int) (p : Int)) (out ++ rowsF (fac p n)) := by
  intro d
  have stop : ∀ (p n : Nat) (out : List (List Int)), n < p → Ev (fun k => spec_FactorsOf.l0 k x0 out (n : Int) (p : Int)) (out ++ rowsF (fac p n)) := by
    intro p n out h
    refine Ev.step (fun k => by rw [spec_FactorsOf.l0]) ?_
    have c : ¬ (p : Int) ≤ (n : Int) := by omega
    simp only [if_neg c]
    refine Ev.step (fun k => by rw [spec_FactorsOf.j1]) ?_
    simp only [Bool.false_eq_true, if_false]
    rw [fac_lt h]
    exact Ev.ret (by simp [rowsF])
  induction d with
  | zero =>
    intro p n out hd hp h1 hn ho
    exact stop p n out (by omega)
  | succ d ih =>
    intro p n out hd hp h1 hn ho
    by_cases c : n < p
    · exact stop p n out c
    refine Ev.step (fun k => by rw [spec_FactorsOf.l0]) ?_
    have c1 : (p : Int) ≤ (n : Int) := by omega
    simp only [if_pos c1, l1In_f, Option.bind_some, decide_eq_true hx]
    refine Ev.step (fun k => by rw [spec_FactorsOf.j1]) ?_
    simp only [if_true]
    obtain ⟨j, m, e, hm, hm1⟩ := exists_strip p hp n h1
    have hj : j < p ^ j := Nat.lt_pow_self (by omega)
    have b1 : p ^ j * 1 ≤ p ^ j * m := Nat.mul_le_mul_left _ hm1
    have b2 : 1 * m ≤ p ^ j * m := Nat.mul_le_mul_right _ (Nat.pow_pos (by omega))
    have ihm := ih (p + 1) m (if j = 0 then out else out ++ [[(p : Int), (j : Int)]]) (by omega) (by omega) hm1 (by omega) (by split <;> (try simp) <;> omega)
    have main := ev_sfac_l1 x0 out (by omega) p ⟨hp, by omega⟩ _ j m hm ⟨hm1, by omega⟩ ihm j 0 (by omega) (by omega) (by omega)
    rw [← e] at main
    refine Ev.to main ?_
    by_cases z : j = 0
    · subst z
      rw [Nat.pow_zero, Nat.one_mul] at e
      subst e
      rw [if_pos rfl, ← fac_no hp h1 hm]
    · rw [if_neg z, e, fac_yes hp (by omega) hm hm1]; simp [rowsF]
theorem ev_sFactorsOf (n : Nat) (h1 : 1 ≤ n) (hn : n ≤ 10000) : Ev (fun k => spec_FactorsOf.f k (n : Int)) (rowsF (fac 2 n)) := by
  unfold spec_FactorsOf.f
  exact ev_sfac_l0 (n : Int) (by omega) 10000 2 n [] (by omega) (by omega) h1 hn (by simp)
theorem ev_sFactorsOf_no {n : Int} (h : ¬ (1 ≤ n ∧ n ≤ 10000)) : Ev (fun k => spec_FactorsOf.f k n) [] := by
  unfold spec_FactorsOf.f
  refine Ev.step (fun k => by rw [spec_FactorsOf.l0]) ?_
  have no : Ev (fun k => spec_FactorsOf.j1 k n [] n 2 false) [] := by
    refine Ev.step (fun k => by rw [spec_FactorsOf.j1]) ?_
    simp only [Bool.false_eq_true, if_false]; exact Ev.now _
  by_cases c : (2 : Int) ≤ n
  · simp only [if_pos c, l1In_f, Option.bind_some, decide_eq_false h]; exact no
  · simp only [if_neg c]; exact no

theorem rdrow (L : List (Nat × Nat)) (i : Nat) (h : i < L.length) : rd_L2 (rowsF L) (i : Int) = [((L.getD i (0, 0)).1 : Int), ((L.getD i (0, 0)).2 : Int)] := by
  show (rowsF L).getD i [] = _
  unfold rowsF
  simp only [List.getD_eq_getElem?_getD, List.getElem?_map, List.getElem?_eq_getElem h, Option.map_some, Option.getD_some]
theorem dropF (L : List (Nat × Nat)) (i : Nat) (h : i < L.length) : L.drop i = L.getD i (0, 0) :: L.drop (i + 1) := by
  rw [List.drop_eq_getElem_cons h]; simp [List.getD_eq_getElem?_getD, List.getElem?_eq_getElem h]
theorem rd_two0 (a b : Int) : rd [a, b] 0 = a := rfl
theorem rd_two1 (a b : Int) : rd [a, b] 1 = b := rfl
theorem getF_mem (L : List (Nat × Nat)) (i : Nat) (h : i < L.length) : L.getD i (0, 0) ∈ L := by
  rw [List.getD_eq_getElem?_getD, List.getElem?_eq_getElem h]; exact List.getElem_mem _

theorem wf_u8 {x : Int} (h : (Lit.int .u8 x).wf = true) : 0 ≤ x ∧ x ≤ 255 := by
  simp [Lit.wf, IntKind.wrap, IntKind.bits, IntKind.signed, IntKind.min, IntKind.max] at h; omega
theorem wf_i64 {x : Int} (h : (Lit.int .i64 x).wf = true) : -9223372036854775808 ≤ x ∧ x ≤ 9223372036854775807 := by
  simp [Lit.wf, IntKind.wrap, IntKind.bits, IntKind.signed, IntKind.min, IntKind.max] at h; omega
theorem xor_nonneg (x y : Int) (h0 : 0 ≤ x) (h1 : x < 4611686018427387904) (h2 : 0 ≤ y) (h3 : y < 4611686018427387904) : 0 ≤ Go.bits .xor .i64 x y := by
  obtain ⟨a, rfl⟩ := Int.eq_ofNat_of_zero_le h0
  obtain ⟨b, rfl⟩ := Int.eq_ofNat_of_zero_le h2
  have ha : a < 2 ^ 62 := by omega
  have hb : b < 2 ^ 62 := by omega
  have hx := Nat.xor_lt_two_pow ha hb
  have ha' : a % 2 ^ 64 = a := Nat.mod_eq_of_lt (by omega)
  have hb' : b % 2 ^ 64 = b := Nat.mod_eq_of_lt (by omega)
  have e : Go.bits .xor .i64 ((a : Nat) : Int) ((b : Nat) : Int) = IntKind.i64.wrap ((a ^^^ b : Nat) : Int) := by
    simp only [Go.bits, IntKind.bits, BitVec.ofInt_natCast]
    show IntKind.i64.wrap (((BitVec.ofNat 64 a ^^^ BitVec.ofNat 64 b).toNat : Nat) : Int) = _
    rw [BitVec.toNat_xor, BitVec.toNat_ofNat, BitVec.toNat_ofNat, ha', hb']
  rw [e]
  simp only [IntKind.wrap, IntKind.bits, IntKind.signed]
  simp
  omega
/-- The bytes of a draw. -/
def Bytes (b : List Int) : Prop := b.length ≤ 2000 ∧ ∀ x ∈ b, 0 ≤ x ∧ x ≤ 255
theorem Bytes.rd {b : List Int} (hb : Bytes b) (i : Int) : 0 ≤ rd b i ∧ rd b i ≤ 255 := by
  show 0 ≤ b.getD i.toNat 0 ∧ b.getD i.toNat 0 ≤ 255
  rw [List.getD_eq_getElem?_getD]
  by_cases h : i.toNat < b.length
  · rw [List.getElem?_eq_getElem h]; exact hb.2 _ (List.getElem_mem _)
  · rw [List.getElem?_eq_none (by omega)]; simp
theorem ev_pick {b : List Int} (hb : Bytes b) (p n : Int) (hp : 0 ≤ p ∧ p ≤ 1000000) (hn : 1 ≤ n ∧ n ≤ 1000000000000) :
    ∃ r, (0 ≤ r ∧ r < n) ∧ Ev (fun k => spec_l20Rd_pick.f k b p n) (r, p + 1) := by
  have g0 : ¬ n < 1 := by omega
  unfold spec_l20Rd_pick.f
  simp only [if_neg g0, w64 (x := p + 1) (by omega)]
  have e1 : p + 1 - 1 = p := by omega
  by_cases h0 : (b.length : Int) = 0
  · refine ⟨0, by omega, Ev.step (fun k => by rw [spec_l20Rd_pick.j0]) ?_⟩
    simp only [h0, beq_self_eq_true, if_true]; exact Ev.now _
  have hl := hb.1
  have n0 : ¬ n = 0 := by omega
  by_cases h1 : p < (b.length : Int)
  · have hr := hb.rd p
    refine ⟨Int.tmod (rd b p) n, ?_, Ev.step (fun k => by rw [spec_l20Rd_pick.j0]) ?_⟩
    · rw [Int.tmod_eq_emod_of_nonneg hr.1]; exact ⟨Int.emod_nonneg _ n0, Int.emod_lt_of_pos _ (by omega)⟩
    · simp only [e1, w64 (x := p) (by omega), beq_eq_false_iff_ne.2 h0, Bool.false_eq_true, if_false, if_pos h1, if_pos hp.1, if_neg n0, w64 (x := rd b p) (by omega)]
      exact Ev.now _
  · have L0 : (0 : Int) < (b.length : Int) := by omega
    have m1 : Int.tmod p (b.length : Int) = p % (b.length : Int) := Int.tmod_eq_emod_of_nonneg hp.1
    have m2 : Int.tmod (p * 7 + 3) (b.length : Int) = (p * 7 + 3) % (b.length : Int) := Int.tmod_eq_emod_of_nonneg (by omega)
    have q1 : Int.tdiv p (b.length : Int) = p / (b.length : Int) := Int.tdiv_eq_ediv_of_nonneg hp.1
    have a1 := Int.emod_nonneg p (show (b.length : Int) ≠ 0 from h0)
    have a2 := Int.emod_lt_of_pos p L0
    have a3 := Int.emod_nonneg (p * 7 + 3) (show (b.length : Int) ≠ 0 from h0)
    have a4 := Int.emod_lt_of_pos (p * 7 + 3) L0
    have a5 : 0 ≤ p / (b.length : Int) := Int.ediv_nonneg hp.1 (by omega)
    have a6 : p / (b.length : Int) ≤ p := Int.ediv_le_self _ hp.1
    have u := hb.rd (p % (b.length : Int))
    have v := hb.rd ((p * 7 + 3) % (b.length : Int))
    generalize hU : rd b (p % (b.length : Int)) = U at *
    generalize hV : rd b ((p * 7 + 3) % (b.length : Int)) = V at *
    generalize hQ : p / (b.length : Int) = Q at *
    generalize hM : p % (b.length : Int) = M at *
    generalize hM2 : (p * 7 + 3) % (b.length : Int) = M2 at *
    generalize hX : U * 131 + V * 1117 + p * 29 + Q * 53 = X at *
    have x0 : 0 ≤ X := by omega
    have x1 : X ≤ 1000000000000 := by omega
    have d1 : Int.tdiv X 64 = X / 64 := Int.tdiv_eq_ediv_of_nonneg x0
    have y := xor_nonneg X (X / 64) x0 (by omega) (by omega) (by omega)
    refine ⟨Int.tmod (Go.bits .xor .i64 X (X / 64)) n, ?_, Ev.step (fun k => by rw [spec_l20Rd_pick.j0]) ?_⟩
    · rw [Int.tmod_eq_emod_of_nonneg y]; exact ⟨Int.emod_nonneg _ n0, Int.emod_lt_of_pos _ (by omega)⟩
    · simp only [e1, w64 (x := p) (by omega), w64 (x := p * 7) (by omega), w64 (x := p * 7 + 3) (by omega), beq_eq_false_iff_ne.2 h0, Bool.false_eq_true, if_false, if_neg h1, if_neg h0, m1, m2, q1, if_pos a1, if_pos a2, if_pos a3, if_pos a4, if_neg n0, hU, hV, w64 (x := U) (by omega), w64 (x := V) (by omega), w64 (x := U * 131) (by omega), w64 (x := V * 1117) (by omega), w64 (x := U * 131 + V * 1117) (by omega), w64 (x := p * 29) (by omega), w64 (x := U * 131 + V * 1117 + p * 29) (by omega), w64 (x := Q) (by omega), w64 (x := Q * 53) (by omega), hX, w64 (x := X) (by omega), d1, w64 (x := X / 64) (by omega)]
      exact Ev.now _

theorem open_l (l : List Int) (h : ∀ x ∈ l, (Lit.int .u8 x).wf = true) : ∃ b, Bytes b ∧ spec_l20Open.f l = some (b, 0) := by
  unfold spec_l20Open.f
  by_cases c : (l.length : Int) > 2000
  · refine ⟨l.take 2000, ⟨by simp; omega, fun x hx => wf_u8 (h x (List.mem_of_mem_take hx))⟩, ?_⟩
    rw [if_pos c, if_pos (by omega)]
  · exact ⟨l, ⟨by omega, fun x hx => wf_u8 (h x hx)⟩, by rw [if_neg c]⟩

theorem rd7 (a b c d e f g : Int) (i : Int) (h : 0 ≤ i ∧ i < 7) (lo hi : Int) (ha : lo ≤ a ∧ a ≤ hi) (hb : lo ≤ b ∧ b ≤ hi) (hc : lo ≤ c ∧ c ≤ hi) (hd : lo ≤ d ∧ d ≤ hi) (he : lo ≤ e ∧ e ≤ hi) (hf : lo ≤ f ∧ f ≤ hi) (hg : lo ≤ g ∧ g ≤ hi) :
    lo ≤ rd [a, b, c, d, e, f, g] i ∧ rd [a, b, c, d, e, f, g] i ≤ hi := by
  obtain ⟨n, rfl⟩ := Int.eq_ofNat_of_zero_le h.1
  have : n = 0 ∨ n = 1 ∨ n = 2 ∨ n = 3 ∨ n = 4 ∨ n = 5 ∨ n = 6 := by omega
  rcases this with rfl | rfl | rfl | rfl | rfl | rfl | rfl <;> assumption
theorem mul_bd {a b A B : Int} (ha : 0 ≤ a ∧ a ≤ A) (hb : 0 ≤ b ∧ b ≤ B) : 0 ≤ a * b ∧ a * b ≤ A * B :=
  ⟨Int.mul_nonneg ha.1 hb.1, Int.mul_le_mul ha.2 hb.2 hb.1 (by omega)⟩
theorem ev_some {b : List Int} (hb : Bytes b) (p : Int) (hp : 0 ≤ p ∧ p ≤ 999900) :
    ∃ v q, (-20000 ≤ v ∧ v ≤ 40000) ∧ (p ≤ q ∧ q ≤ p + 8) ∧ Ev (fun k => spec_l20Some.f k b p) (v, q) := by
  unfold spec_l20Some.f
  obtain ⟨r1, b1, e1⟩ := ev_pick hb p 12 (by omega) (by omega)
  obtain ⟨r2, b2, e2⟩ := ev_pick hb (p + 1) 60 (by omega) (by omega)
  obtain ⟨r3, b3, e3⟩ := ev_pick hb (p + 1 + 1) 100 (by omega) (by omega)
  obtain ⟨r4, b4, e4⟩ := ev_pick hb (p + 1 + 1 + 1) 100 (by omega) (by omega)
  obtain ⟨r5, b5, e5⟩ := ev_pick hb (p + 1 + 1 + 1 + 1) 60 (by omega) (by omega)
  obtain ⟨r6, b6, e6⟩ := ev_pick hb (p + 1 + 1 + 1 + 1 + 1) 13 (by omega) (by omega)
  obtain ⟨r7, b7, e7⟩ := ev_pick hb (p + 1 + 1 + 1 + 1 + 1 + 1) 40 (by omega) (by omega)
  obtain ⟨r8, b8, e8⟩ := ev_pick hb (p + 1 + 1 + 1 + 1 + 1 + 1 + 1) 50 (by omega) (by omega)
  have m := mul_bd (a := r3) (b := r4) (A := 99) (B := 99) (by omega) (by omega)
  have d6 : Int.tdiv r6 2 = r6 / 2 := Int.tdiv_eq_ediv_of_nonneg b6.1
  have d7 : Int.tdiv r7 39 = r7 / 39 := Int.tdiv_eq_ediv_of_nonneg b7.1
  have d8 : Int.tdiv r8 49 = r8 / 49 := Int.tdiv_eq_ediv_of_nonneg b8.1
  have RB := rd7 (1 + r1) (1 + r2) (1 + r3 * r4) (12 * (1 + r5)) 9973 8192 9240 (r6 / 2) (by omega) 1 9973 (by omega) (by omega) (by omega) (by omega) (by omega) (by omega) (by omega)
  generalize hR : rd [1 + r1, 1 + r2, 1 + r3 * r4, 12 * (1 + r5), 9973, 8192, 9240] (r6 / 2) = R at *
  refine ⟨R + r7 / 39 * 10000 - r8 / 49 * 20000, p + 1 + 1 + 1 + 1 + 1 + 1 + 1 + 1, by omega, by omega, ?_⟩
  refine Ev.bind e1 (Ev.bind e2 (Ev.bind e3 (Ev.bind e4 (Ev.bind e5 ?_))))
  simp only [Option.bind_some, w64 (x := 1 + r1) (by omega), w64 (x := 1 + r2) (by omega), w64 (x := r3 * r4) (by omega), w64 (x := 1 + r3 * r4) (by omega), w64 (x := 1 + r5) (by omega), w64 (x := 12 * (1 + r5)) (by omega)]
  refine Ev.bind e6 ?_
  have c1 : 0 ≤ r6 / 2 := by omega
  have c2 : r6 / 2 < (([1 + r1, 1 + r2, 1 + r3 * r4, 12 * (1 + r5), 9973, 8192, 9240] : List Int).length : Int) := by simp; omega
  simp only [d6, w64 (x := r6 / 2) (by omega), if_pos c1, if_pos c2]
  refine Ev.bind e7 (Ev.bind e8 ?_)
  simp only [hR, d7, d8, w64 (x := r7 / 39) (by omega), w64 (x := r8 / 49) (by omega), w64 (x := r7 / 39 * 10000) (by omega), w64 (x := r8 / 49 * 20000) (by omega), w64 (x := R + r7 / 39 * 10000) (by omega), w64 (x := R + r7 / 39 * 10000 - r8 / 49 * 20000) (by omega)]
  exact Ev.now _

theorem alive_f : laws_alive.f = some true := by
  unfold laws_alive.f impl_DividesOk.f
  simp only [numberOk_f, Option.bind_some]; simp

theorem ev_apart_l (b : Nat) (hb : 1 ≤ b ∧ b ≤ 10000) (L : List (Nat × Nat)) (hL : ∀ q e, (q, e) ∈ L → Pr q) (hl : L.length ≤ 10000) (r : Bool) :
    ∀ (d i : Nat) (s : Bool), i + d = L.length → (r = true ↔ s = true ∧ ∀ q e, (q, e) ∈ L.drop i → ¬ q ∣ b) →
    Ev (fun k => laws_FnApartOk.l0 k (b : Int) r s (rowsF L) (i : Int)) true := by
  intro d
  induction d with
  | zero =>
    intro i s hi hr
    refine Ev.step (fun k => by rw [laws_FnApartOk.l0]) ?_
    have c : ¬ (i : Int) < ((rowsF L).length : Int) := by rw [rowsF_length]; omega
    rw [List.drop_eq_nil_of_le (by omega)] at hr
    have e : (r == s) = true := by
      rw [beq_iff_eq, Bool.eq_iff_iff, hr]; exact ⟨fun h => h.1, fun h => ⟨h, fun q e h => by cases h⟩⟩
    simp only [if_neg c, e, if_true, impl_ApartOk.f]
    refine Ev.bind (Ev.bind (ev_CommonOf 1 b ⟨by omega, hb⟩) (Ev.now _)) (Ev.ret ?_)
    rw [Nat.gcd_one_left]; rfl
  | succ d ih =>
    intro i s hi hr
    refine Ev.step (fun k => by rw [laws_FnApartOk.l0]) ?_
    have c : (i : Int) < ((rowsF L).length : Int) := by rw [rowsF_length]; omega
    have c1 : 0 ≤ (i : Int) := by omega
    have e := dropF L i (by omega)
    have hm := getF_mem L i (by omega)
    have hrow := rdrow L i (by omega)
    generalize hx : L.getD i (0, 0) = x at *
    obtain ⟨p, j⟩ := x
    have hp := hL p j hm
    have p2 := hp.1
    rw [e] at hr
    have c2 : 0 < (([(p : Int), (j : Int)] : List Int).length : Int) := by simp
    have c3 : ¬ (p : Int) = 0 := by omega
    simp only [if_pos c, if_pos c1, hrow, if_pos c2, rd_two0, if_neg c3, ← Int.ofNat_tmod, w64 (x := (i : Int) + 1) (by omega)]
    cases s with
    | true =>
      simp only [if_true]
      refine ih (i + 1) _ (by omega) ?_
      rw [hr, bne_iff_ne]
      constructor
      · rintro ⟨_, h⟩
        refine ⟨fun z => h p j (by simp) (Nat.dvd_of_mod_eq_zero (by omega)), fun q e he => h q e (List.mem_cons_of_mem _ he)⟩
      · rintro ⟨z, h⟩
        refine ⟨rfl, fun q e he => ?_⟩
        rcases List.mem_cons.1 he with he | he
        · obtain ⟨rfl, rfl⟩ := Prod.mk.inj he
          intro hd; have := Nat.mod_eq_zero_of_dvd hd; omega
        · exact h q e he
    | false =>
      simp only [Bool.false_eq_true, if_false]
      refine ih (i + 1) false (by omega) ?_
      rw [hr]; simp
theorem exists_pr_dvd {n : Nat} (h : 2 ≤ n) : ∃ p, Pr p ∧ p ∣ n := by
  obtain ⟨p, j, m, hp, hj, _, e, _, _⟩ := least_prime n h
  refine ⟨p, hp, ?_⟩
  rw [e]
  exact Nat.dvd_trans (by have := Nat.pow_dvd_pow p hj; rwa [Nat.pow_one] at this) (Nat.dvd_mul_right _ _)
theorem gcd_one_iff (a b : Nat) (ha : 1 ≤ a) (hb : 1 ≤ b) : Nat.gcd a b = 1 ↔ ∀ q e, (q, e) ∈ fac 2 a → ¬ q ∣ b := by
  constructor
  · intro h q e he hq
    have hf := mem_fac a ha q e he
    have := Nat.dvd_gcd hf.2.2 hq
    rw [h] at this
    have := Nat.le_of_dvd (by omega) this
    have := hf.1.1
    omega
  · intro h
    have g1 : 1 ≤ Nat.gcd a b := Nat.gcd_pos_of_pos_left _ (by omega)
    refine Nat.le_antisymm (Nat.le_of_not_lt (fun hlt => ?_)) g1
    obtain ⟨p, hp, hd⟩ := exists_pr_dvd (n := Nat.gcd a b) (by omega)
    obtain ⟨e, he⟩ := fac_all a ha p hp (Nat.dvd_trans hd (Nat.gcd_dvd_left _ _))
    exact h p e he (Nat.dvd_trans hd (Nat.gcd_dvd_right _ _))
theorem FnApartOk : laws_FnApartOk.Pure := by
  intro l h1 h2 h3
  apply Ev.k
  unfold laws_FnApartOk.f
  by_cases hl : (l.length : Int) > 1048576
  · simp only [if_pos hl]; exact Ev.now _
  simp only [if_neg hl]
  obtain ⟨b, hb, eo⟩ := open_l l h3
  obtain ⟨x, q, hx, hq, ex⟩ := ev_some hb 0 (by omega)
  obtain ⟨y, q2, hy, hq2, ey⟩ := ev_some hb q (by omega)
  have ed : Ev (fun k => spec_DrawApartOk.f k l) (x, y) := by
    unfold spec_DrawApartOk.f
    simp only [eo, Option.bind_some]
    exact Ev.bind ex (Ev.bind ey (Ev.now _))
  refine Ev.bind ed ?_
  by_cases h : (1 ≤ x ∧ x ≤ 10000) ∧ (1 ≤ y ∧ y ≤ 10000)
  · obtain ⟨x, rfl⟩ := Int.eq_ofNat_of_zero_le (show 0 ≤ x by omega)
    obtain ⟨y, rfl⟩ := Int.eq_ofNat_of_zero_le (show 0 ≤ y by omega)
    have e1 : Ev (fun k => impl_ApartOk.f k (x : Int) (y : Int)) (((Nat.gcd x y : Nat) : Int) == 1) := by
      unfold impl_ApartOk.f; exact Ev.bind (ev_CommonOf x y (by omega)) (Ev.now _)
    have e2 : Ev (fun k => spec_ApartOk.f k (x : Int) (y : Int)) (((Nat.gcd x y : Nat) : Int) == 1) := by
      unfold spec_ApartOk.f; exact Ev.bind (ev_sCommonOf x y (by omega)) (Ev.now _)
    refine Ev.bind e1 (Ev.bind e2 ?_)
    have c1 : ¬ (x : Int) < 1 := by omega
    have c2 : ¬ (y : Int) < 1 := by omega
    have c3 : ¬ (x : Int) > 10000 := by omega
    have c4 : ¬ (y : Int) > 10000 := by omega
    simp only [bne_self_eq_false, Bool.false_eq_true, if_false, if_neg c1, if_neg c2, if_neg c3, decide_eq_false c4]
    refine Ev.step (fun k => by rw [laws_FnApartOk.j0]) ?_
    simp only [Bool.false_eq_true, if_false]
    refine Ev.bind (ev_sFactorsOf x (by omega) (by omega)) ?_
    have hf := fac_length_le x (by omega)
    refine ev_apart_l y (by omega) (fac 2 x) (fun q e h => (mem_fac x (by omega) q e h).1) (by omega) _ (fac 2 x).length 0 true (by omega) ?_
    rw [List.drop_zero, beq_iff_eq]
    have := gcd_one_iff x y (by omega) (by omega)
    constructor
    · intro h; exact ⟨rfl, this.1 (by omega)⟩
    · rintro ⟨_, h⟩; have := this.2 h; omega
  · have e1 : Ev (fun k => impl_ApartOk.f k x y) false := by
      unfold impl_ApartOk.f; exact Ev.bind (ev_CommonOf_no h) (Ev.now _)
    have e2 : Ev (fun k => spec_ApartOk.f k x y) false := by
      unfold spec_ApartOk.f; exact Ev.bind (ev_sCommonOf_no h) (Ev.now _)
    refine Ev.bind e1 (Ev.bind e2 ?_)
    simp only [bne_self_eq_false, Bool.false_eq_true, if_false]
    have no : Ev (fun k => laws_FnApartOk.j0 k x y false true) true := by
      refine Ev.step (fun k => by rw [laws_FnApartOk.j0]) ?_
      simp only [if_true, Bool.false_eq_true, if_false, alive_f, Option.bind_some]
      exact Ev.now _
    by_cases c1 : x < 1
    · simp only [if_pos c1]; exact no
    · by_cases c2 : y < 1
      · simp only [if_neg c1, if_pos c2]; exact no
      · by_cases c3 : 10000 < x
        · simp only [if_neg c1, if_neg c2, gt_iff_lt, if_pos c3]; exact no
        · have c4 : y > 10000 := by omega
          simp only [if_neg c1, if_neg c2, gt_iff_lt, if_neg c3, decide_eq_true (show 10000 < y from c4)]; exact no

end Go.Proofs.Yteeejjfoghmnpaa.Pure
namespace Go.Proofs.Yteeejjfoghmnpaa.PrintWords
/-- The printed row's word, under the name by which that row calls it. -/
abbrev sized_ints := @Go.Proofs.YteeejjfoghmnpaaW.PrintWords.sized_ints
end Go.Proofs.Yteeejjfoghmnpaa.PrintWords
