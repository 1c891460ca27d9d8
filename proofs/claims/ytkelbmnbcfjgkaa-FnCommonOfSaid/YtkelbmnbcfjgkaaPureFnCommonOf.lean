/- The greatest common divisor divides both numbers, each number up to 40 that divides both divides it, and it is the same for both exchanged. -/
import Derived.Test.YtkelbmnbcfjgkaaPFnCommonOfx0
import Derived.Test.YtkelbmnbcfjgkaaPFnCommonOfx1
import Derived.Test.YtkelbmnbcfjgkaaPFnCommonOfx2
import Derived.Test.YtkelbmnbcfjgkaaWSized
namespace Go.Proofs.Ytkelbmnbcfjgkaa.Pure
open Go.RowKit Go.Proofs.Ytkelbmnbcfjgkaa.PFnCommonOf Go.Proofs.YtkelbmnbcfjgkaaW.PrintWords Go.Proofs.YtkelbmnbcfjgkaaW.PrintLast Go.Proofs.YtkelbmnbcfjgkaaW.PrintMore
set_option linter.unusedVariables false
set_option linter.unusedSimpArgs false
theorem w64 {x : Int} (h : -9223372036854775808 ≤ x ∧ x ≤ 9223372036854775807) : wrap64 x = x := by unfold wrap64; omega
theorem Ev.k {α : Type} {g : Nat → Option α} {r : α} (h : Ev g r) : ∃ k, g k = some r := Ev.rounds h
theorem Ev.to {α : Type} {g : Nat → Option α} {r s : α} (h : Ev g r) (e : r = s) : Ev g s := e ▸ h
theorem Ev.ret {α : Type} {r s : α} (e : r = s) : Ev (fun _ => some r) s := e ▸ Ev.now r

theorem numberOk_f (a : Int) : impl_numberOk.f a = some (decide (1 ≤ a ∧ a ≤ 10000)) := by
  unfold impl_numberOk.f
  by_cases h : a ≥ 1
  · rw [if_pos h]; simp [show 1 ≤ a from h]
  · rw [if_neg h]; simp [show ¬ 1 ≤ a from h]

theorem l1In_f (a b c : Int) : spec_l1In.f a b c = some (decide (b ≤ a ∧ a ≤ c)) := by
  unfold spec_l1In.f
  by_cases h : a ≥ b
  · rw [if_pos h]; simp [show b ≤ a from h]
  · rw [if_neg h]; simp [show ¬ b ≤ a from h]

theorem ev_gcd_l (b : Nat) : ∀ a : Nat, Ev (fun k => impl_gcd.l0 k (a : Int) (b : Int)) ((Nat.gcd a b : Nat) : Int) := by
  induction b using Nat.strongRecOn with
  | _ b ih =>
    intro a
    refine Ev.step (fun k => by rw [impl_gcd.l0]) ?_
    by_cases hb : b = 0
    · subst hb
      simp only [Int.natCast_zero, if_true]
      exact Ev.ret (by simp)
    · have h0 : ¬ (b : Int) = 0 := by omega
      simp only [if_neg h0, ← Int.ofNat_tmod]
      refine Ev.to (ih (a % b) (Nat.mod_lt _ (by omega)) b) ?_
      rw [Nat.gcd_comm a b, Nat.gcd_rec b a, Nat.gcd_comm]
theorem ev_gcd (a b : Nat) : Ev (fun k => impl_gcd.f k (a : Int) (b : Int)) ((Nat.gcd a b : Nat) : Int) := by
  unfold impl_gcd.f; exact ev_gcd_l b a

theorem ev_CommonOf_no {a b : Int} (h : ¬ ((1 ≤ a ∧ a ≤ 10000) ∧ (1 ≤ b ∧ b ≤ 10000))) : Ev (fun k => impl_CommonOf.f k a b) (-1) := by
  unfold impl_CommonOf.f
  simp only [numberOk_f, Option.bind_some, decide_eq_true_eq]
  by_cases h1 : 1 ≤ a ∧ a ≤ 10000
  · have h2 : ¬ (1 ≤ b ∧ b ≤ 10000) := fun h2 => h ⟨h1, h2⟩
    simp only [if_pos h1, if_neg h2]
    exact Ev.now _
  · simp only [if_neg h1]
    exact Ev.now _
theorem ev_CommonOf (a b : Nat) (h : (1 ≤ a ∧ a ≤ 10000) ∧ (1 ≤ b ∧ b ≤ 10000)) : Ev (fun k => impl_CommonOf.f k (a : Int) (b : Int)) ((Nat.gcd a b : Nat) : Int) := by
  unfold impl_CommonOf.f
  have h1 : 1 ≤ (a : Int) ∧ (a : Int) ≤ 10000 := by omega
  have h2 : 1 ≤ (b : Int) ∧ (b : Int) ≤ 10000 := by omega
  simp only [numberOk_f, Option.bind_some, decide_eq_true_eq, if_pos h1, if_pos h2]
  exact Ev.bind (ev_gcd a b) (Ev.now _)

theorem ev_sCommonOf_l (b : Nat) : ∀ a : Nat, Ev (fun k => spec_CommonOf.l0 k (a : Int) (b : Int)) ((Nat.gcd a b : Nat) : Int) := by
  induction b using Nat.strongRecOn with
  | _ b ih =>
    intro a
    refine Ev.step (fun k => by rw [spec_CommonOf.l0]) ?_
    by_cases hb : b = 0
    · subst hb
      simp only [Int.natCast_zero, gt_iff_lt, Int.lt_irrefl, if_false]
      exact Ev.ret (by simp)
    · have h0 : ¬ (b : Int) = 0 := by omega
      have h1 : (b : Int) > 0 := by omega
      simp only [if_neg h0, if_pos h1, ← Int.ofNat_tmod]
      refine Ev.to (ih (a % b) (Nat.mod_lt _ (by omega)) b) ?_
      rw [Nat.gcd_comm a b, Nat.gcd_rec b a, Nat.gcd_comm]
theorem ev_sCommonOf_no {a b : Int} (h : ¬ ((1 ≤ a ∧ a ≤ 10000) ∧ (1 ≤ b ∧ b ≤ 10000))) : Ev (fun k => spec_CommonOf.f k a b) (-1) := by
  unfold spec_CommonOf.f
  simp only [l1In_f, Option.bind_some, decide_eq_true_eq]
  by_cases h1 : 1 ≤ a ∧ a ≤ 10000
  · have h2 : ¬ (1 ≤ b ∧ b ≤ 10000) := fun h2 => h ⟨h1, h2⟩
    simp only [if_pos h1, decide_eq_false h2]
    refine Ev.step (fun k => by rw [spec_CommonOf.j0]) ?_
    simp only [Bool.not_false, if_true]
    exact Ev.now _
  · simp only [if_neg h1]
    refine Ev.step (fun k => by rw [spec_CommonOf.j0]) ?_
    simp only [if_true]
    exact Ev.now _
theorem ev_sCommonOf (a b : Nat) (h : (1 ≤ a ∧ a ≤ 10000) ∧ (1 ≤ b ∧ b ≤ 10000)) : Ev (fun k => spec_CommonOf.f k (a : Int) (b : Int)) ((Nat.gcd a b : Nat) : Int) := by
  unfold spec_CommonOf.f
  have h1 : 1 ≤ (a : Int) ∧ (a : Int) ≤ 10000 := by omega
  have h2 : 1 ≤ (b : Int) ∧ (b : Int) ≤ 10000 := by omega
  simp only [l1In_f, Option.bind_some, decide_eq_true_eq, if_pos h1, decide_eq_true h2]
  refine Ev.step (fun k => by rw [spec_CommonOf.j0]) ?_
  simp only [Bool.not_true, Bool.false_eq_true, if_false]
  exact ev_sCommonOf_l b a

theorem wf_u8 {x : Int} (h : (Lit.int .u8 x).wf = true) : 0 ≤ x ∧ x ≤ 255 := by
  simp [Lit.wf, IntKind.wrap, IntKind.bits, IntKind.signed, IntKind.min, IntKind.max] at h; omega
theorem wf_i64 {x : Int} (h : (Lit.int .i64 x).wf = true) : -9223372036854775808 ≤ x ∧ x ≤ 9223372036854775807 := by
  simp [Lit.wf, IntKind.wrap, IntKind.bits, IntKind.signed, IntKind.min, IntKind.max] at h; omega
theorem xor_nonneg (x y : Int) (h0 : 0 ≤ x) (h1 : x < 4611686018427387904) (h2 : 0 ≤ y) (h3 : y < 4611686018427387904) : 0 ≤ Go.bits .xor .i64 x y := by
  obtain ⟨a, rfl⟩ := Int.eq_ofNat_of_zero_le h0
  obtain ⟨b, rfl⟩ := Int.eq_ofNat_of_zero_le h2
  have ha : a < 2 ^ 62 := by omega
  have hb : b < 2 ^ 62 := by omega
  have hx := Nat.xor_lt_two_pow ha hb
  have ha' : a % 2 ^ 64 = a := Nat.mod_eq_of_lt (by omega)
  have hb' : b % 2 ^ 64 = b := Nat.mod_eq_of_lt (by omega)
  have e : Go.bits .xor .i64 ((a : Nat) : Int) ((b : Nat) : Int) = IntKind.i64.wrap ((a ^^^ b : Nat) : Int) := by
    simp only [Go.bits, IntKind.bits, BitVec.ofInt_natCast]
    show IntKind.i64.wrap (((BitVec.ofNat 64 a ^^^ BitVec.ofNat 64 b).toNat : Nat) : Int) = _
    rw [BitVec.toNat_xor, BitVec.toNat_ofNat, BitVec.toNat_ofNat, ha', hb']
  rw [e]
  simp only [IntKind.wrap, IntKind.bits, IntKind.signed]
  simp
  omega
/-- The bytes of a draw. -/
def Bytes (b : List Int) : Prop := b.length ≤ 2000 ∧ ∀ x ∈ b, 0 ≤ x ∧ x ≤ 255
theorem Bytes.rd {b : List Int} (hb : Bytes b) (i : Int) : 0 ≤ rd b i ∧ rd b i ≤ 255 := by
  show 0 ≤ b.getD i.toNat 0 ∧ b.getD i.toNat 0 ≤ 255
  rw [List.getD_eq_getElem?_getD]
  by_cases h : i.toNat < b.length
  · rw [List.getElem?_eq_getElem h]; exact hb.2 _ (List.getElem_mem _)
  · rw [List.getElem?_eq_none (by omega)]; simp
theorem ev_pick {b : List Int} (hb : Bytes b) (p n : Int) (hp : 0 ≤ p ∧ p ≤ 1000000) (hn : 1 ≤ n ∧ n ≤ 1000000000000) :
    ∃ r, (0 ≤ r ∧ r < n) ∧ Ev (fun k => spec_l20Rd_pick.f k b p n) (r, p + 1) := by
  have g0 : ¬ n < 1 := by omega
  unfold spec_l20Rd_pick.f
  simp only [if_neg g0, w64 (x := p + 1) (by omega)]
  have e1 : p + 1 - 1 = p := by omega
  by_cases h0 : (b.length : Int) = 0
  · refine ⟨0, by omega, Ev.step (fun k => by rw [spec_l20Rd_pick.j0]) ?_⟩
    simp only [h0, beq_self_eq_true, if_true]; exact Ev.now _
  have hl := hb.1
  have n0 : ¬ n = 0 := by omega
  by_cases h1 : p < (b.length : Int)
  · have hr := hb.rd p
    refine ⟨Int.tmod (rd b p) n, ?_, Ev.step (fun k => by rw [spec_l20Rd_pick.j0]) ?_⟩
    · rw [Int.tmod_eq_emod_of_nonneg hr.1]; exact ⟨Int.emod_nonneg _ n0, Int.emod_lt_of_pos _ (by omega)⟩
    · simp only [e1, w64 (x := p) (by omega), beq_eq_false_iff_ne.2 h0, Bool.false_eq_true, if_false, if_pos h1, if_pos hp.1, if_neg n0, w64 (x := rd b p) (by omega)]
      exact Ev.now _
  · have L0 : (0 : Int) < (b.length : Int) := by omega
    have m1 : Int.tmod p (b.length : Int) = p % (b.length : Int) := Int.tmod_eq_emod_of_nonneg hp.1
    have m2 : Int.tmod (p * 7 + 3) (b.length : Int) = (p * 7 + 3) % (b.length : Int) := Int.tmod_eq_emod_of_nonneg (by omega)
    have q1 : Int.tdiv p (b.length : Int) = p / (b.length : Int) := Int.tdiv_eq_ediv_of_nonneg hp.1
    have a1 := Int.emod_nonneg p (show (b.length : Int) ≠ 0 from h0)
    have a2 := Int.emod_lt_of_pos p L0
    have a3 := Int.emod_nonneg (p * 7 + 3) (show (b.length : Int) ≠ 0 from h0)
    have a4 := Int.emod_lt_of_pos (p * 7 + 3) L0
    have a5 : 0 ≤ p / (b.length : Int) := Int.ediv_nonneg hp.1 (by omega)
    have a6 : p / (b.length : Int) ≤ p := Int.ediv_le_self _ hp.1
    have u := hb.rd (p % (b.length : Int))
    have v := hb.rd ((p * 7 + 3) % (b.length : Int))
    generalize hU : rd b (p % (b.length : Int)) = U at *
    generalize hV : rd b ((p * 7 + 3) % (b.length : Int)) = V at *
    generalize hQ : p / (b.length : Int) = Q at *
    generalize hM : p % (b.length : Int) = M at *
    generalize hM2 : (p * 7 + 3) % (b.length : Int) = M2 at *
    generalize hX : U * 131 + V * 1117 + p * 29 + Q * 53 = X at *
    have x0 : 0 ≤ X := by omega
    have x1 : X ≤ 1000000000000 := by omega
    have d1 : Int.tdiv X 64 = X / 64 := Int.tdiv_eq_ediv_of_nonneg x0
    have y := xor_nonneg X (X / 64) x0 (by omega) (by omega) (by omega)
    refine ⟨Int.tmod (Go.bits .xor .i64 X (X / 64)) n, ?_, Ev.step (fun k => by rw [spec_l20Rd_pick.j0]) ?_⟩
    · rw [Int.tmod_eq_emod_of_nonneg y]; exact ⟨Int.emod_nonneg _ n0, Int.emod_lt_of_pos _ (by omega)⟩
    · simp only [e1, w64 (x := p) (by omega), w64 (x := p * 7) (by omega), w64 (x := p * 7 + 3) (by omega), beq_eq_false_iff_ne.2 h0, Bool.false_eq_true, if_false, if_neg h1, if_neg h0, m1, m2, q1, if_pos a1, if_pos a2, if_pos a3, if_pos a4, if_neg n0, hU, hV, w64 (x := U) (by omega), w64 (x := V) (by omega), w64 (x := U * 131) (by omega), w64 (x := V * 1117) (by omega), w64 (x := U * 131 + V * 1117) (by omega), w64 (x := p * 29) (by omega), w64 (x := U * 131 + V * 1117 + p * 29) (by omega), w64 (x := Q) (by omega), w64 (x := Q * 53) (by omega), hX, w64 (x := X) (by omega), d1, w64 (x := X / 64) (by omega)]
      exact Ev.now _

theorem open_l (l : List Int) (h : ∀ x ∈ l, (Lit.int .u8 x).wf = true) : ∃ b, Bytes b ∧ spec_l20Open.f l = some (b, 0) := by
  unfold spec_l20Open.f
  by_cases c : (l.length : Int) > 2000
  · refine ⟨l.take 2000, ⟨by simp; omega, fun x hx => wf_u8 (h x (List.mem_of_mem_take hx))⟩, ?_⟩
    rw [if_pos c, if_pos (by omega)]
  · exact ⟨l, ⟨by omega, fun x hx => wf_u8 (h x hx)⟩, by rw [if_neg c]⟩

theorem rd7 (a b c d e f g : Int) (i : Int) (h : 0 ≤ i ∧ i < 7) (lo hi : Int) (ha : lo ≤ a ∧ a ≤ hi) (hb : lo ≤ b ∧ b ≤ hi) (hc : lo ≤ c ∧ c ≤ hi) (hd : lo ≤ d ∧ d ≤ hi) (he : lo ≤ e ∧ e ≤ hi) (hf : lo ≤ f ∧ f ≤ hi) (hg : lo ≤ g ∧ g ≤ hi) :
    lo ≤ rd [a, b, c, d, e, f, g] i ∧ rd [a, b, c, d, e, f, g] i ≤ hi := by
  obtain ⟨n, rfl⟩ := Int.eq_ofNat_of_zero_le h.1
  have : n = 0 ∨ n = 1 ∨ n = 2 ∨ n = 3 ∨ n = 4 ∨ n = 5 ∨ n = 6 := by omega
  rcases this with rfl | rfl | rfl | rfl | rfl | rfl | rfl <;> assumption
theorem mul_bd {a b A B : Int} (ha : 0 ≤ a ∧ a ≤ A) (hb : 0 ≤ b ∧ b ≤ B) : 0 ≤ a * b ∧ a * b ≤ A * B :=
  ⟨Int.mul_nonneg ha.1 hb.1, Int.mul_le_mul ha.2 hb.2 hb.1 (by omega)⟩
theorem ev_some {b : List Int} (hb : Bytes b) (p : Int) (hp : 0 ≤ p ∧ p ≤ 999900) :
    ∃ v q, (-20000 ≤ v ∧ v ≤ 40000) ∧ (p ≤ q ∧ q ≤ p + 8) ∧ Ev (fun k => spec_l20Some.f k b p) (v, q) := by
  unfold spec_l20Some.f
  obtain ⟨r1, b1, e1⟩ := ev_pick hb p 12 (by omega) (by omega)
  obtain ⟨r2, b2, e2⟩ := ev_pick hb (p + 1) 60 (by omega) (by omega)
  obtain ⟨r3, b3, e3⟩ := ev_pick hb (p + 1 + 1) 100 (by omega) (by omega)
  obtain ⟨r4, b4, e4⟩ := ev_pick hb (p + 1 + 1 + 1) 100 (by omega) (by omega)
  obtain ⟨r5, b5, e5⟩ := ev_pick hb (p + 1 + 1 + 1 + 1) 60 (by omega) (by omega)
  obtain ⟨r6, b6, e6⟩ := ev_pick hb (p + 1 + 1 + 1 + 1 + 1) 13 (by omega) (by omega)
  obtain ⟨r7, b7, e7⟩ := ev_pick hb (p + 1 + 1 + 1 + 1 + 1 + 1) 40 (by omega) (by omega)
  obtain ⟨r8, b8, e8⟩ := ev_pick hb (p + 1 + 1 + 1 + 1 + 1 + 1 + 1) 50 (by omega) (by omega)
  have m := mul_bd (a := r3) (b := r4) (A := 99) (B := 99) (by omega) (by omega)
  have d6 : Int.tdiv r6 2 = r6 / 2 := Int.tdiv_eq_ediv_of_nonneg b6.1
  have d7 : Int.tdiv r7 39 = r7 / 39 := Int.tdiv_eq_ediv_of_nonneg b7.1
  have d8 : Int.tdiv r8 49 = r8 / 49 := Int.tdiv_eq_ediv_of_nonneg b8.1
  have RB := rd7 (1 + r1) (1 + r2) (1 + r3 * r4) (12 * (1 + r5)) 9973 8192 9240 (r6 / 2) (by omega) 1 9973 (by omega) (by omega) (by omega) (by omega) (by omega) (by omega) (by omega)
  generalize hR : rd [1 + r1, 1 + r2, 1 + r3 * r4, 12 * (1 + r5), 9973, 8192, 9240] (r6 / 2) = R at *
  refine ⟨R + r7 / 39 * 10000 - r8 / 49 * 20000, p + 1 + 1 + 1 + 1 + 1 + 1 + 1 + 1, by omega, by omega, ?_⟩
  refine Ev.bind e1 (Ev.bind e2 (Ev.bind e3 (Ev.bind e4 (Ev.bind e5 ?_))))
  simp only [Option.bind_some, w64 (x := 1 + r1) (by omega), w64 (x := 1 + r2) (by omega), w64 (x := r3 * r4) (by omega), w64 (x := 1 + r3 * r4) (by omega), w64 (x := 1 + r5) (by omega), w64 (x := 12 * (1 + r5)) (by omega)]
  refine Ev.bind e6 ?_
  have c1 : 0 ≤ r6 / 2 := by omega
  have c2 : r6 / 2 < (([1 + r1, 1 + r2, 1 + r3 * r4, 12 * (1 + r5), 9973, 8192, 9240] : List Int).length : Int) := by simp; omega
  simp only [d6, w64 (x := r6 / 2) (by omega), if_pos c1, if_pos c2]
  refine Ev.bind e7 (Ev.bind e8 ?_)
  simp only [hR, d7, d8, w64 (x := r7 / 39) (by omega), w64 (x := r8 / 49) (by omega), w64 (x := r7 / 39 * 10000) (by omega), w64 (x := r8 / 49 * 20000) (by omega), w64 (x := R + r7 / 39 * 10000) (by omega), w64 (x := R + r7 / 39 * 10000 - r8 / 49 * 20000) (by omega)]
  exact Ev.now _

theorem alive_f : laws_alive.f = some true := by
  unfold laws_alive.f impl_DividesOk.f
  simp only [numberOk_f, Option.bind_some]; simp

theorem DividesOk_f (d n : Int) : impl_DividesOk.f d n = some (decide ((1 ≤ d ∧ d ≤ 10000) ∧ (1 ≤ n ∧ n ≤ 10000) ∧ Int.tmod n d = 0)) := by
  unfold impl_DividesOk.f
  simp only [numberOk_f, Option.bind_some, decide_eq_true_eq]
  by_cases h1 : 1 ≤ d ∧ d ≤ 10000
  · by_cases h2 : 1 ≤ n ∧ n ≤ 10000
    · have h0 : ¬ d = 0 := by omega
      simp only [if_pos h1, if_pos h2, if_neg h0]
      congr 1; rw [Bool.eq_iff_iff]; simp [h1, h2]
    · simp only [if_pos h1, if_neg h2]
      congr 1; symm; rw [decide_eq_false_iff_not]; rintro ⟨_, h, _⟩; exact h2 h
  · simp only [if_neg h1]
    congr 1; symm; rw [decide_eq_false_iff_not]; rintro ⟨h, _⟩; exact h1 h
theorem DividesOk_nat (d n : Nat) : impl_DividesOk.f (d : Int) (n : Int) = some (decide ((1 ≤ d ∧ d ≤ 10000) ∧ (1 ≤ n ∧ n ≤ 10000) ∧ d ∣ n)) := by
  rw [DividesOk_f, ← Int.ofNat_tmod]
  congr 1; rw [Bool.eq_iff_iff]; simp only [decide_eq_true_eq]
  constructor
  · rintro ⟨a, b, c⟩; exact ⟨by omega, by omega, Nat.dvd_of_mod_eq_zero (by omega)⟩
  · rintro ⟨a, b, c⟩; have := Nat.mod_eq_zero_of_dvd c; exact ⟨by omega, by omega, by omega⟩

theorem ev_common_loop (a b : Nat) (h : (1 ≤ a ∧ a ≤ 10000) ∧ (1 ≤ b ∧ b ≤ 10000)) : ∀ (m d : Nat), d + m = 41 → 
    Ev (fun k => laws_FnCommonOf.l0 k (a : Int) (b : Int) ((Nat.gcd a b : Nat) : Int) (d : Int)) true := by
  intro m
  have g1 : 1 ≤ Nat.gcd a b := Nat.gcd_pos_of_pos_left _ (by omega)
  have g2 : Nat.gcd a b ≤ 10000 := Nat.le_trans (Nat.gcd_le_left _ (by omega)) h.1.2
  induction m with
  | zero =>
    intro d hd
    refine Ev.step (fun k => by rw [laws_FnCommonOf.l0]) ?_
    have c : ¬ (d : Int) ≤ 40 := by omega
    simp only [if_neg c, DividesOk_nat, Option.bind_some]
    have x1 : (1 ≤ Nat.gcd a b ∧ Nat.gcd a b ≤ 10000) ∧ (1 ≤ a ∧ a ≤ 10000) ∧ Nat.gcd a b ∣ a := ⟨⟨g1, g2⟩, h.1, Nat.gcd_dvd_left _ _⟩
    have x2 : (1 ≤ Nat.gcd a b ∧ Nat.gcd a b ≤ 10000) ∧ (1 ≤ b ∧ b ≤ 10000) ∧ Nat.gcd a b ∣ b := ⟨⟨g1, g2⟩, h.2, Nat.gcd_dvd_right _ _⟩
    simp only [decide_eq_true x1, decide_eq_true x2, if_true]
    refine Ev.bind (ev_CommonOf b a ⟨h.2, h.1⟩) (Ev.ret ?_)
    rw [Nat.gcd_comm b a]; simp
  | succ m ih =>
    intro d hd
    refine Ev.step (fun k => by rw [laws_FnCommonOf.l0]) ?_
    have c : (d : Int) ≤ 40 := by omega
    have nx := ih (d + 1) (by omega)
    simp only [if_pos c, DividesOk_nat, Option.bind_some, decide_eq_true_eq, w64 (x := (d : Int) + 1) (by omega)]
    by_cases y1 : (1 ≤ d ∧ d ≤ 10000) ∧ (1 ≤ a ∧ a ≤ 10000) ∧ d ∣ a
    · by_cases y2 : (1 ≤ d ∧ d ≤ 10000) ∧ (1 ≤ b ∧ b ≤ 10000) ∧ d ∣ b
      · have y3 : (1 ≤ d ∧ d ≤ 10000) ∧ (1 ≤ Nat.gcd a b ∧ Nat.gcd a b ≤ 10000) ∧ d ∣ Nat.gcd a b := ⟨y1.1, ⟨g1, g2⟩, Nat.dvd_gcd y1.2.2 y2.2.2⟩
        simp only [if_pos y1, if_pos y2, if_pos y3]; exact nx
      · simp only [if_pos y1, if_neg y2]; exact nx
    · simp only [if_neg y1]; exact nx
theorem FnCommonOf : laws_FnCommonOf.Pure := by
  intro l h1 h2 h3
  apply Ev.k
  unfold laws_FnCommonOf.f
  by_cases hl : (l.length : Int) > 1048576
  · simp only [if_pos hl]; exact Ev.now _
  simp only [if_neg hl]
  obtain ⟨b, hb, eo⟩ := open_l l h3
  obtain ⟨x, q, hx, hq, ex⟩ := ev_some hb 0 (by omega)
  obtain ⟨y, q2, hy, hq2, ey⟩ := ev_some hb q (by omega)
  have ed : Ev (fun k => spec_DrawCommonOf.f k l) (x, y) := by
    unfold spec_DrawCommonOf.f
    simp only [eo, Option.bind_some]
    exact Ev.bind ex (Ev.bind ey (Ev.now _))
  refine Ev.bind ed ?_
  by_cases h : (1 ≤ x ∧ x ≤ 10000) ∧ (1 ≤ y ∧ y ≤ 10000)
  · obtain ⟨x, rfl⟩ := Int.eq_ofNat_of_zero_le (show 0 ≤ x by omega)
    obtain ⟨y, rfl⟩ := Int.eq_ofNat_of_zero_le (show 0 ≤ y by omega)
    refine Ev.bind (ev_CommonOf x y (by omega)) (Ev.bind (ev_sCommonOf x y (by omega)) ?_)
    have n0 : ¬ ((Nat.gcd x y : Nat) : Int) < 0 := by omega
    simp only [if_true, if_neg n0]
    exact ev_common_loop x y (by omega) 40 1 (by omega)
  · refine Ev.bind (ev_CommonOf_no h) (Ev.bind (ev_sCommonOf_no h) ?_)
    have n0 : (-1 : Int) < 0 := by omega
    simp only [if_true, if_pos n0, alive_f, Option.bind_some]
    exact Ev.now _

end Go.Proofs.Ytkelbmnbcfjgkaa.Pure
namespace Go.Proofs.Ytkelbmnbcfjgkaa.PrintWords
/-- The printed row's word, under the name by which that row calls it. -/
abbrev sized_ints := @Go.Proofs.YtkelbmnbcfjgkaaW.PrintWords.sized_ints
end Go.Proofs.Ytkelbmnbcfjgkaa.PrintWords
