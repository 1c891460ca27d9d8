/- The program's MultiplicativeOk and the reference's tell the same for all lists, and leave the list as it was. -/
import Derived.Test.YteeejjfoghmnpaaPFnExactMultiplicativeOkx0
import Derived.Test.YteeejjfoghmnpaaPFnExactMultiplicativeOkx1
import Derived.Test.YteeejjfoghmnpaaQFnExactMultiplicativeOkx2
import Derived.Test.YteeejjfoghmnpaaQFnExactMultiplicativeOkx3
import Derived.Test.YteeejjfoghmnpaaWSized
namespace Go.Proofs.Yteeejjfoghmnpaa.Pure
open Go.RowKit Go.Proofs.Yteeejjfoghmnpaa.PFnExactMultiplicativeOk Go.Proofs.YteeejjfoghmnpaaW.PrintWords Go.Proofs.YteeejjfoghmnpaaW.PrintLast Go.Proofs.YteeejjfoghmnpaaW.PrintMore
set_option linter.unusedVariables false
set_option linter.unusedSimpArgs false
theorem w64 {x : Int} (h : -9223372036854775808 ≤ x ∧ x ≤ 9223372036854775807) : wrap64 x = x := by unfold wrap64; omega
theorem Ev.k {α : Type} {g : Nat → Option α} {r : α} (h : Ev g r) : ∃ k, g k = some r := Ev.rounds h
theorem Ev.to {α : Type} {g : Nat → Option α} {r s : α} (h : Ev g r) (e : r = s) : Ev g s := e ▸ h
theorem Ev.ret {α : Type} {r s : α} (e : r = s) : Ev (fun _ => some r) s := e ▸ Ev.now r

theorem rd_nat (xs : List Int) (i : Nat) : rd xs (i : Int) = xs.getD i 0 := rfl
theorem drop_step (f : List Int) (i : Nat) (h : i < f.length) : f.drop i = f.getD i 0 :: f.drop (i + 1) := by
  rw [List.drop_eq_getElem_cons h]; simp [List.getD_eq_getElem?_getD, List.getElem?_eq_getElem h]
def InB (f : List Int) (m : Int) : Prop := ∀ x ∈ f, -m ≤ x ∧ x ≤ m
instance (f : List Int) (m : Int) : Decidable (InB f m) := by unfold InB; infer_instance
theorem InB_cons (x : Int) (f : List Int) (m : Int) : InB (x :: f) m ↔ (-m ≤ x ∧ x ≤ m) ∧ InB f m := by
  unfold InB; simp
theorem InB_nil (m : Int) : InB [] m := fun x h => by cases h
theorem InB.mono {f : List Int} {m n : Int} (h : InB f m) (hmn : m ≤ n) : InB f n := fun x hx => by have := h x hx; omega

/-- What a row is at a number. -/
def At (f : List Int) (n : Nat) : Int := f.getD (n - 1) 0
theorem rd_at (f : List Int) (n : Nat) (h : 1 ≤ n) : rd f ((n : Int) - 1) = At f n := by
  rw [show (n : Int) - 1 = ((n - 1 : Nat) : Int) by omega]; rfl
theorem rd_at0 (f : List Int) : rd f 0 = At f 1 := rfl
theorem InB.at {f : List Int} {m : Int} (h : InB f m) (hm : 0 ≤ m) (n : Nat) : -m ≤ At f n ∧ At f n ≤ m := by
  unfold At; rw [List.getD_eq_getElem?_getD]
  by_cases c : n - 1 < f.length
  · rw [List.getElem?_eq_getElem c]; exact h _ (List.getElem_mem _)
  · rw [List.getElem?_eq_none (by omega)]; simp; omega
theorem mul_in {x y B : Int} (hx : -B ≤ x ∧ x ≤ B) (hy : -B ≤ y ∧ y ≤ B) (hB : 0 ≤ B) : -(B * B) ≤ x * y ∧ x * y ≤ B * B := by
  have h1 : x.natAbs ≤ B.toNat := by omega
  have h2 : y.natAbs ≤ B.toNat := by omega
  have h3 := Nat.mul_le_mul h1 h2
  rw [← Int.natAbs_mul] at h3
  have h4 : ((B.toNat * B.toNat : Nat) : Int) = B * B := by rw [Int.natCast_mul, Int.toNat_of_nonneg hB]
  omega
theorem w64_prod {f : List Int} (h : InB f 1000000000) (a b : Nat) : wrap64 (At f a * At f b) = At f a * At f b := by
  have := mul_in (h.at (by omega) a) (h.at (by omega) b) (by omega)
  exact w64 (by omega)
/-- A row is 1 at 1, and at each product of two numbers (that are apart, or all) the product. -/
def Mult (all : Bool) (f : List Int) : Prop := At f 1 = 1 ∧ ∀ a b, 1 ≤ a → 1 ≤ b → a * b ≤ 24 → (all = true ∨ Nat.gcd a b = 1) → At f (a * b) = At f a * At f b
/-- It is so at all pairs before one. -/
def MultTo (all : Bool) (f : List Int) (x y : Nat) : Prop := ∀ a b, (a < x ∨ a = x ∧ b < y) → 1 ≤ a → 1 ≤ b → a * b ≤ 24 → (all = true ∨ Nat.gcd a b = 1) → At f (a * b) = At f a * At f b
theorem MultTo.step {all : Bool} {f : List Int} {x y : Nat} (h : MultTo all f x y) (e : x * y ≤ 24 → (all = true ∨ Nat.gcd x y = 1) → At f (x * y) = At f x * At f y) : MultTo all f x (y + 1) := by
  intro a b hab h1 h2 h3 h4
  by_cases c : a = x ∧ b = y
  · obtain ⟨rfl, rfl⟩ := c; exact e h3 h4
  · exact h a b (by omega) h1 h2 h3 h4
theorem MultTo.next {all : Bool} {f : List Int} {x y : Nat} (h : MultTo all f x y) (hy : 24 < x * y) : MultTo all f (x + 1) 1 := by
  intro a b hab h1 h2 h3 h4
  refine h a b ?_ h1 h2 h3 h4
  by_cases c : a < x
  · exact Or.inl c
  · have e : a = x := by omega
    subst e
    refine Or.inr ⟨rfl, Nat.lt_of_not_le (fun hle => ?_)⟩
    have := Nat.mul_le_mul_left a hle; omega

theorem ev_gcd_l (b : Nat) : ∀ a : Nat, Ev (fun k => impl_gcd.l0 k (a : Int) (b : Int)) ((Nat.gcd a b : Nat) : Int) := by
  induction b using Nat.strongRecOn with
  | _ b ih =>
    intro a
    refine Ev.step (fun k => by rw [impl_gcd.l0]) ?_
    by_cases hb : b = 0
    · subst hb
      simp only [Int.natCast_zero, if_true]
      exact Ev.ret (by simp)
    · have h0 : ¬ (b : Int) = 0 := by omega
      simp only [if_neg h0, ← Int.ofNat_tmod]
      refine Ev.to (ih (a % b) (Nat.mod_lt _ (by omega)) b) ?_
      rw [Nat.gcd_comm a b, Nat.gcd_rec b a, Nat.gcd_comm]
theorem ev_gcd (a b : Nat) : Ev (fun k => impl_gcd.f k (a : Int) (b : Int)) ((Nat.gcd a b : Nat) : Int) := by
  unfold impl_gcd.f; exact ev_gcd_l b a

theorem ev_products_l1 {f : List Int} (hf : InB f 1000000000) (hl : f.length = 24) (all : Bool) (r : Bool) (hr : r = true ↔ Mult all f) (x : Nat) (hx : 1 ≤ x ∧ x ≤ 24)
    (hN : MultTo all f (x + 1) 1 → Ev (fun k => impl_productsOk.l0 k f all ((x + 1 : Nat) : Int)) r) : ∀ (m y : Nat), y + m = 25 → 1 ≤ y → MultTo all f x y →
    Ev (fun k => impl_productsOk.l1 k f all (x : Int) (y : Int)) r := by
  intro m
  induction m with
  | zero =>
    intro y hy h1 hI
    have hb : 1 * 25 ≤ x * y := Nat.mul_le_mul hx.1 (by omega)
    have hb2 : x * y ≤ 24 * 25 := Nat.mul_le_mul hx.2 (by omega)
    refine Ev.step (fun k => by rw [impl_productsOk.l1]) ?_
    have e : (x : Int) * (y : Int) = ((x * y : Nat) : Int) := by simp
    have c : ¬ ((x * y : Nat) : Int) ≤ 24 := by omega
    simp only [e, w64 (x := ((x * y : Nat) : Int)) (by omega), if_neg c, w64 (x := (x : Int) + 1) (by omega)]
    exact hN (hI.next (by omega))
  | succ m ih =>
    intro y hy h1 hI
    have hb2 : x * y ≤ 24 * 25 := Nat.mul_le_mul hx.2 (by omega)
    have hb1 : 1 * 1 ≤ x * y := Nat.mul_le_mul hx.1 h1
    refine Ev.step (fun k => by rw [impl_productsOk.l1]) ?_
    have e : (x : Int) * (y : Int) = ((x * y : Nat) : Int) := by simp
    by_cases hc : x * y ≤ 24
    · have c : ((x * y : Nat) : Int) ≤ 24 := by omega
      have c1 : 0 ≤ ((x * y : Nat) : Int) - 1 := by omega
      have c2 : ((x * y : Nat) : Int) - 1 < (f.length : Int) := by omega
      have c3 : 0 ≤ (x : Int) - 1 := by omega
      have c4 : (x : Int) - 1 < (f.length : Int) := by omega
      have c5 : 0 ≤ (y : Int) - 1 := by omega
      have c6 : (y : Int) - 1 < (f.length : Int) := by omega
      simp only [e, w64 (x := ((x * y : Nat) : Int)) (by omega), w64 (x := ((x * y : Nat) : Int) - 1) (by omega), w64 (x := (x : Int) - 1) (by omega), w64 (x := (y : Int) - 1) (by omega), w64 (x := (y : Int) + 1) (by omega),
        if_pos c, if_pos c1, if_pos c2, if_pos c3, if_pos c4, if_pos c5, if_pos c6, rd_at f (x * y) (by omega), rd_at f x (by omega), rd_at f y (by omega), w64_prod hf]
      have yes : (At f (x * y) = At f x * At f y ∨ ¬ (all = true ∨ Nat.gcd x y = 1)) → Ev (fun k => impl_productsOk.l1 k f all (x : Int) ((y : Int) + 1)) r := fun h =>
        ih (y + 1) (by omega) (by omega) (hI.step (fun _ h2 => h.elim id (fun h3 => absurd h2 h3)))
      have no : ¬ At f (x * y) = At f x * At f y → (all = true ∨ Nat.gcd x y = 1) → Ev (fun _ => some false) r := fun h h2 => Ev.ret (by
        cases r with
        | false => rfl
        | true => exact absurd ((hr.1 rfl).2 x y hx.1 h1 hc h2) h)
      cases all with
      | true =>
        simp only [if_true]
        by_cases t : At f (x * y) = At f x * At f y
        · simp only [if_pos t]; exact yes (Or.inl t)
        · simp only [if_neg t]; exact no t (Or.inl rfl)
      | false =>
        simp only [Bool.false_eq_true, if_false]
        refine Ev.bind (ev_gcd x y) ?_
        by_cases g : Nat.gcd x y = 1
        · have g' : ((Nat.gcd x y : Nat) : Int) = 1 := by omega
          simp only [if_pos g']
          by_cases t : At f (x * y) = At f x * At f y
          · simp only [if_pos t]; exact yes (Or.inl t)
          · simp only [if_neg t]; exact no t (Or.inr g)
        · have g' : ¬ ((Nat.gcd x y : Nat) : Int) = 1 := by omega
          simp only [if_neg g']
          exact yes (Or.inr (fun h => h.elim (by simp) g))
    · have c : ¬ ((x * y : Nat) : Int) ≤ 24 := by omega
      simp only [e, w64 (x := ((x * y : Nat) : Int)) (by omega), if_neg c, w64 (x := (x : Int) + 1) (by omega)]
      exact hN (hI.next (by omega))
theorem ev_products_l0 {f : List Int} (hf : InB f 1000000000) (hl : f.length = 24) (all : Bool) (r : Bool) (hr : r = true ↔ Mult all f) : ∀ (m x : Nat), x + m = 25 → 1 ≤ x → MultTo all f x 1 →
    Ev (fun k => impl_productsOk.l0 k f all (x : Int)) r := by
  intro m
  induction m with
  | zero =>
    intro x hx h1 hI
    refine Ev.step (fun k => by rw [impl_productsOk.l0]) ?_
    have c : ¬ (x : Int) ≤ 24 := by omega
    have c1 : 0 < (f.length : Int) := by omega
    simp only [if_neg c, if_pos c1, rd_at0]
    refine Ev.ret ?_
    rw [Bool.eq_iff_iff, hr, beq_iff_eq]
    constructor
    · intro e; refine ⟨e, fun a b ha hb hab hg => hI a b (Or.inl ?_) ha hb hab hg⟩
      have := Nat.mul_le_mul_left a hb; omega
    · exact fun h => h.1
  | succ m ih =>
    intro x hx h1 hI
    refine Ev.step (fun k => by rw [impl_productsOk.l0]) ?_
    have c : (x : Int) ≤ 24 := by omega
    simp only [if_pos c]
    exact ev_products_l1 hf hl all r hr x (by omega) (fun h => ih (x + 1) (by omega) (by omega) h) 24 1 (by omega) (by omega) hI
theorem ev_products {f : List Int} (hf : InB f 1000000000) (hl : f.length = 24) (all : Bool) (r : Bool) (hr : r = true ↔ Mult all f) : Ev (fun k => impl_productsOk.f k f all) r := by
  unfold impl_productsOk.f
  exact ev_products_l0 hf hl all r hr 24 1 (by omega) (by omega) (fun a b h h1 h2 => by omega)

theorem ev_within_l (f : List Int) (m : Int) (hm : 0 ≤ m ∧ m ≤ 1000000000000) (hf : f.length ≤ 1000000000000000) : ∀ (d i : Nat), i + d = f.length →
    Ev (fun k => impl_within.l0 k f m f (f.length : Int) (i : Int)) (decide (InB (f.drop i) m ∧ f.length = 24)) := by
  intro d
  induction d with
  | zero =>
    intro i hi
    refine Ev.step (fun k => by rw [impl_within.l0]) ?_
    have h1 : ¬ (i : Int) < (f.length : Int) := by omega
    simp only [if_neg h1]
    refine Ev.ret ?_
    rw [List.drop_eq_nil_of_le (by omega), Bool.eq_iff_iff]; simp [InB_nil]; omega
  | succ d ih =>
    intro i hi
    refine Ev.step (fun k => by rw [impl_within.l0]) ?_
    have h1 : (i : Int) < (f.length : Int) := by omega
    have h2 : (0 : Int) ≤ (i : Int) := by omega
    simp only [if_pos h1, if_pos h2, rd_nat, w64 (x := -m) (by omega)]
    have e := drop_step f i (by omega)
    by_cases a : f.getD i 0 < -m
    · simp only [if_pos a]
      refine Ev.ret ?_
      symm; rw [decide_eq_false_iff_not, e, InB_cons]; omega
    · by_cases b : f.getD i 0 > m
      · simp only [if_neg a, gt_iff_lt, if_pos (show m < f.getD i 0 from b)]
        refine Ev.ret ?_
        symm; rw [decide_eq_false_iff_not, e, InB_cons]; omega
      · simp only [if_neg a, if_neg b, w64 (x := (i : Int) + 1) (by omega)]
        refine Ev.to (ih (i + 1) (by omega)) ?_
        rw [Bool.eq_iff_iff]; simp only [decide_eq_true_eq]; rw [e, InB_cons]
        constructor
        · rintro ⟨h, g⟩; exact ⟨⟨by omega, h⟩, g⟩
        · rintro ⟨⟨_, h⟩, g⟩; exact ⟨h, g⟩
theorem ev_within (f : List Int) (m : Int) (hm : 0 ≤ m ∧ m ≤ 1000000000000) (hf : f.length ≤ 1000000000000000) :
    Ev (fun k => impl_within.f k f m) (decide (InB f m ∧ f.length = 24)) := by
  unfold impl_within.f
  exact ev_within_l f m hm hf f.length 0 (by omega)

theorem ev_RowOk (f : List Int) (hf : f.length ≤ 1000000000000000) : Ev (fun k => impl_RowOk.f k f) (decide (InB f 1000000000 ∧ f.length = 24)) := by
  unfold impl_RowOk.f
  exact Ev.bind (ev_within f 1000000000 (by omega) hf) (Ev.now _)

theorem ev_MultOk (f : List Int) (hf : f.length ≤ 1000000000000000) (r : Bool) (hr : r = true ↔ (InB f 1000000000 ∧ f.length = 24) ∧ Mult false f) : Ev (fun k => impl_MultiplicativeOk.f k f) r := by
  unfold impl_MultiplicativeOk.f
  refine Ev.bind (ev_RowOk f hf) ?_
  by_cases h : InB f 1000000000 ∧ f.length = 24
  · simp only [decide_eq_true h, if_true]
    exact Ev.bind (ev_products h.1 h.2 false r (by rw [hr]; exact ⟨fun x => x.2, fun x => ⟨h, x⟩⟩)) (Ev.now _)
  · simp only [decide_eq_false h, Bool.false_eq_true, if_false]
    refine Ev.ret ?_
    cases r with
    | false => rfl
    | true => exact absurd (hr.1 rfl).1 h

theorem l1In_f (a b c : Int) : spec_l1In.f a b c = some (decide (b ≤ a ∧ a ≤ c)) := by
  unfold spec_l1In.f
  by_cases h : a ≥ b
  · rw [if_pos h]; simp [show b ≤ a from h]
  · rw [if_neg h]; simp [show ¬ b ≤ a from h]

theorem ev_sRowOk_l (f : List Int) (hf : f.length ≤ 1000000000000000) : ∀ (d i : Nat), i + d = f.length →
    Ev (fun k => spec_RowOk.l0 k f (i : Int)) (decide (InB (f.drop i) 1000000000 ∧ f.length = 24)) := by
  intro d
  induction d with
  | zero =>
    intro i hi
    refine Ev.step (fun k => by rw [spec_RowOk.l0]) ?_
    have h1 : ¬ (i : Int) < (f.length : Int) := by omega
    simp only [if_neg h1]
    refine Ev.ret ?_
    rw [List.drop_eq_nil_of_le (by omega), Bool.eq_iff_iff]; simp [InB_nil]; omega
  | succ d ih =>
    intro i hi
    refine Ev.step (fun k => by rw [spec_RowOk.l0]) ?_
    have h1 : (i : Int) < (f.length : Int) := by omega
    have h2 : (0 : Int) ≤ (i : Int) := by omega
    simp only [if_pos h1, if_pos h2, rd_nat, l1In_f, Option.bind_some, decide_eq_true_eq]
    have e := drop_step f i (by omega)
    by_cases a : -1000000000 ≤ f.getD i 0 ∧ f.getD i 0 ≤ 1000000000
    · simp only [if_pos a, w64 (x := (i : Int) + 1) (by omega)]
      refine Ev.to (ih (i + 1) (by omega)) ?_
      rw [Bool.eq_iff_iff]; simp only [decide_eq_true_eq]; rw [e, InB_cons]
      constructor
      · rintro ⟨h, g⟩; exact ⟨⟨a, h⟩, g⟩
      · rintro ⟨⟨_, h⟩, g⟩; exact ⟨h, g⟩
    · simp only [if_neg a]
      refine Ev.ret ?_
      symm; rw [decide_eq_false_iff_not, e, InB_cons]; rintro ⟨⟨h, _⟩, _⟩; exact a h
theorem ev_sRowOk (f : List Int) (hf : f.length ≤ 1000000000000000) :
    Ev (fun k => spec_RowOk.f k f) (decide (InB f 1000000000 ∧ f.length = 24)) := by
  unfold spec_RowOk.f
  exact ev_sRowOk_l f hf f.length 0 (by omega)

theorem ev_sCommonOf_l (b : Nat) : ∀ a : Nat, Ev (fun k => spec_CommonOf.l0 k (a : Int) (b : Int)) ((Nat.gcd a b : Nat) : Int) := by
  induction b using Nat.strongRecOn with
  | _ b ih =>
    intro a
    refine Ev.step (fun k => by rw [spec_CommonOf.l0]) ?_
    by_cases hb : b = 0
    · subst hb
      simp only [Int.natCast_zero, gt_iff_lt, Int.lt_irrefl, if_false]
      exact Ev.ret (by simp)
    · have h0 : ¬ (b : Int) = 0 := by omega
      have h1 : (b : Int) > 0 := by omega
      simp only [if_neg h0, if_pos h1, ← Int.ofNat_tmod]
      refine Ev.to (ih (a % b) (Nat.mod_lt _ (by omega)) b) ?_
      rw [Nat.gcd_comm a b, Nat.gcd_rec b a, Nat.gcd_comm]
theorem ev_sCommonOf_no {a b : Int} (h : ¬ ((1 ≤ a ∧ a ≤ 10000) ∧ (1 ≤ b ∧ b ≤ 10000))) : Ev (fun k => spec_CommonOf.f k a b) (-1) := by
  unfold spec_CommonOf.f
  simp only [l1In_f, Option.bind_some, decide_eq_true_eq]
  by_cases h1 : 1 ≤ a ∧ a ≤ 10000
  · have h2 : ¬ (1 ≤ b ∧ b ≤ 10000) := fun h2 => h ⟨h1, h2⟩
    simp only [if_pos h1, decide_eq_false h2]
    refine Ev.step (fun k => by rw [spec_CommonOf.j0]) ?_
    simp only [Bool.not_false, if_true]
    exact Ev.now _
  · simp only [if_neg h1]
    refine Ev.step (fun k => by rw [spec_CommonOf.j0]) ?_
    simp only [if_true]
    exact Ev.now _
theorem ev_sCommonOf (a b : Nat) (h : (1 ≤ a ∧ a ≤ 10000) ∧ (1 ≤ b ∧ b ≤ 10000)) : Ev (fun k => spec_CommonOf.f k (a : Int) (b : Int)) ((Nat.gcd a b : Nat) : Int) := by
  unfold spec_CommonOf.f
  have h1 : 1 ≤ (a : Int) ∧ (a : Int) ≤ 10000 := by omega
  have h2 : 1 ≤ (b : Int) ∧ (b : Int) ≤ 10000 := by omega
  simp only [l1In_f, Option.bind_some, decide_eq_true_eq, if_pos h1, decide_eq_true h2]
  refine Ev.step (fun k => by rw [spec_CommonOf.j0]) ?_
  simp only [Bool.not_true, Bool.false_eq_true, if_false]
  exact ev_sCommonOf_l b a

/-- It is so at all pairs from 2 on, before one. -/
def Mult2ToMultOk (f : List Int) (x y : Nat) : Prop := ∀ a b, (a < x ∨ a = x ∧ b < y) → 2 ≤ a → 2 ≤ b → a * b ≤ 24 → (false = true ∨ Nat.gcd a b = 1) → At f (a * b) = At f a * At f b
theorem Mult2ToMultOk.step {f : List Int} {x y : Nat} (h : Mult2ToMultOk f x y) (e : x * y ≤ 24 → (false = true ∨ Nat.gcd x y = 1) → At f (x * y) = At f x * At f y) : Mult2ToMultOk f x (y + 1) := by
  intro a b hab h1 h2 h3 h4
  by_cases c : a = x ∧ b = y
  · obtain ⟨rfl, rfl⟩ := c; exact e h3 h4
  · exact h a b (by omega) h1 h2 h3 h4
theorem Mult2ToMultOk.next {f : List Int} {x y : Nat} (h : Mult2ToMultOk f x y) (hy : 24 < x * y) : Mult2ToMultOk f (x + 1) 2 := by
  intro a b hab h1 h2 h3 h4
  refine h a b ?_ h1 h2 h3 h4
  by_cases c : a < x
  · exact Or.inl c
  · have e : a = x := by omega
    subst e
    refine Or.inr ⟨rfl, Nat.lt_of_not_le (fun hle => ?_)⟩
    have := Nat.mul_le_mul_left a hle; omega
theorem mult_of_twoMultOk {f : List Int} (h1 : At f 1 = 1) (h : ∀ a b, 2 ≤ a → 2 ≤ b → a * b ≤ 24 → (false = true ∨ Nat.gcd a b = 1) → At f (a * b) = At f a * At f b) : Mult false f := by
  refine ⟨h1, fun a b ha hb hab hg => ?_⟩
  by_cases a1 : a = 1
  · subst a1; rw [h1, Nat.one_mul, Int.one_mul]
  · by_cases b1 : b = 1
    · subst b1; rw [h1, Nat.mul_one, Int.mul_one]
    · exact h a b (by omega) (by omega) hab hg
theorem ev_sMultOk_l1 {f : List Int} (hf : InB f 1000000000) (hl : f.length = 24) (r : Bool) (hr : r = true ↔ Mult false f) (x : Nat) (hx : 2 ≤ x ∧ x ≤ 24)
    (hN : Mult2ToMultOk f (x + 1) 2 → Ev (fun k => spec_MultiplicativeOk.l0 k f ((x + 1 : Nat) : Int)) r) : ∀ (m y : Nat), y + m = 25 → 2 ≤ y → Mult2ToMultOk f x y →
    Ev (fun k => spec_MultiplicativeOk.l1 k f (x : Int) (y : Int)) r := by
  intro m
  induction m with
  | zero =>
    intro y hy h1 hI
    have hb : 1 * 25 ≤ x * y := Nat.mul_le_mul (by omega) (by omega)
    have hb2 : x * y ≤ 24 * 25 := Nat.mul_le_mul hx.2 (by omega)
    refine Ev.step (fun k => by rw [spec_MultiplicativeOk.l1]) ?_
    have e : (x : Int) * (y : Int) = ((x * y : Nat) : Int) := by simp
    have c : ¬ ((x * y : Nat) : Int) ≤ 24 := by omega
    simp only [e, w64 (x := ((x * y : Nat) : Int)) (by omega), if_neg c, w64 (x := (x : Int) + 1) (by omega)]
    exact hN (hI.next (by omega))
  | succ m ih =>
    intro y hy h1 hI
    have hb2 : x * y ≤ 24 * 25 := Nat.mul_le_mul hx.2 (by omega)
    have hb1 : 1 * 1 ≤ x * y := Nat.mul_le_mul (by omega) (by omega)
    refine Ev.step (fun k => by rw [spec_MultiplicativeOk.l1]) ?_
    have e : (x : Int) * (y : Int) = ((x * y : Nat) : Int) := by simp
    by_cases hc : x * y ≤ 24
    · have c : ((x * y : Nat) : Int) ≤ 24 := by omega
      have c1 : 0 ≤ ((x * y : Nat) : Int) - 1 := by omega
      have c2 : ((x * y : Nat) : Int) - 1 < (f.length : Int) := by omega
      have c3 : 0 ≤ (x : Int) - 1 := by omega
      have c4 : (x : Int) - 1 < (f.length : Int) := by omega
      have c5 : 0 ≤ (y : Int) - 1 := by omega
      have c6 : (y : Int) - 1 < (f.length : Int) := by omega
      simp only [e, w64 (x := ((x * y : Nat) : Int)) (by omega), w64 (x := ((x * y : Nat) : Int) - 1) (by omega), w64 (x := (x : Int) - 1) (by omega), w64 (x := (y : Int) - 1) (by omega), w64 (x := (y : Int) + 1) (by omega),
        if_pos c, if_pos c1, if_pos c2, if_pos c3, if_pos c4, if_pos c5, if_pos c6, rd_at f (x * y) (by omega), rd_at f x (by omega), rd_at f y (by omega), w64_prod hf]
      have yes : (At f (x * y) = At f x * At f y ∨ ¬ (false = true ∨ Nat.gcd x y = 1)) → Ev (fun k => spec_MultiplicativeOk.l1 k f (x : Int) ((y : Int) + 1)) r := fun h =>
        ih (y + 1) (by omega) (by omega) (hI.step (fun _ h2 => h.elim id (fun h3 => absurd h2 h3)))
      have no : ¬ At f (x * y) = At f x * At f y → (false = true ∨ Nat.gcd x y = 1) → Ev (fun _ => some false) r := fun h h2 => Ev.ret (by
        cases r with
        | false => rfl
        | true => exact absurd ((hr.1 rfl).2 x y (by omega) (by omega) hc h2) h)
      simp only [spec_ApartOk.f]
      refine Ev.bind (Ev.bind (ev_sCommonOf x y (by omega)) (Ev.now _)) ?_
      by_cases g : Nat.gcd x y = 1
      · simp only [g, show (((1 : Nat) : Int) == 1) = true from rfl, if_true]
        by_cases t : At f (x * y) = At f x * At f y
        · simp only [if_pos t]; exact yes (Or.inl t)
        · simp only [if_neg t]; exact no t (Or.inr g)
      · have g' : (((Nat.gcd x y : Nat) : Int) == 1) = false := beq_eq_false_iff_ne.2 (by omega)
        simp only [g', Bool.false_eq_true, if_false]
        exact yes (Or.inr (fun h => h.elim (by simp) g))
    · have c : ¬ ((x * y : Nat) : Int) ≤ 24 := by omega
      simp only [e, w64 (x := ((x * y : Nat) : Int)) (by omega), if_neg c, w64 (x := (x : Int) + 1) (by omega)]
      exact hN (hI.next (by omega))
theorem ev_sMultOk_l0 {f : List Int} (hf : InB f 1000000000) (hl : f.length = 24) (h0 : At f 1 = 1) (r : Bool) (hr : r = true ↔ Mult false f) : ∀ (m x : Nat), x + m = 25 → 2 ≤ x → Mult2ToMultOk f x 2 →
    Ev (fun k => spec_MultiplicativeOk.l0 k f (x : Int)) r := by
  intro m
  induction m with
  | zero =>
    intro x hx h1 hI
    refine Ev.step (fun k => by rw [spec_MultiplicativeOk.l0]) ?_
    have c : ¬ (x : Int) ≤ 24 := by omega
    simp only [if_neg c]
    refine Ev.ret ?_
    rw [Bool.eq_iff_iff, hr]
    refine ⟨fun _ => mult_of_twoMultOk h0 (fun a b ha hb hab hg => hI a b (Or.inl ?_) ha hb hab hg), fun _ => rfl⟩
    have := Nat.mul_le_mul_left a (show 1 ≤ b by omega); omega
  | succ m ih =>
    intro x hx h1 hI
    refine Ev.step (fun k => by rw [spec_MultiplicativeOk.l0]) ?_
    have c : (x : Int) ≤ 24 := by omega
    simp only [if_pos c]
    exact ev_sMultOk_l1 hf hl r hr x (by omega) (fun h => ih (x + 1) (by omega) (by omega) h) 23 2 (by omega) (by omega) hI
theorem ev_sMultOk (f : List Int) (hf : f.length ≤ 1000000000000000) (r : Bool) (hr : r = true ↔ (InB f 1000000000 ∧ f.length = 24) ∧ Mult false f) : Ev (fun k => spec_MultiplicativeOk.f k f) r := by
  unfold spec_MultiplicativeOk.f
  refine Ev.bind (ev_sRowOk f hf) ?_
  have no : ¬ ((InB f 1000000000 ∧ f.length = 24) ∧ At f 1 = 1) → Ev (fun k => spec_MultiplicativeOk.j0 k f true) r := fun h => by
    refine Ev.step (fun k => by rw [spec_MultiplicativeOk.j0]) ?_
    simp only [if_true]
    refine Ev.ret ?_
    cases r with
    | false => rfl
    | true => exact absurd ⟨(hr.1 rfl).1, (hr.1 rfl).2.1⟩ h
  by_cases h : InB f 1000000000 ∧ f.length = 24
  · have c1 : 0 < (f.length : Int) := by omega
    simp only [decide_eq_true h, if_true, if_pos c1, rd_at0]
    by_cases e : At f 1 = 1
    · simp only [e, bne_self_eq_false]
      refine Ev.step (fun k => by rw [spec_MultiplicativeOk.j0]) ?_
      simp only [Bool.false_eq_true, if_false]
      exact ev_sMultOk_l0 h.1 h.2 e r (by rw [hr]; exact ⟨fun x => x.2, fun x => ⟨h, x⟩⟩) 23 2 (by omega) (by omega) (fun a b h h1 h2 => by omega)
    · simp only [bne_iff_ne.2 e]
      exact no (fun h => e h.2)
  · simp only [decide_eq_false h, Bool.false_eq_true, if_false]
    exact no (fun x => h x.1)

theorem set_fill (l : List Int) (i : Nat) (h : i < l.length) : (l.take i ++ List.replicate (l.length - i) 0).set i (l.getD i 0) = l.take (i + 1) ++ List.replicate (l.length - (i + 1)) 0 := by
  have e : l.length - i = (l.length - (i + 1)) + 1 := by omega
  have h3 : (l.take i).length = i := by simp; omega
  rw [e, List.replicate_succ, List.set_append_right _ _ (by omega), h3, Nat.sub_self, List.set_cons_zero, List.take_succ_eq_append_getElem h, List.append_assoc]
  simp [List.getD_eq_getElem?_getD, List.getElem?_eq_getElem h]
theorem ev_toIntS_l (l : List Int) (hl : l.length ≤ 1000000000000) : ∀ (d i : Nat), i + d = l.length →
    Ev (fun k => laws_toIntS.l0 k l (l.take i ++ List.replicate (l.length - i) 0) (i : Int)) l := by
  intro d
  induction d with
  | zero =>
    intro i hi
    refine Ev.step (fun k => by rw [laws_toIntS.l0]) ?_
    have h1 : ¬ (i : Int) < (l.length : Int) := by omega
    simp only [if_neg h1]
    refine Ev.ret ?_
    rw [show l.length - i = 0 by omega, List.take_of_length_le (by omega)]; simp
  | succ d ih =>
    intro i hi
    refine Ev.step (fun k => by rw [laws_toIntS.l0]) ?_
    have h1 : (i : Int) < (l.length : Int) := by omega
    have h2 : (0 : Int) ≤ (i : Int) := by omega
    have h3 : (i : Int) < ((l.take i ++ List.replicate (l.length - i) 0).length : Int) := by simp; omega
    simp only [if_pos h1, if_pos h2, if_pos h3, rd_nat, Int.toNat_natCast, w64 (x := (i : Int) + 1) (by omega), set_fill l i (by omega)]
    exact ih (i + 1) (by omega)
theorem ev_toIntS (l : List Int) (hl : l.length ≤ 1000000000000) : Ev (fun k => laws_toIntS.f k l) l := by
  unfold laws_toIntS.f
  have h1 : (0 : Int) ≤ (l.length : Int) := by omega
  have h2 : l.length ≤ 35184372088832 := by omega
  simp only [if_pos h1, Int.toNat_natCast, if_pos h2]
  exact ev_toIntS_l l hl l.length 0 (by omega)

theorem ev_eqIntS_l (a b : List Int) (hl : a.length = b.length) (ha : a.length ≤ 1000000000000000) : ∀ (d i : Nat), i + d = a.length →
    Ev (fun k => laws_eqIntS.l0 k a b (i : Int)) (decide (a.drop i = b.drop i)) := by
  intro d
  induction d with
  | zero =>
    intro i hi
    refine Ev.step (fun k => by rw [laws_eqIntS.l0]) ?_
    have h1 : ¬ (i : Int) < (a.length : Int) := by omega
    simp only [if_neg h1]
    refine Ev.ret ?_
    rw [List.drop_eq_nil_of_le (by omega), List.drop_eq_nil_of_le (by omega)]; simp
  | succ d ih =>
    intro i hi
    refine Ev.step (fun k => by rw [laws_eqIntS.l0]) ?_
    have h1 : (i : Int) < (a.length : Int) := by omega
    have h2 : (0 : Int) ≤ (i : Int) := by omega
    have h3 : (i : Int) < (b.length : Int) := by omega
    have ea := drop_step a i (by omega)
    have eb := drop_step b i (by omega)
    simp only [if_pos h1, if_pos h2, if_pos h3, rd_nat, w64 (x := (i : Int) + 1) (by omega)]
    by_cases e : a.getD i 0 = b.getD i 0
    · simp only [if_pos e]
      refine Ev.to (ih (i + 1) (by omega)) ?_
      rw [ea, eb, e]; simp
    · simp only [if_neg e]
      refine Ev.ret ?_
      rw [ea, eb]; simp only [List.cons.injEq, e, false_and, decide_false]
theorem ev_eqIntS (a b : List Int) (ha : a.length ≤ 1000000000000000) : Ev (fun k => laws_eqIntS.f k a b) (decide (a = b)) := by
  unfold laws_eqIntS.f
  by_cases h : (a.length : Int) = (b.length : Int)
  · simp only [if_pos h]
    exact ev_eqIntS_l a b (by omega) ha a.length 0 (by omega)
  · simp only [if_neg h]
    refine Ev.ret ?_
    symm; rw [decide_eq_false_iff_not]
    intro e; subst e; exact h rfl

open Classical in
theorem FnExactMultiplicativeOk : laws_FnExactMultiplicativeOk.Pure := by
  intro l h1 h2 h3
  apply Ev.k
  unfold laws_FnExactMultiplicativeOk.f
  by_cases h : (l.length : Int) > 1048576
  · simp only [if_pos h]; exact Ev.now _
  simp only [if_neg h]
  refine Ev.bind (ev_toIntS l (by omega)) (Ev.bind (ev_sMultOk l (by omega) _ decide_eq_true_iff) (Ev.bind (ev_toIntS l (by omega)) (Ev.bind (ev_MultOk l (by omega) _ decide_eq_true_iff) ?_)))
  simp only [bne_self_eq_false, Bool.false_eq_true, if_false]
  refine Ev.bind (ev_toIntS l (by omega)) (Ev.bind (ev_eqIntS l l (by omega)) ?_)
  simp only [decide_true, if_true]
  exact Ev.now _

end Go.Proofs.Yteeejjfoghmnpaa.Pure
namespace Go.Proofs.Yteeejjfoghmnpaa.PrintWords
/-- The printed row's word, under the name by which that row calls it. -/
abbrev sized_ints := @Go.Proofs.YteeejjfoghmnpaaW.PrintWords.sized_ints
end Go.Proofs.Yteeejjfoghmnpaa.PrintWords
