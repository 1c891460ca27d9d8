/- The program's NamedRow and the reference's tell the same rows for all numbers, in memory of their own. -/
import Derived.Test.YtcnbiknoehcfnaaPFnExactNamedRowx0
import Derived.Test.YtcnbiknoehcfnaaPFnExactNamedRowx1
import Derived.Test.YtcnbiknoehcfnaaPFnExactNamedRowx2
import Derived.Test.YtcnbiknoehcfnaaPFnExactNamedRowx3
import Derived.Test.YtcnbiknoehcfnaaPFnExactNamedRowx4
import Derived.Test.YtcnbiknoehcfnaaPFnExactNamedRowx5
import Derived.Test.YtcnbiknoehcfnaaPFnExactNamedRowx6
namespace Go.Proofs.Ytcnbiknoehcfnaa.Pure
open Go.RowKit Go.Proofs.Ytcnbiknoehcfnaa.PFnExactNamedRow Go.Proofs.YtcnbiknoehcfnaaW.PrintWords Go.Proofs.YtcnbiknoehcfnaaW.PrintLast Go.Proofs.YtcnbiknoehcfnaaW.PrintMore
set_option linter.unusedVariables false
set_option linter.unusedSimpArgs false
theorem w64 {x : Int} (h : -9223372036854775808 ≤ x ∧ x ≤ 9223372036854775807) : wrap64 x = x := by unfold wrap64; omega
theorem Ev.k {α : Type} {g : Nat → Option α} {r : α} (h : Ev g r) : ∃ k, g k = some r := Ev.rounds h
theorem Ev.to {α : Type} {g : Nat → Option α} {r s : α} (h : Ev g r) (e : r = s) : Ev g s := e ▸ h
theorem Ev.ret {α : Type} {r s : α} (e : r = s) : Ev (fun _ => some r) s := e ▸ Ev.now r

theorem rd_nat (xs : List Int) (i : Nat) : rd xs (i : Int) = xs.getD i 0 := rfl
theorem drop_step (f : List Int) (i : Nat) (h : i < f.length) : f.drop i = f.getD i 0 :: f.drop (i + 1) := by
  rw [List.drop_eq_getElem_cons h]; simp [List.getD_eq_getElem?_getD, List.getElem?_eq_getElem h]
def InB (f : List Int) (m : Int) : Prop := ∀ x ∈ f, -m ≤ x ∧ x ≤ m
instance (f : List Int) (m : Int) : Decidable (InB f m) := by unfold InB; infer_instance
theorem InB_cons (x : Int) (f : List Int) (m : Int) : InB (x :: f) m ↔ (-m ≤ x ∧ x ≤ m) ∧ InB f m := by
  unfold InB; simp
theorem InB_nil (m : Int) : InB [] m := fun x h => by cases h
theorem InB.mono {f : List Int} {m n : Int} (h : InB f m) (hmn : m ≤ n) : InB f n := fun x hx => by have := h x hx; omega

/-- The rows with names. -/
def named : Nat → List Int
  | 0 => [1, 0, 0, 0, 0, 0, 0, 0, 0, 0, 0, 0, 0, 0, 0, 0, 0, 0, 0, 0, 0, 0, 0, 0]
  | 1 => [1, 1, 1, 1, 1, 1, 1, 1, 1, 1, 1, 1, 1, 1, 1, 1, 1, 1, 1, 1, 1, 1, 1, 1]
  | 2 => [1, 2, 3, 4, 5, 6, 7, 8, 9, 10, 11, 12, 13, 14, 15, 16, 17, 18, 19, 20, 21, 22, 23, 24]
  | 3 => [1, 2, 2, 3, 2, 4, 2, 4, 3, 4, 2, 6, 2, 4, 4, 5, 2, 6, 2, 6, 4, 4, 2, 8]
  | 4 => [1, 3, 4, 7, 6, 12, 8, 15, 13, 18, 12, 28, 14, 24, 24, 31, 18, 39, 20, 42, 32, 36, 24, 60]
  | 5 => [1, 1, 2, 2, 4, 2, 6, 4, 6, 4, 10, 4, 12, 6, 8, 8, 16, 6, 18, 8, 12, 10, 22, 8]
  | 6 => [1, -1, -1, 0, -1, 1, -1, 0, 0, 1, -1, 0, -1, 1, 1, 0, -1, 0, -1, 0, 1, 1, -1, 0]
  | _ => [1, -1, -1, 1, -1, 1, -1, -1, 1, 1, -1, -1, -1, 1, 1, 1, -1, -1, -1, -1, 1, 1, -1, 1]
theorem named_length (i : Nat) : (named i).length = 24 := by
  unfold named; split <;> rfl
theorem named_in (i : Nat) : InB (named i) 60 := by
  unfold named; split <;> decide

/-- The row with a name; none for others. -/
def namedZ (n : Int) : List Int := if 0 ≤ n ∧ n < 8 then named n.toNat else []
theorem namedZ_length (n : Int) : (namedZ n).length ≤ 24 := by
  unfold namedZ; split
  · exact Nat.le_of_eq (named_length _)
  · simp

theorem ev_iNamedRow (i : Nat) (h : i < 8) : Ev (fun k => impl_NamedRow.f k (i : Int)) (named i) := by
  have : i = 0 ∨ i = 1 ∨ i = 2 ∨ i = 3 ∨ i = 4 ∨ i = 5 ∨ i = 6 ∨ i = 7 := by omega
  rcases this with rfl | rfl | rfl | rfl | rfl | rfl | rfl | rfl <;> exact Ev.of (fun k => impl_NamedRow.mono _ k) (k := 200) (by decide +kernel)

theorem ev_iNamedRowZ (n : Int) : Ev (fun k => impl_NamedRow.f k n) (namedZ n) := by
  unfold namedZ
  by_cases h : 0 ≤ n ∧ n < 8
  · obtain ⟨i, rfl⟩ := Int.eq_ofNat_of_zero_le h.1
    rw [if_pos h, Int.toNat_natCast]; exact ev_iNamedRow i (by omega)
  · rw [if_neg h]
    unfold impl_NamedRow.f
    by_cases c : n < 0
    · simp only [if_pos c]; exact Ev.now _
    · have c2 : n ≥ 8 := by omega
      simp only [if_neg c, ge_iff_le, if_pos (show 8 ≤ n from c2)]; exact Ev.now _

theorem ev_sNamedRow (i : Nat) (h : i < 8) : Ev (fun k => spec_NamedRow.f k (i : Int)) (named i) := by
  have : i = 0 ∨ i = 1 ∨ i = 2 ∨ i = 3 ∨ i = 4 ∨ i = 5 ∨ i = 6 ∨ i = 7 := by omega
  rcases this with rfl | rfl | rfl | rfl | rfl | rfl | rfl | rfl <;> exact Ev.of (fun k => spec_NamedRow.mono _ k) (k := 200) (by decide +kernel)

theorem l1In_f (a b c : Int) : spec_l1In.f a b c = some (decide (b ≤ a ∧ a ≤ c)) := by
  unfold spec_l1In.f
  by_cases h : a ≥ b
  · rw [if_pos h]; simp [show b ≤ a from h]
  · rw [if_neg h]; simp [show ¬ b ≤ a from h]

theorem ev_sNamedRowZ (n : Int) : Ev (fun k => spec_NamedRow.f k n) (namedZ n) := by
  unfold namedZ
  by_cases h : 0 ≤ n ∧ n < 8
  · obtain ⟨i, rfl⟩ := Int.eq_ofNat_of_zero_le h.1
    rw [if_pos h, Int.toNat_natCast]; exact ev_sNamedRow i (by omega)
  · rw [if_neg h]
    unfold spec_NamedRow.f
    refine Ev.step (fun k => by rw [spec_NamedRow.l0]) ?_
    have c : (1 : Int) ≤ 24 := by omega
    have d : ¬ (0 ≤ n ∧ n ≤ 7) := by omega
    simp only [if_pos c, l1In_f, Option.bind_some, decide_eq_false d, Bool.false_eq_true, if_false]
    exact Ev.now _

theorem ev_eqIntS_l (a b : List Int) (hl : a.length = b.length) (ha : a.length ≤ 1000000000000000) : ∀ (d i : Nat), i + d = a.length →
    Ev (fun k => laws_eqIntS.l0 k a b (i : Int)) (decide (a.drop i = b.drop i)) := by
  intro d
  induction d with
  | zero =>
    intro i hi
    refine Ev.step (fun k => by rw [laws_eqIntS.l0]) ?_
    have h1 : ¬ (i : Int) < (a.length : Int) := by omega
    simp only [if_neg h1]
    refine Ev.ret ?_
    rw [List.drop_eq_nil_of_le (by omega), List.drop_eq_nil_of_le (by omega)]; simp
  | succ d ih =>
    intro i hi
    refine Ev.step (fun k => by rw [laws_eqIntS.l0]) ?_
    have h1 : (i : Int) < (a.length : Int) := by omega
    have h2 : (0 : Int) ≤ (i : Int) := by omega
    have h3 : (i : Int) < (b.length : Int) := by omega
    have ea := drop_step a i (by omega)
    have eb := drop_step b i (by omega)
    simp only [if_pos h1, if_pos h2, if_pos h3, rd_nat, w64 (x := (i : Int) + 1) (by omega)]
    by_cases e : a.getD i 0 = b.getD i 0
    · simp only [if_pos e]
      refine Ev.to (ih (i + 1) (by omega)) ?_
      rw [ea, eb, e]; simp
    · simp only [if_neg e]
      refine Ev.ret ?_
      rw [ea, eb]; simp only [List.cons.injEq, e, false_and, decide_false]
theorem ev_eqIntS (a b : List Int) (ha : a.length ≤ 1000000000000000) : Ev (fun k => laws_eqIntS.f k a b) (decide (a = b)) := by
  unfold laws_eqIntS.f
  by_cases h : (a.length : Int) = (b.length : Int)
  · simp only [if_pos h]
    exact ev_eqIntS_l a b (by omega) ha a.length 0 (by omega)
  · simp only [if_neg h]
    refine Ev.ret ?_
    symm; rw [decide_eq_false_iff_not]
    intro e; subst e; exact h rfl

/-- The marks m, m + 1, .. -/
def marks (m : Int) (n : Nat) : List Int := (List.range n).map (fun i : Nat => m + (i : Int))
theorem marks_length (m : Int) (n : Nat) : (marks m n).length = n := by simp [marks]
theorem marks_getD (m : Int) (n i : Nat) (h : i < n) : (marks m n).getD i 0 = m + (i : Int) := by
  rw [List.getD_eq_getElem?_getD, List.getElem?_eq_getElem (by rw [marks_length]; exact h)]; simp [marks]
theorem marks_succ (m : Int) (n : Nat) : marks m (n + 1) = marks m n ++ [m + (n : Int)] := by simp [marks, List.range_succ]
theorem ev_mark_l (l : List Int) (hl : l.length ≤ 1000000000000) : ∀ (d i : Nat), i + d = l.length →
    Ev (fun k => laws_markIntS.l0 k (marks 1 i ++ l.drop i) (1 + (i : Int)) (i : Int)) (1 + (l.length : Int), marks 1 l.length) := by
  intro d
  induction d with
  | zero =>
    intro i hi
    refine Ev.step (fun k => by rw [laws_markIntS.l0]) ?_
    have e : marks 1 i ++ l.drop i = marks 1 l.length := by rw [List.drop_eq_nil_of_le (by omega), List.append_nil, show i = l.length by omega]
    have h1 : ¬ (i : Int) < ((marks 1 l.length).length : Int) := by rw [marks_length]; omega
    simp only [e, if_neg h1]
    refine Ev.ret ?_
    rw [show (i : Int) = (l.length : Int) by omega]
  | succ d ih =>
    intro i hi
    refine Ev.step (fun k => by rw [laws_markIntS.l0]) ?_
    have h1 : (i : Int) < ((marks 1 i ++ l.drop i).length : Int) := by rw [List.length_append, marks_length, List.length_drop]; omega
    have h2 : (0 : Int) ≤ (i : Int) := by omega
    have e : (marks 1 i ++ l.drop i).set i (1 + (i : Int)) = marks 1 (i + 1) ++ l.drop (i + 1) := by
      rw [List.set_append_right _ _ (by rw [marks_length]; exact Nat.le_refl _), marks_length, Nat.sub_self, drop_step l i (by omega), List.set_cons_zero, marks_succ, List.append_assoc]; rfl
    simp only [if_pos h1, if_pos h2, Int.toNat_natCast, e, w64 (x := (i : Int) + 1) (by omega), w64 (x := 1 + (i : Int) + 1) (by omega)]
    have := ih (i + 1) (by omega)
    rw [show (1 : Int) + ((i + 1 : Nat) : Int) = 1 + (i : Int) + 1 by omega] at this
    exact this
theorem ev_mark (l : List Int) (hl : l.length ≤ 1000000000000) : Ev (fun k => laws_markIntS.f k l 1) (1 + (l.length : Int), marks 1 l.length) := by
  unfold laws_markIntS.f
  exact ev_mark_l l hl l.length 0 (by omega)
theorem ev_held_l (n : Nat) (hn : n ≤ 1000000000000) : ∀ (d i : Nat), i + d = n →
    Ev (fun k => laws_heldIntS.l0 k (marks 1 n) (1 + (i : Int)) (i : Int)) (1 + (n : Int)) := by
  intro d
  induction d with
  | zero =>
    intro i hi
    refine Ev.step (fun k => by rw [laws_heldIntS.l0]) ?_
    have h1 : ¬ (i : Int) < ((marks 1 n).length : Int) := by rw [marks_length]; omega
    simp only [if_neg h1]
    exact Ev.ret (by omega)
  | succ d ih =>
    intro i hi
    refine Ev.step (fun k => by rw [laws_heldIntS.l0]) ?_
    have h1 : (i : Int) < ((marks 1 n).length : Int) := by rw [marks_length]; omega
    have h2 : (0 : Int) ≤ (i : Int) := by omega
    simp only [if_pos h1, if_pos h2, rd_nat, marks_getD 1 n i (by omega), if_true, w64 (x := (i : Int) + 1) (by omega), w64 (x := 1 + (i : Int) + 1) (by omega)]
    have := ih (i + 1) (by omega)
    rw [show (1 : Int) + ((i + 1 : Nat) : Int) = 1 + (i : Int) + 1 by omega] at this
    exact this
theorem ev_held (n : Nat) (hn : n ≤ 1000000000000) : Ev (fun k => laws_heldIntS.f k (marks 1 n) 1) (1 + (n : Int)) := by
  unfold laws_heldIntS.f
  exact ev_held_l n hn n 0 (by omega)

theorem FnExactNamedRow : laws_FnExactNamedRow.Pure := by
  intro n hn
  apply Ev.k
  unfold laws_FnExactNamedRow.f
  have hl := namedZ_length n
  refine Ev.bind (ev_sNamedRowZ n) (Ev.bind (ev_iNamedRowZ n) (Ev.bind (ev_eqIntS (namedZ n) (namedZ n) (by omega)) ?_))
  simp only [decide_true, if_true]
  refine Ev.bind (ev_mark (namedZ n) (by omega)) (Ev.bind (ev_held (namedZ n).length (by omega)) ?_)
  have c : ¬ 1 + ((namedZ n).length : Int) < 0 := by omega
  simp only [if_neg c, if_true]
  refine Ev.bind (ev_iNamedRowZ n) (Ev.bind (ev_eqIntS (namedZ n) (namedZ n) (by omega)) ?_)
  simp only [decide_true, if_true]
  refine Ev.bind (ev_held (namedZ n).length (by omega)) ?_
  simp only [if_neg c, if_true]
  exact Ev.now _

end Go.Proofs.Ytcnbiknoehcfnaa.Pure
