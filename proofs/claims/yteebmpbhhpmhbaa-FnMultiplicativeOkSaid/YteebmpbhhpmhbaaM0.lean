/- Plain facts about numbers and lists, used by the proofs of this seat. -/
import Derived.Test.YteebmpbhhpmhbaaM1
namespace Go.Proofs.Yteebmpbhhpmhbaa.Math
/-- A sum of integers. -/
def isum : List Int → Int
  | [] => 0
  | x :: t => x + isum t
theorem isum_append (a b : List Int) : isum (a ++ b) = isum a + isum b := by
  induction a with
  | nil => simp [isum]
  | cons x t ih => simp only [List.cons_append, isum, ih]; omega
theorem isum_perm {a b : List Int} (h : a.Perm b) : isum a = isum b := by
  induction h with
  | nil => rfl
  | cons x _ ih => simp only [isum, ih]
  | swap x y l => simp only [isum]; omega
  | trans _ _ h1 h2 => rw [h1, h2]
theorem isum_zero {l : List Int} (h : ∀ x ∈ l, x = 0) : isum l = 0 := by
  induction l with
  | nil => rfl
  | cons x t ih => simp only [isum]; rw [h x (by simp), ih (fun y hy => h y (List.mem_cons_of_mem _ hy))]; rfl
theorem isum_map_neg {α : Type} (l : List α) (g : α → Int) : isum (l.map (fun x => - g x)) = - isum (l.map g) := by
  induction l with
  | nil => rfl
  | cons x t ih => simp only [List.map_cons, isum, ih]; omega
theorem isum_flatMap {α : Type} (l : List α) (f : α → List Int) : isum (l.flatMap f) = isum (l.map (fun x => isum (f x))) := by
  induction l with
  | nil => rfl
  | cons x t ih => simp only [List.flatMap_cons, isum_append, List.map_cons, isum, ih]
theorem isum_congr {α : Type} {l : List α} {f g : α → Int} (h : ∀ x ∈ l, f x = g x) : isum (l.map f) = isum (l.map g) := by
  rw [List.map_congr_left h]


end Go.Proofs.Yteebmpbhhpmhbaa.Math
