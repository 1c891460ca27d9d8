/- The functions that the law reaches, each with the number or list that Go comes to, for all arguments that its Lean function takes. -/
import Derived.Test.YtcnbiknoehcfnaaPFnExactFullOfx0
import Derived.Test.YtcnbiknoehcfnaaPFnExactFullOfx3
namespace Go.Proofs.Ytcnbiknoehcfnaa.PFnExactFullOf
open Go.Proofs.Ytcnbiknoehcfnaa.Clos
open Go.RowKit Go.Proofs.YtcnbiknoehcfnaaW.PrintWords Go.Proofs.YtcnbiknoehcfnaaW.PrintLast Go.Proofs.YtcnbiknoehcfnaaW.PrintMore
attribute [local go_sem] max2_int min2_int max_two min_two max_three min_three max_four min_four   -- for this text's walks alone
set_option linter.unusedVariables false
set_option linter.unusedSimpArgs false

/-! ### impl_listWithin: function 58 -/
def impl_listWithin.l0 : Nat → Int → List Int → Int → Int → Option (Bool)
  | 0, _, _, _, _ => none
  | k + 1, x1, x7, x8, x9 => if x9 < x8 then (if 0 ≤ x9 then (if x9 < (x7.length : Int) then (if (rd x7 x9) < (wrap64 (-x1)) then (some false) else (if (rd x7 x9) > x1 then (some false) else (impl_listWithin.l0 k x1 x7 x8 (wrap64 (x9 + 1))))) else (none)) else (none)) else (some true)
def impl_listWithin.f (k : Nat) (l0 : List Int) (a1 : Int) : Option (Bool) := impl_listWithin.l0 k a1 l0 (l0.length : Int) 0
theorem impl_listWithin.mono_l : ∀ k, (∀ y0 y1 y2 y3, LeO (impl_listWithin.l0 k y0 y1 y2 y3) (impl_listWithin.l0 (k + 1) y0 y1 y2 y3))
  | 0 => fun _ _ _ _ r h => by simp [impl_listWithin.l0] at h
  | k + 1 => by
    have ih0 := impl_listWithin.mono_l k
    · intro y0 y1 y2 y3
      unfold impl_listWithin.l0
      repeat' first
      | (with_reducible exact ih0 _ _ _ _)
      | (with_reducible exact LeO.refl _)
      | (with_reducible exact LeO.none _)
      | (with_reducible refine LeO.ite ?_ ?_)
      | (with_reducible refine LeO.bind ?_ (fun _ => ?_))
      | exact ih0 _ _ _ _
      | exact LeO.none _
      | refine LeO.ite ?_ ?_
      | refine LeO.bind ?_ (fun _ => ?_)
theorem impl_listWithin.mono : ∀ a0 a1 k, LeO (impl_listWithin.f k a0 a1) (impl_listWithin.f (k + 1) a0 a1) := by
  intro a0 a1 k
  have ih0 := impl_listWithin.mono_l k
  unfold impl_listWithin.f
  repeat' first
      | (with_reducible exact ih0 _ _ _ _)
      | (with_reducible exact LeO.refl _)
      | (with_reducible exact LeO.none _)
      | (with_reducible refine LeO.ite ?_ ?_)
      | (with_reducible refine LeO.bind ?_ (fun _ => ?_))
      | exact ih0 _ _ _ _
      | exact LeO.none _
      | refine LeO.ite ?_ ?_
      | refine LeO.bind ?_ (fun _ => ?_)
set_option maxHeartbeats 8000000 in
set_option maxRecDepth 100000 in
theorem impl_listWithin.calls (k : Nat) (A0 : Option Addr) (c0 : Nat) (l0 : List Int) (a1 : Int) (r : Bool) (w : World) (hr0 : Kd.C (Kd.int .i64) w A0 l0.length l0) (hc0 : l0.length ≤ c0) (h : impl_listWithin.f k l0 a1 = some r) :
    Calls Try.prog 58 #[.slice A0 l0.length c0, .int .i64 a1] w fun e w' => e = .returned (.bool r) ∧ Drawn0 w w' := by
  have HR0 := Aside0.mk hr0
  have HC0 := Aside0.mk hc0
  clear hr0 hc0
  have H : (impl_listWithin.l0 k a1 l0 (l0.length : Int) 0) = some r := h
  clear h
  have H' := Aside0.mk H
  clear H
  go_enter Try.func58, Try.ntmps58
  go_wp2
  go_loopg [9] k (fun kq v9 w' => ∃ (x9_1 : Int), v9 = .int .i64 x9_1 ∧ Aside0 (impl_listWithin.l0 kq a1 l0 (l0.length : Int) x9_1 = some r) ∧ Aside0 (kq ≤ k) ∧ Drawn0 w w')
  case atStart => exact ⟨(0), (by first | rfl | (simp; done) | (simp [*]; done)), H', ⟨Nat.le_refl _⟩, by repeat (first | exact Drawn0.refl _ | apply Drawn0.step)⟩
  case round =>
    clear H'
    try clear p2
    obtain ⟨x9_1, rfl, HA, HK1, ⟨m1, rfl⟩⟩ := hrel
    cases gk with
    | zero => exact absurd HA.out (by simp [impl_listWithin.l0])
    | succ k1 =>
      have H := HA.out
      clear HA
      simp only [impl_listWithin.l0] at H
      by_cases c3 : x9_1 < (l0.length : Int)
      · rw [if_pos c3] at H
        have c3b0 : decide (x9_1 < (l0.length : Int)) = true := decide_eq_true c3
        clear c3
        by_cases c4 : 0 ≤ x9_1
        · rw [if_pos c4] at H
          have c4b0 : decide (0 ≤ x9_1) = true := decide_eq_true c4
          clear c4
          by_cases c5 : x9_1 < (l0.length : Int)
          · rw [if_pos c5] at H
            have c5b0 : decide (x9_1 < (l0.length : Int)) = true := decide_eq_true c5
            clear c5
            by_cases c6 : (rd l0 x9_1) < (wrap64 (-a1))
            · rw [if_pos c6] at H
              have c6b0 : decide ((rd l0 x9_1) < (wrap64 (-a1))) = true := decide_eq_true c6
              clear c6
              obtain rfl := Option.some.inj H
              have p186 : 0 ≤ (x9_1 : Int) := of_decide_eq_true (by first | (with_reducible assumption) | assumption)
              have q186 : x9_1 < (l0.length : Int) := of_decide_eq_true (by first | (with_reducible assumption) | assumption)
              obtain ⟨ad186, e186, hx186_0⟩ := Kd.at_int HR0.out x9_1 p186 q186
              cases e186
              replace p186 := eq_true p186
              replace q186 := eq_true q186
              go_wp2
              go_ret
              exact ⟨by first | rfl | (simp; done) | (simp [*]; done), by repeat (first | exact Drawn0.refl _ | apply Drawn0.step)⟩
            · rw [if_neg c6] at H
              have c6b0 : decide ((rd l0 x9_1) < (wrap64 (-a1))) = false := decide_eq_false c6
              clear c6
              by_cases c7 : (rd l0 x9_1) > a1
              · rw [if_pos c7] at H
                have c7b0 : decide (a1 < (rd l0 x9_1)) = true := decide_eq_true c7
                clear c7
                obtain rfl := Option.some.inj H
                have p186 : 0 ≤ (x9_1 : Int) := of_decide_eq_true (by first | (with_reducible assumption) | assumption)
                have q186 : x9_1 < (l0.length : Int) := of_decide_eq_true (by first | (with_reducible assumption) | assumption)
                obtain ⟨ad186, e186, hx186_0⟩ := Kd.at_int HR0.out x9_1 p186 q186
                cases e186
                replace p186 := eq_true p186
                replace q186 := eq_true q186
                go_wp2
                go_ret
                exact ⟨by first | rfl | (simp; done) | (simp [*]; done), by repeat (first | exact Drawn0.refl _ | apply Drawn0.step)⟩
              · rw [if_neg c7] at H
                have c7b0 : decide (a1 < (rd l0 x9_1)) = false := decide_eq_false c7
                clear c7
                have H' := Aside0.mk H
                clear H
                have p186 : 0 ≤ (x9_1 : Int) := of_decide_eq_true (by first | (with_reducible assumption) | assumption)
                have q186 : x9_1 < (l0.length : Int) := of_decide_eq_true (by first | (with_reducible assumption) | assumption)
                obtain ⟨ad186, e186, hx186_0⟩ := Kd.at_int HR0.out x9_1 p186 q186
                cases e186
                replace p186 := eq_true p186
                replace q186 := eq_true q186
                go_wp2
                go_roundg k1
                case measure => have := HK1.out; omega
                case rel => exact ⟨(wrap64 (x9_1 + 1)), (by first | rfl | (simp; done) | (simp [*]; done)), H', ⟨by have := HK1.out; omega⟩, by repeat (first | exact Drawn0.refl _ | apply Drawn0.step)⟩
          · rw [if_neg c5] at H
            exact absurd H (by simp)
        · rw [if_neg c4] at H
          exact absurd H (by simp)
      · rw [if_neg c3] at H
        have c3b0 : decide (x9_1 < (l0.length : Int)) = false := decide_eq_false c3
        clear c3
        obtain rfl := Option.some.inj H
        go_wp2
        go_ret
        exact ⟨by first | rfl | (simp; done) | (simp [*]; done), by repeat (first | exact Drawn0.refl _ | apply Drawn0.step)⟩

/-! ### impl_FullOf_1: function 59 -/
mutual
def impl_FullOf_1.l0 : Nat → Int → List Int → Int → List Int → Int → Int → Option (Int)
  | 0, _, _, _, _, _, _ => none
  | k + 1, x0, x2, x5, x8, x9, x10 => if x10 < x9 then (if 0 ≤ x10 then (if x10 < (x8.length : Int) then (impl_FullOf_1.l1 k x0 x2 x5 x10 (rd x8 x10) x8 x9 x10) else (none)) else (none)) else (some x5)
def impl_FullOf_1.l1 : Nat → Int → List Int → Int → Int → Int → List Int → Int → Int → Option (Int)
  | 0, _, _, _, _, _, _, _, _ => none
  | k + 1, x0, x2, x5, x6, x7, x8, x9, x10 => if x7 = 0 then (none) else (if (Int.tmod x0 x7) = 0 then (if 0 ≤ x6 then (if x6 < (x2.length : Int) then (impl_FullOf_1.l1 k (wrap64 (Int.tdiv x0 x7)) x2 (wrap64 (x5 * (rd x2 x6))) x6 x7 x8 x9 x10) else (none)) else (none)) else (impl_FullOf_1.l0 k x0 x2 x5 x8 x9 (wrap64 (x10 + 1))))
end
def impl_FullOf_1.f (k : Nat) (a0 : Int) (l1 : List Int) (l2 : List Int) : Option (Int) := impl_FullOf_1.l0 k a0 l2 1 l1 (l1.length : Int) 0
theorem impl_FullOf_1.mono_l : ∀ k, (∀ y0 y1 y2 y3 y4 y5, LeO (impl_FullOf_1.l0 k y0 y1 y2 y3 y4 y5) (impl_FullOf_1.l0 (k + 1) y0 y1 y2 y3 y4 y5)) ∧ (∀ y0 y1 y2 y3 y4 y5 y6 y7, LeO (impl_FullOf_1.l1 k y0 y1 y2 y3 y4 y5 y6 y7) (impl_FullOf_1.l1 (k + 1) y0 y1 y2 y3 y4 y5 y6 y7))
  | 0 => ⟨fun _ _ _ _ _ _ r h => by simp [impl_FullOf_1.l0] at h, fun _ _ _ _ _ _ _ _ r h => by simp [impl_FullOf_1.l1] at h⟩
  | k + 1 => by
    obtain ⟨ih0, ih1⟩ := impl_FullOf_1.mono_l k
    refine ⟨?_, ?_⟩
    · intro y0 y1 y2 y3 y4 y5
      unfold impl_FullOf_1.l0
      repeat' first
      | (with_reducible exact ih0 _ _ _ _ _ _)
      | (with_reducible exact ih1 _ _ _ _ _ _ _ _)
      | (with_reducible exact LeO.refl _)
      | (with_reducible exact LeO.none _)
      | (with_reducible refine LeO.ite ?_ ?_)
      | (with_reducible refine LeO.bind ?_ (fun _ => ?_))
      | exact ih0 _ _ _ _ _ _
      | exact ih1 _ _ _ _ _ _ _ _
      | exact LeO.none _
      | refine LeO.ite ?_ ?_
      | refine LeO.bind ?_ (fun _ => ?_)
    · intro y0 y1 y2 y3 y4 y5 y6 y7
      unfold impl_FullOf_1.l1
      repeat' first
      | (with_reducible exact ih0 _ _ _ _ _ _)
      | (with_reducible exact ih1 _ _ _ _ _ _ _ _)
      | (with_reducible exact LeO.refl _)
      | (with_reducible exact LeO.none _)
      | (with_reducible refine LeO.ite ?_ ?_)
      | (with_reducible refine LeO.bind ?_ (fun _ => ?_))
      | exact ih0 _ _ _ _ _ _
      | exact ih1 _ _ _ _ _ _ _ _
      | exact LeO.none _
      | refine LeO.ite ?_ ?_
      | refine LeO.bind ?_ (fun _ => ?_)
theorem impl_FullOf_1.mono : ∀ a0 a1 a2 k, LeO (impl_FullOf_1.f k a0 a1 a2) (impl_FullOf_1.f (k + 1) a0 a1 a2) := by
  intro a0 a1 a2 k
  obtain ⟨ih0, ih1⟩ := impl_FullOf_1.mono_l k
  unfold impl_FullOf_1.f
  repeat' first
      | (with_reducible exact ih0 _ _ _ _ _ _)
      | (with_reducible exact ih1 _ _ _ _ _ _ _ _)
      | (with_reducible exact LeO.refl _)
      | (with_reducible exact LeO.none _)
      | (with_reducible refine LeO.ite ?_ ?_)
      | (with_reducible refine LeO.bind ?_ (fun _ => ?_))
      | exact ih0 _ _ _ _ _ _
      | exact ih1 _ _ _ _ _ _ _ _
      | exact LeO.none _
      | refine LeO.ite ?_ ?_
      | refine LeO.bind ?_ (fun _ => ?_)
set_option maxHeartbeats 8000000 in
set_option maxRecDepth 100000 in
theorem impl_FullOf_1.calls (k : Nat) (a0 : Int) (A1 : Option Addr) (c1 : Nat) (l1 : List Int) (A2 : Option Addr) (c2 : Nat) (l2 : List Int) (r : Int) (w : World) (p1 : Addr) (hp1 : w.cell? p1 = some (.slice A1 l1.length c1)) (p2 : Addr) (hp2 : w.cell? p2 = some (.slice A2 l2.length c2)) (hr1 : Kd.C (Kd.int .i64) w A1 l1.length l1) (hc1 : l1.length ≤ c1) (hr2 : Kd.C (Kd.int .i64) w A2 l2.length l2) (hc2 : l2.length ≤ c2) (h : impl_FullOf_1.f k a0 l1 l2 = some r) :
    Calls Try.prog 59 #[.int .i64 a0, .pointer (some p1), .pointer (some p2)] w fun e w' => e = .returned (.int .i64 r) ∧ Drawn0 w w' := by
  have HR1 := Aside0.mk hr1
  have HC1 := Aside0.mk hc1
  clear hr1 hc1
  have HR2 := Aside0.mk hr2
  have HC2 := Aside0.mk hc2
  clear hr2 hc2
  have H : (impl_FullOf_1.l0 k a0 l2 1 l1 (l1.length : Int) 0) = some r := h
  clear h
  have H' := Aside0.mk H
  clear H
  go_enter Try.func59, Try.ntmps59
  go_wp2
  go_loopg [0, 5, 10] k (fun kq v0 v5 v10 w' => ∃ (x0_1 : Int) (x5_1 : Int) (x10_1 : Int), v0 = .int .i64 x0_1 ∧ v5 = .int .i64 x5_1 ∧ v10 = .int .i64 x10_1 ∧ Aside0 (impl_FullOf_1.l0 kq x0_1 l2 x5_1 l1 (l1.length : Int) x10_1 = some r) ∧ Aside0 (kq ≤ k) ∧ Drawn0 w w')
  case atStart => exact ⟨(a0), (1), (0), (by first | rfl | (simp; done) | (simp [*]; done)), (by first | rfl | (simp; done) | (simp [*]; done)), (by first | rfl | (simp; done) | (simp [*]; done)), H', ⟨Nat.le_refl _⟩, by repeat (first | exact Drawn0.refl _ | apply Drawn0.step)⟩
  case round =>
    clear H'
    try clear c1
    try clear c2
    try clear p2
    obtain ⟨x0_1, x5_1, x10_1, rfl, rfl, rfl, HA, HK1, ⟨m1, rfl⟩⟩ := hrel
    cases gk with
    | zero => exact absurd HA.out (by simp [impl_FullOf_1.l0])
    | succ k1 =>
      have H := HA.out
      clear HA
      simp only [impl_FullOf_1.l0] at H
      by_cases c4 : x10_1 < (l1.length : Int)
      · rw [if_pos c4] at H
        have c4b0 : decide (x10_1 < (l1.length : Int)) = true := decide_eq_true c4
        clear c4
        by_cases c5 : 0 ≤ x10_1
        · rw [if_pos c5] at H
          have c5b0 : decide (0 ≤ x10_1) = true := decide_eq_true c5
          clear c5
          by_cases c6 : x10_1 < (l1.length : Int)
          · rw [if_pos c6] at H
            have c6b0 : decide (x10_1 < (l1.length : Int)) = true := decide_eq_true c6
            clear c6
            have H' := Aside0.mk H
            clear H
            have p187 : 0 ≤ (x10_1 : Int) := of_decide_eq_true (by first | (with_reducible assumption) | assumption)
            have q187 : x10_1 < (l1.length : Int) := of_decide_eq_true (by first | (with_reducible assumption) | assumption)
            obtain ⟨ad187, e187, hx187_0⟩ := Kd.at_int HR1.out x10_1 p187 q187
            cases e187
            replace p187 := eq_true p187
            replace q187 := eq_true q187
            go_wp2
            go_loopg [0, 5] k1 (fun kq v0 v5 w' => ∃ (x0_2 : Int) (x5_2 : Int), v0 = .int .i64 x0_2 ∧ v5 = .int .i64 x5_2 ∧ Aside0 (impl_FullOf_1.l1 kq x0_2 l2 x5_2 x10_1 (rd l1 x10_1) l1 (l1.length : Int) x10_1 = some r) ∧ Aside0 (kq ≤ k1) ∧ Drawn0 w w')
            case atStart => exact ⟨(x0_1), (x5_1), (by first | rfl | (simp; done) | (simp [*]; done)), (by first | rfl | (simp; done) | (simp [*]; done)), H', ⟨Nat.le_refl _⟩, by repeat (first | exact Drawn0.refl _ | apply Drawn0.step)⟩
            case round =>
              clear H'
              try clear c1
              try clear p1
              try clear q1
              try clear hx1
              try clear c2
              try clear p2
              try clear c4
              try clear c4b0
              try clear c5
              try clear c5b0
              try clear c6
              try clear c6b0
              try clear hx187_0
              try clear p187
              try clear p2
              try clear q187
              obtain ⟨x0_2, x5_2, rfl, rfl, HA, HK2, ⟨m2, rfl⟩⟩ := hrel
              cases gk with
              | zero => exact absurd HA.out (by simp [impl_FullOf_1.l1])
              | succ k2 =>
                have H := HA.out
                clear HA
                simp only [impl_FullOf_1.l1] at H
                by_cases c7 : (rd l1 x10_1) = 0
                · rw [if_pos c7] at H
                  exact absurd H (by simp)
                · rw [if_neg c7] at H
                  have c7b0 : ((rd l1 x10_1) == 0) = false := beq_eq_false_iff_ne.mpr c7
                  have c7b1 : ((rd l1 x10_1) != 0) = true := bne_iff_ne.mpr c7
                  by_cases c8 : (Int.tmod x0_2 (rd l1 x10_1)) = 0
                  · rw [if_pos c8] at H
                    have c8b0 : ((Int.tmod x0_2 (rd l1 x10_1)) == 0) = true := beq_iff_eq.mpr c8
                    have c8b1 : ((Int.tmod x0_2 (rd l1 x10_1)) != 0) = false := bne_eq_false_iff_eq.mpr c8
                    clear c8
                    by_cases c9 : 0 ≤ x10_1
                    · rw [if_pos c9] at H
                      have c9b0 : decide (0 ≤ x10_1) = true := decide_eq_true c9
                      clear c9
                      by_cases c10 : x10_1 < (l2.length : Int)
                      · rw [if_pos c10] at H
                        have c10b0 : decide (x10_1 < (l2.length : Int)) = true := decide_eq_true c10
                        clear c10
                        have H' := Aside0.mk H
                        clear H
                        have p188 : 0 ≤ (x10_1 : Int) := of_decide_eq_true (by first | (with_reducible assumption) | assumption)
                        have q188 : x10_1 < (l2.length : Int) := of_decide_eq_true (by first | (with_reducible assumption) | assumption)
                        obtain ⟨ad188, e188, hx188_0⟩ := Kd.at_int HR2.out x10_1 p188 q188
                        cases e188
                        replace p188 := eq_true p188
                        replace q188 := eq_true q188
                        go_wp2
                        go_roundg k2
                        case measure => have := HK1.out; have := HK2.out; omega
                        case rel => exact ⟨(wrap64 (Int.tdiv x0_2 (rd l1 x10_1))), (wrap64 (x5_2 * (rd l2 x10_1))), (by first | rfl | (simp; done) | (simp [*]; done)), (by first | rfl | (simp; done) | (simp [*]; done)), H', ⟨by have := HK1.out; have := HK2.out; omega⟩, by repeat (first | exact Drawn0.refl _ | apply Drawn0.step)⟩
                      · rw [if_neg c10] at H
                        exact absurd H (by simp)
                    · rw [if_neg c9] at H
                      exact absurd H (by simp)
                  · rw [if_neg c8] at H
                    have c8b0 : ((Int.tmod x0_2 (rd l1 x10_1)) == 0) = false := beq_eq_false_iff_ne.mpr c8
                    have c8b1 : ((Int.tmod x0_2 (rd l1 x10_1)) != 0) = true := bne_iff_ne.mpr c8
                    have H' := Aside0.mk H
                    clear H
                    go_wp2
                    go_roundg k2
                    case measure => have := HK1.out; have := HK2.out; omega
                    case rel => exact ⟨(x0_2), (x5_2), (wrap64 (x10_1 + 1)), (by first | rfl | (simp; done) | (simp [*]; done)), (by first | rfl | (simp; done) | (simp [*]; done)), (by first | rfl | (simp; done) | (simp [*]; done)), H', ⟨by have := HK1.out; have := HK2.out; omega⟩, by repeat (first | exact Drawn0.refl _ | apply Drawn0.step)⟩
          · rw [if_neg c6] at H
            exact absurd H (by simp)
        · rw [if_neg c5] at H
          exact absurd H (by simp)
      · rw [if_neg c4] at H
        have c4b0 : decide (x10_1 < (l1.length : Int)) = false := decide_eq_false c4
        clear c4
        obtain rfl := Option.some.inj H
        go_wp2
        go_ret
        exact ⟨by first | rfl | (simp; done) | (simp [*]; done), by repeat (first | exact Drawn0.refl _ | apply Drawn0.step)⟩

/-! ### impl_FullOf: function 26 -/
def impl_FullOf.f (k : Nat) (l0 : List Int) : Option (List Int × Bool) := (impl_primesUpTo.f k 24).bind fun t1 => (if (l0.length : Int) = (t1.length : Int) then ((impl_listWithin.f k l0 9).bind fun t2 => (if t2 = true then ((impl_rowBy.f (fun k n => impl_FullOf_1.f k n t1 l0) k).bind fun t3 => (some (t3, true))) else (some (([] : List Int), false)))) else (some (([] : List Int), false)))
theorem impl_FullOf.mono : ∀ a0 k, LeO (impl_FullOf.f k a0) (impl_FullOf.f (k + 1) a0) := by
  intro a0 k
  unfold impl_FullOf.f
  refine LeO.bind (impl_primesUpTo.mono _ _) (fun t => ?_)
  refine LeO.ite ?_ (LeO.refl _)
  refine LeO.bind (impl_listWithin.mono _ _ _) (fun _ => ?_)
  refine LeO.ite ?_ (LeO.refl _)
  exact LeO.bind (impl_rowBy.mono _ (fun n k => impl_FullOf_1.mono n t a0 k) k) (fun _ => LeO.refl _)
set_option maxHeartbeats 2000000 in
set_option maxRecDepth 100000 in
theorem impl_FullOf.calls (k : Nat) (A0 : Option Addr) (c0 : Nat) (l0 : List Int) (r1 : List Int) (r2 : Bool) (w : World) (hr0 : Kd.C (Kd.int .i64) w A0 l0.length l0) (hc0 : l0.length ≤ c0) (h : impl_FullOf.f k l0 = some (r1, r2)) :
    Calls Try.prog 26 #[.slice A0 l0.length c0] w fun e w' => ∃ v0_ : Value, e = .returned (.tuple #[v0_, .bool r2]) ∧ Kd.R (Kd.int .i64) 3 w' w.heap.size (fun _ => True) v0_ r1 ∧ Below w.heap.size w w' := by
  unfold impl_FullOf.f at h
  obtain ⟨t1, e1, h⟩ := Option.bind_eq_some_iff.mp h
  have E1 := Aside0.mk e1
  have HR0 := Aside0.mk hr0
  have HC0 := Aside0.mk hc0
  clear e1 hr0 hc0
  have hmf : ∀ (fn : Fn) (first cap : Array Value) (w : World), (Instr.makeFunc fn first cap).run Try.prog w = .ok (.func fn first cap) w := fun _ _ _ _ => rfl
  have hM0 : (w.alloc (.cells #[.slice A0 l0.length c0] 22)).cell? ⟨w.heap.size, 0, none⟩ = some (.slice A0 l0.length c0) := by
    rw [World.cell?_alloc_at _ _ _ _ rfl]; rfl
  have B1 : Below w.heap.size w (w.alloc (.cells #[.slice A0 l0.length c0] 22)) := below_alloc (Below.refl _ _) _
  have HQ := Aside0.mk hM0
  have HB1 := Aside0.mk B1
  clear hM0 B1
  by_cases hl : (l0.length : Int) = (t1.length : Int)
  · rw [if_pos hl] at h
    have d1 : ((l0.length : Int) != (t1.length : Int)) = false := by rw [hl]; simp
    have d2 : ((l0.length : Int) == (t1.length : Int)) = true := by rw [hl]; simp
    clear hl
    obtain ⟨t2, e2, h⟩ := Option.bind_eq_some_iff.mp h
    have E2 := Aside0.mk e2
    clear e2
    cases t2 with
    | false =>
      simp only [Bool.false_eq_true, if_false, Option.some.injEq, Prod.mk.injEq] at h
      obtain ⟨rfl, rfl⟩ := h
      go_enter Try.func26, Try.ntmps26
      go_wp2_with fail
      refine (impl_primesUpTo.calls k 24 t1 _ E1.out).mono ?_
      rintro e w2 ⟨v, rfl, hR, hb⟩
      obtain ⟨Ao, co, rfl⟩ := Kd.R_slice hR
      have HR1 := Aside0.mk (Kd.R_reads' hR)
      have HB2 := Aside0.mk (below_alloc (below_step HB1.out hb) (.cells #[.slice Ao t1.length co] 22))
      have hq2 := (hb.cell (World.block_lt_of_cell? _ _ HQ.out)).trans HQ.out
      have hq0 : (w2.alloc (.cells #[.slice Ao t1.length co] 22)).cell? ⟨w.heap.size, 0, none⟩ = some (.slice A0 l0.length c0) := by
        rw [World.cell?_alloc_past _ _ _ (World.block_lt_of_cell? _ _ hq2)]; exact hq2
      have hq1 : (w2.alloc (.cells #[.slice Ao t1.length co] 22)).cell? ⟨w2.heap.size, 0, none⟩ = some (.slice Ao t1.length co) := by
        rw [World.cell?_alloc_at _ _ _ _ rfl]; rfl
      have HC2 := Aside0.mk (Kd.C_below HR0.out HB2.out)
      clear hR hb hq2
      go_wp2_with fail
      refine (impl_listWithin.calls k _ _ l0 9 false _ HC2.out HC0.out E2.out).mono ?_
      rintro e w' ⟨rfl, ⟨nd, rfl⟩⟩
      go_wp2
      go_ret2
      exact ⟨_, rfl, Kd.R_nil .., pw_below_drewN HB2.out _⟩
    | true =>
      simp only [if_true] at h
      obtain ⟨t3, e3, h⟩ := Option.bind_eq_some_iff.mp h
      have E3 := Aside0.mk e3
      clear e3
      simp only [Option.some.injEq, Prod.mk.injEq] at h
      obtain ⟨rfl, rfl⟩ := h
      go_enter Try.func26, Try.ntmps26
      go_wp2_with fail
      refine (impl_primesUpTo.calls k 24 t1 _ E1.out).mono ?_
      rintro e w2 ⟨v, rfl, hR, hb⟩
      obtain ⟨Ao, co, rfl⟩ := Kd.R_slice hR
      have HR1 := Aside0.mk (Kd.R_reads' hR)
      have HB2 := Aside0.mk (below_alloc (below_step HB1.out hb) (.cells #[.slice Ao t1.length co] 22))
      have hq2 := (hb.cell (World.block_lt_of_cell? _ _ HQ.out)).trans HQ.out
      have hq0 : (w2.alloc (.cells #[.slice Ao t1.length co] 22)).cell? ⟨w.heap.size, 0, none⟩ = some (.slice A0 l0.length c0) := by
        rw [World.cell?_alloc_past _ _ _ (World.block_lt_of_cell? _ _ hq2)]; exact hq2
      have hq1 : (w2.alloc (.cells #[.slice Ao t1.length co] 22)).cell? ⟨w2.heap.size, 0, none⟩ = some (.slice Ao t1.length co) := by
        rw [World.cell?_alloc_at _ _ _ _ rfl]; rfl
      have HC2 := Aside0.mk (Kd.C_below HR0.out HB2.out)
      clear hR hb hq2
      go_wp2_with fail
      refine (impl_listWithin.calls k _ _ l0 9 true _ HC2.out HC0.out E2.out).mono ?_
      rintro e w' ⟨rfl, ⟨nd, rfl⟩⟩
      have HB3 := Aside0.mk (pw_below_drewN HB2.out nd)
      have HQ0 := Aside0.mk (show ((w2.alloc (.cells #[.slice Ao t1.length co] 22)).drewN nd).cell? ⟨w.heap.size, 0, none⟩ = some (.slice A0 l0.length c0) from hq0)
      have HQ1 := Aside0.mk (show ((w2.alloc (.cells #[.slice Ao t1.length co] 22)).drewN nd).cell? ⟨w2.heap.size, 0, none⟩ = some (.slice Ao t1.length co) from hq1)
      have HC3 := Aside0.mk (Kd.C_drewN (Kd.C_alloc HR1.out.2.2 (.cells #[.slice Ao t1.length co] 22)) nd)
      have HC4 := Aside0.mk (Kd.C_drewN HC2.out nd)
      clear hq0 hq1
      go_wp2_with fail
      refine (impl_rowBy.calls (fun k n => impl_FullOf_1.f k n t1 l0) 59 Try.f59 #[.pointer (some ⟨w2.heap.size, 0, none⟩), .pointer (some ⟨w.heap.size, 0, none⟩)] Try.func59 (by kernel_rfl) rfl k t3 _ ?hg E3.out).mono ?_
      case hg =>
        intro k n r w1 hb he
        exact (impl_FullOf_1.calls k n Ao co t1 A0 c0 l0 r w1 ⟨w2.heap.size, 0, none⟩ ((hb.cell (World.block_lt_of_cell? _ _ HQ1.out)).trans HQ1.out) ⟨w.heap.size, 0, none⟩ ((hb.cell (World.block_lt_of_cell? _ _ HQ0.out)).trans HQ0.out) (Kd.C_below HC3.out hb) HR1.out.2.1 (Kd.C_below HC4.out hb) HC0.out he).mono (fun e w' h => ⟨h.1, h.2.below⟩)
      rintro e w4 ⟨v, rfl, hR, hb⟩
      have HRR := Aside0.mk hR
      have HBB := Aside0.mk hb
      clear hR hb
      go_wp2
      go_ret2
      exact ⟨v, rfl, Kd.R_lower HRR.out HB3.out.size, below_step HB3.out HBB.out⟩
  · rw [if_neg hl] at h
    have d1 : ((l0.length : Int) != (t1.length : Int)) = true := by simpa using hl
    have d2 : ((l0.length : Int) == (t1.length : Int)) = false := by simpa using hl
    clear hl
    simp only [Option.some.injEq, Prod.mk.injEq] at h
    obtain ⟨rfl, rfl⟩ := h
    go_enter Try.func26, Try.ntmps26
    go_wp2_with fail
    refine (impl_primesUpTo.calls k 24 t1 _ E1.out).mono ?_
    rintro e w2 ⟨v, rfl, hR, hb⟩
    obtain ⟨Ao, co, rfl⟩ := Kd.R_slice hR
    have HR1 := Aside0.mk (Kd.R_reads' hR)
    have HB2 := Aside0.mk (below_alloc (below_step HB1.out hb) (.cells #[.slice Ao t1.length co] 22))
    have hq2 := (hb.cell (World.block_lt_of_cell? _ _ HQ.out)).trans HQ.out
    have hq0 : (w2.alloc (.cells #[.slice Ao t1.length co] 22)).cell? ⟨w.heap.size, 0, none⟩ = some (.slice A0 l0.length c0) := by
      rw [World.cell?_alloc_past _ _ _ (World.block_lt_of_cell? _ _ hq2)]; exact hq2
    have hq1 : (w2.alloc (.cells #[.slice Ao t1.length co] 22)).cell? ⟨w2.heap.size, 0, none⟩ = some (.slice Ao t1.length co) := by
      rw [World.cell?_alloc_at _ _ _ _ rfl]; rfl
    have HC2 := Aside0.mk (Kd.C_below HR0.out HB2.out)
    clear hR hb hq2
    go_wp2
    go_ret2
    exact ⟨_, rfl, Kd.R_nil .., HB2.out⟩

end Go.Proofs.Ytcnbiknoehcfnaa.PFnExactFullOf
