/- The walks of the functions that FnMultiplicativeOk reaches, as the print lays them. -/
/- The functions that the law reaches, each with the number or list that Go comes to, for all arguments that its Lean function takes. -/
import Derived.Test.YteebmpbhhpmhbaaQFnMultiplicativeOkx0
import Derived.Test.YteebmpbhhpmhbaaQFnMultiplicativeOkx1
import Derived.Test.YteebmpbhhpmhbaaQFnMultiplicativeOkx4
import Derived.Test.YteebmpbhhpmhbaaQFnMultiplicativeOkx5
import Derived.Test.YteebmpbhhpmhbaaQFnMultiplicativeOkx6
import Derived.Test.YteebmpbhhpmhbaaQFnMultiplicativeOkx7
namespace Go.Proofs.Yteebmpbhhpmhbaa.PFnMultiplicativeOk
open Go.Proofs.Yteebmpbhhpmhbaa.Clos
open Go.RowKit Go.Proofs.YteebmpbhhpmhbaaW.PrintWords Go.Proofs.YteebmpbhhpmhbaaW.PrintLast Go.Proofs.YteebmpbhhpmhbaaW.PrintMore
attribute [local go_sem] max2_int min2_int max_two min_two max_three min_three max_four min_four   -- for this text's walks alone
set_option linter.unusedVariables false
set_option linter.unusedSimpArgs false

/-! ### spec_MultiplicativeOk: function 51 -/
mutual
def spec_MultiplicativeOk.j0 : Nat → List Int → Bool → Option (Bool)
 | 0, _, _ => none
 | k + 1, x0, x13 => if x13 = true then (some false) else (spec_MultiplicativeOk.l0 k x0 2)
def spec_MultiplicativeOk.l0 : Nat → List Int → Int → Option (Bool)
 | 0, _, _ => none
 | k + 1, x0, x3 => if x3 ≤ 24 then (spec_MultiplicativeOk.l1 k x0 x3 2) else (some true)
def spec_MultiplicativeOk.l1 : Nat → List Int → Int → Int → Option (Bool)
 | 0, _, _, _ => none
 | k + 1, x0, x3, x4 => if (wrap64 (x3 * x4)) ≤ 24 then ((spec_ApartOk.f k x3 x4).bind fun t462 => (if t462 = true then (if 0 ≤ (wrap64 ((wrap64 (x3 * x4)) - 1)) then (if (wrap64 ((wrap64 (x3 * x4)) - 1)) < (x0.length : Int) then (if 0 ≤ (wrap64 (x3 - 1)) then (if (wrap64 (x3 - 1)) < (x0.length : Int) then (if 0 ≤ (wrap64 (x4 - 1)) then (if (wrap64 (x4 - 1)) < (x0.length : Int) then (if (rd x0 (wrap64 ((wrap64 (x3 * x4)) - 1))) = (wrap64 ((rd x0 (wrap64 (x3 - 1))) * (rd x0 (wrap64 (x4 - 1))))) then (spec_MultiplicativeOk.l1 k x0 x3 (wrap64 (x4 + 1))) else (some false)) else (none)) else (none)) else (none)) else (none)) else (none)) else (none)) else (spec_MultiplicativeOk.l1 k x0 x3 (wrap64 (x4 + 1))))) else (spec_MultiplicativeOk.l0 k x0 (wrap64 (x3 + 1)))
end
def spec_MultiplicativeOk.f (k : Nat) (l0 : List Int) : Option (Bool) := (spec_RowOk.f k l0).bind fun t460 => (if t460 = true then (if 0 < (l0.length : Int) then (spec_MultiplicativeOk.j0 k l0 ((rd l0 0) != 1)) else (none)) else (spec_MultiplicativeOk.j0 k l0 true))
theorem spec_MultiplicativeOk.mono_l : ∀ k, (∀ y0 y1, LeO (spec_MultiplicativeOk.j0 k y0 y1) (spec_MultiplicativeOk.j0 (k + 1) y0 y1)) ∧ (∀ y0 y1, LeO (spec_MultiplicativeOk.l0 k y0 y1) (spec_MultiplicativeOk.l0 (k + 1) y0 y1)) ∧ (∀ y0 y1 y2, LeO (spec_MultiplicativeOk.l1 k y0 y1 y2) (spec_MultiplicativeOk.l1 (k + 1) y0 y1 y2))
 | 0 => ⟨fun _ _ r h => by simp [spec_MultiplicativeOk.j0] at h, fun _ _ r h => by simp [spec_MultiplicativeOk.l0] at h, fun _ _ _ r h => by simp [spec_MultiplicativeOk.l1] at h⟩
 | k + 1 => by
  obtain ⟨ih0, ih1, ih2⟩ := spec_MultiplicativeOk.mono_l k
  refine ⟨?_, ?_, ?_⟩
  ·intro y0 y1
   unfold spec_MultiplicativeOk.j0
   repeat' first
   | (with_reducible exact ih0 _ _)
   | (with_reducible exact ih1 _ _)
   | (with_reducible exact ih2 _ _ _)
   | (with_reducible exact spec_ApartOk.mono _ _ _)
   | (with_reducible exact spec_RowOk.mono _ _)
   | (with_reducible exact LeO.refl _)
   | (with_reducible exact LeO.none _)
   | (with_reducible refine LeO.ite ?_ ?_)
   | (with_reducible refine LeO.bind ?_ (fun _ => ?_))
   | exact ih0 _ _
   | exact ih1 _ _
   | exact ih2 _ _ _
   | exact spec_ApartOk.mono _ _ _
   | exact spec_RowOk.mono _ _
   | exact LeO.none _
   | refine LeO.ite ?_ ?_
   | refine LeO.bind ?_ (fun _ => ?_)
  ·intro y0 y1
   unfold spec_MultiplicativeOk.l0
   repeat' first
   | (with_reducible exact ih0 _ _)
   | (with_reducible exact ih1 _ _)
   | (with_reducible exact ih2 _ _ _)
   | (with_reducible exact spec_ApartOk.mono _ _ _)
   | (with_reducible exact spec_RowOk.mono _ _)
   | (with_reducible exact LeO.refl _)
   | (with_reducible exact LeO.none _)
   | (with_reducible refine LeO.ite ?_ ?_)
   | (with_reducible refine LeO.bind ?_ (fun _ => ?_))
   | exact ih0 _ _
   | exact ih1 _ _
   | exact ih2 _ _ _
   | exact spec_ApartOk.mono _ _ _
   | exact spec_RowOk.mono _ _
   | exact LeO.none _
   | refine LeO.ite ?_ ?_
   | refine LeO.bind ?_ (fun _ => ?_)
  ·intro y0 y1 y2
   unfold spec_MultiplicativeOk.l1
   repeat' first
   | (with_reducible exact ih0 _ _)
   | (with_reducible exact ih1 _ _)
   | (with_reducible exact ih2 _ _ _)
   | (with_reducible exact spec_ApartOk.mono _ _ _)
   | (with_reducible exact spec_RowOk.mono _ _)
   | (with_reducible exact LeO.refl _)
   | (with_reducible exact LeO.none _)
   | (with_reducible refine LeO.ite ?_ ?_)
   | (with_reducible refine LeO.bind ?_ (fun _ => ?_))
   | exact ih0 _ _
   | exact ih1 _ _
   | exact ih2 _ _ _
   | exact spec_ApartOk.mono _ _ _
   | exact spec_RowOk.mono _ _
   | exact LeO.none _
   | refine LeO.ite ?_ ?_
   | refine LeO.bind ?_ (fun _ => ?_)
theorem spec_MultiplicativeOk.mono : ∀ a0 k, LeO (spec_MultiplicativeOk.f k a0) (spec_MultiplicativeOk.f (k + 1) a0) := by
 intro a0 k
 obtain ⟨ih0, ih1, ih2⟩ := spec_MultiplicativeOk.mono_l k
 unfold spec_MultiplicativeOk.f
 repeat' first
   | (with_reducible exact ih0 _ _)
   | (with_reducible exact ih1 _ _)
   | (with_reducible exact ih2 _ _ _)
   | (with_reducible exact spec_ApartOk.mono _ _ _)
   | (with_reducible exact spec_RowOk.mono _ _)
   | (with_reducible exact LeO.refl _)
   | (with_reducible exact LeO.none _)
   | (with_reducible refine LeO.ite ?_ ?_)
   | (with_reducible refine LeO.bind ?_ (fun _ => ?_))
   | exact ih0 _ _
   | exact ih1 _ _
   | exact ih2 _ _ _
   | exact spec_ApartOk.mono _ _ _
   | exact spec_RowOk.mono _ _
   | exact LeO.none _
   | refine LeO.ite ?_ ?_
   | refine LeO.bind ?_ (fun _ => ?_)
set_option maxHeartbeats 8000000 in
set_option maxRecDepth 100000 in
theorem spec_MultiplicativeOk.calls (k : Nat) (A0 : Option Addr) (c0 : Nat) (l0 : List Int) (r : Bool) (w : World) (hr0 : Kd.C (Kd.int .i64) w A0 l0.length l0) (hc0 : l0.length ≤ c0) (h : spec_MultiplicativeOk.f k l0 = some r) :
  Calls Try.prog 51 #[.slice A0 l0.length c0] w fun e w' => e = .returned (.bool r) ∧ Drawn0 w w' := by
 have HR0 := Aside0.mk hr0
 have HC0 := Aside0.mk hc0
 clear hr0 hc0
 have H : ((spec_RowOk.f k l0).bind fun t460 => (if t460 = true then (if 0 < (l0.length : Int) then (spec_MultiplicativeOk.j0 k l0 ((rd l0 0) != 1)) else (none)) else (spec_MultiplicativeOk.j0 k l0 true))) = some r := h
 clear h
 have HC2 := Aside0.mk H
 clear H
 go_enter Try.func51, Try.ntmps51
 go_upto_region 1 with (fail)
 repeat (go_quiet (fail); go_upto_region 1 with (fail))
 go_cut [13] (fun v13 wc => ∃ (kq : Nat) (x13_1 : Bool), v13 = .bool x13_1 ∧ Aside0 (spec_MultiplicativeOk.j0 kq l0 x13_1 = some r) ∧ Aside0 (kq ≤ k) ∧ Drawn0 w wc)
 case first =>
  have H := HC2.out
  clear HC2
  replace H := Option.bind_eq_some_iff.mp H
  obtain ⟨t460, A30, H⟩ := H
  replace H : (if t460 = true then (if 0 < (l0.length : Int) then (spec_MultiplicativeOk.j0 k l0 ((rd l0 0) != 1)) else (none)) else (spec_MultiplicativeOk.j0 k l0 true)) = some r := H
  have A3 := Aside0.mk A30
  clear A30
  by_cases c4 : t460 = true
  ·subst c4
   have H1 : (if 0 < (l0.length : Int) then (spec_MultiplicativeOk.j0 k l0 ((rd l0 0) != 1)) else (none)) = some r := by rw [if_pos rfl] at H; exact H
   clear H
   have H := H1
   clear H1
   by_cases c5 : 0 < (l0.length : Int)
   ·rw [if_pos c5] at H
    have c5b0 : decide (0 < (l0.length : Int)) = true := decide_eq_true c5
    have c5b1 : decide (0 < l0.length) = true := decide_eq_true (by omega)
    clear c5
    (first | rw [c5b0] | (simp only [i64_w, i32_w]; rw [c5b0]) | skip)
    have H' := Aside0.mk H
    clear H
    have p461 : 0 ≤ (0 : Int) := (by omega)
    have q461 : 0 < (l0.length : Int) := of_decide_eq_true (by first | (with_reducible assumption) | assumption)
    obtain ⟨ad461, e461, hx461_0⟩ := Kd.at_int HR0.out 0 p461 q461
    cases e461
    have qi461 : (0 < l0.length) = True := eq_true (by omega)
    (try rw [show ((0 : Int)).toNat = 0 from rfl] at hx461_0)
    (try rw [Addr.add_zero'] at hx461_0)
    replace p461 := eq_true p461
    replace q461 := eq_true q461
    go_wp2_with (first | (go_at_call 64; (with_reducible refine (spec_RowOk.calls k _ _ l0 true _ ?side1 ?side2 A3.out).mono ?_); (case side1 => repeat (first | exact HR0.out | (with_reducible refine Kd.C_alloc ?_ _) | (with_reducible refine Kd.C_drewN ?_ _) | (with_reducible refine Kd.C_drew ?_))); (case side2 => exact HC0.out); rintro e w' ⟨rfl, ⟨nd, rfl⟩⟩; (try first | exact ⟨rfl, _, World.drewN_drewN _ _ _⟩ | exact ⟨rfl, _, Eq.trans (World.drewN_drewN _ _ _) (congrArg (World.drewN _) (Nat.add_assoc _ _ _))⟩)))
    repeat (go_quiet (first | (go_at_call 64; (with_reducible refine (spec_RowOk.calls k _ _ l0 true _ ?side1 ?side2 A3.out).mono ?_); (case side1 => repeat (first | exact HR0.out | (with_reducible refine Kd.C_alloc ?_ _) | (with_reducible refine Kd.C_drewN ?_ _) | (with_reducible refine Kd.C_drew ?_))); (case side2 => exact HC0.out); rintro e w' ⟨rfl, ⟨nd, rfl⟩⟩; (try first | exact ⟨rfl, _, World.drewN_drewN _ _ _⟩ | exact ⟨rfl, _, Eq.trans (World.drewN_drewN _ _ _) (congrArg (World.drewN _) (Nat.add_assoc _ _ _))⟩))); try go_wp2_with (first | (go_at_call 64; (with_reducible refine (spec_RowOk.calls k _ _ l0 true _ ?side1 ?side2 A3.out).mono ?_); (case side1 => repeat (first | exact HR0.out | (with_reducible refine Kd.C_alloc ?_ _) | (with_reducible refine Kd.C_drewN ?_ _) | (with_reducible refine Kd.C_drew ?_))); (case side2 => exact HC0.out); rintro e w' ⟨rfl, ⟨nd, rfl⟩⟩; (try first | exact ⟨rfl, _, World.drewN_drewN _ _ _⟩ | exact ⟨rfl, _, Eq.trans (World.drewN_drewN _ _ _) (congrArg (World.drewN _) (Nat.add_assoc _ _ _))⟩))))
    go_meet
    case rel => exact ⟨_, (((rd l0 0) != 1)), (by first | rfl | (simp; done) | (simp [*]; done)), H', ⟨by first | omega | exact Nat.le_refl _⟩, by repeat (first | exact Drawn0.refl _ | apply Drawn0.step)⟩
   ·rw [if_neg c5] at H
    exact absurd H (by simp)
  ·replace c4 := Bool.eq_false_iff.mpr c4
   subst c4
   have H1 : (spec_MultiplicativeOk.j0 k l0 true) = some r := by rw [if_neg (show ¬ (false = true) by decide)] at H; exact H
   clear H
   have H := H1
   clear H1
   have H' := Aside0.mk H
   clear H
   go_wp2_with (first | (go_at_call 64; (with_reducible refine (spec_RowOk.calls k _ _ l0 false _ ?side1 ?side2 A3.out).mono ?_); (case side1 => repeat (first | exact HR0.out | (with_reducible refine Kd.C_alloc ?_ _) | (with_reducible refine Kd.C_drewN ?_ _) | (with_reducible refine Kd.C_drew ?_))); (case side2 => exact HC0.out); rintro e w' ⟨rfl, ⟨nd, rfl⟩⟩; (try first | exact ⟨rfl, _, World.drewN_drewN _ _ _⟩ | exact ⟨rfl, _, Eq.trans (World.drewN_drewN _ _ _) (congrArg (World.drewN _) (Nat.add_assoc _ _ _))⟩)))
   repeat (go_quiet (first | (go_at_call 64; (with_reducible refine (spec_RowOk.calls k _ _ l0 false _ ?side1 ?side2 A3.out).mono ?_); (case side1 => repeat (first | exact HR0.out | (with_reducible refine Kd.C_alloc ?_ _) | (with_reducible refine Kd.C_drewN ?_ _) | (with_reducible refine Kd.C_drew ?_))); (case side2 => exact HC0.out); rintro e w' ⟨rfl, ⟨nd, rfl⟩⟩; (try first | exact ⟨rfl, _, World.drewN_drewN _ _ _⟩ | exact ⟨rfl, _, Eq.trans (World.drewN_drewN _ _ _) (congrArg (World.drewN _) (Nat.add_assoc _ _ _))⟩))); try go_wp2_with (first | (go_at_call 64; (with_reducible refine (spec_RowOk.calls k _ _ l0 false _ ?side1 ?side2 A3.out).mono ?_); (case side1 => repeat (first | exact HR0.out | (with_reducible refine Kd.C_alloc ?_ _) | (with_reducible refine Kd.C_drewN ?_ _) | (with_reducible refine Kd.C_drew ?_))); (case side2 => exact HC0.out); rintro e w' ⟨rfl, ⟨nd, rfl⟩⟩; (try first | exact ⟨rfl, _, World.drewN_drewN _ _ _⟩ | exact ⟨rfl, _, Eq.trans (World.drewN_drewN _ _ _) (congrArg (World.drewN _) (Nat.add_assoc _ _ _))⟩))))
   go_meet
   case rel => exact ⟨_, (true), (by first | rfl | (simp; done) | (simp [*]; done)), H', ⟨by first | omega | exact Nat.le_refl _⟩, by repeat (first | exact Drawn0.refl _ | apply Drawn0.step)⟩
 case rest =>
  clear HC2
  try clear p2
  try clear c4
  try clear p4
  try clear q4
  try clear hx4
  try clear qi4
  try clear c5
  try clear c5b0
  try clear c5b1
  try clear hx461_0
  try clear p461
  try clear q461
  obtain ⟨kq, x13_1, rfl, HA, HJ1, ⟨mc1, rfl⟩⟩ := hcut
  cases kq with
  | zero => exact absurd HA.out (by simp [spec_MultiplicativeOk.j0])
  | succ kj1 =>
   have H := HA.out
   clear HA
   simp only [spec_MultiplicativeOk.j0] at H
   by_cases c6 : x13_1 = true
   ·subst c6
    have H1 : (some false) = some r := by rw [if_pos rfl] at H; exact H
    clear H
    have H := H1
    clear H1
    obtain rfl := Option.some.inj H
    go_wp2
    repeat (go_quiet (fail); try go_wp2)
    go_ret
    exact ⟨by first | rfl | (simp; done) | (simp [*]; done), by repeat (first | exact Drawn0.refl _ | apply Drawn0.step)⟩
   ·replace c6 := Bool.eq_false_iff.mpr c6
    subst c6
    have H1 : (spec_MultiplicativeOk.l0 kj1 l0 2) = some r := by rw [if_neg (show ¬ (false = true) by decide)] at H; exact H
    clear H
    have H := H1
    clear H1
    have H' := Aside0.mk H
    clear H
    go_wp2
    repeat (go_quiet (fail); try go_wp2)
    go_loopg [3] kj1 (fun kq v3 w' => ∃ (x3_2 : Int), v3 = .int .i64 x3_2 ∧ Aside0 (spec_MultiplicativeOk.l0 kq l0 x3_2 = some r) ∧ Aside0 (kq ≤ kj1) ∧ Drawn0 w w')
    case atStart => exact ⟨(2), (by first | rfl | (simp; done) | (simp [*]; done)), H', ⟨Nat.le_refl _⟩, by repeat (first | exact Drawn0.refl _ | apply Drawn0.step)⟩
    case round =>
     clear H'
     try clear c1
     try clear p2
     try clear c4
     try clear p4
     try clear q4
     try clear hx4
     try clear qi4
     try clear c5
     try clear c5b0
     try clear c5b1
     try clear c6
     try clear hx461_0
     try clear p2
     try clear p4
     try clear p461
     try clear q4
     try clear q461
     obtain ⟨x3_2, rfl, HA, HK2, ⟨m2, rfl⟩⟩ := hrel
     cases gk with
     | zero => exact absurd HA.out (by simp [spec_MultiplicativeOk.l0])
     | succ k2 =>
      have H := HA.out
      clear HA
      simp only [spec_MultiplicativeOk.l0] at H
      by_cases c7 : x3_2 ≤ 24
      ·rw [if_pos c7] at H
       have c7b0 : decide (x3_2 ≤ 24) = true := decide_eq_true c7
       clear c7
       have H' := Aside0.mk H
       clear H
       go_wp2
       repeat (go_quiet (fail); try go_wp2)
       go_loopg [4] k2 (fun kq v4 w' => ∃ (x4_3 : Int), v4 = .int .i64 x4_3 ∧ Aside0 (spec_MultiplicativeOk.l1 kq l0 x3_2 x4_3 = some r) ∧ Aside0 (kq ≤ k2) ∧ Drawn0 w w')
       case atStart => exact ⟨(2), (by first | rfl | (simp; done) | (simp [*]; done)), H', ⟨Nat.le_refl _⟩, by repeat (first | exact Drawn0.refl _ | apply Drawn0.step)⟩
       case round =>
        clear H'
        try clear c1
        try clear p2
        try clear c4
        try clear p4
        try clear q4
        try clear hx4
        try clear qi4
        try clear c5
        try clear c5b0
        try clear c5b1
        try clear c6
        try clear c7
        try clear c7b0
        try clear hx461_0
        try clear p2
        try clear p4
        try clear p461
        try clear q4
        try clear q461
        obtain ⟨x4_3, rfl, HA, HK3, ⟨m3, rfl⟩⟩ := hrel
        cases gk with
        | zero => exact absurd HA.out (by simp [spec_MultiplicativeOk.l1])
        | succ k3 =>
         have H := HA.out
         clear HA
         simp only [spec_MultiplicativeOk.l1] at H
         by_cases c8 : (wrap64 (x3_2 * x4_3)) ≤ 24
         ·rw [if_pos c8] at H
          have c8b0 : decide ((wrap64 (x3_2 * x4_3)) ≤ 24) = true := decide_eq_true c8
          clear c8
          replace H := Option.bind_eq_some_iff.mp H
          obtain ⟨t462, A90, H⟩ := H
          replace H : (if t462 = true then (if 0 ≤ (wrap64 ((wrap64 (x3_2 * x4_3)) - 1)) then (if (wrap64 ((wrap64 (x3_2 * x4_3)) - 1)) < (l0.length : Int) then (if 0 ≤ (wrap64 (x3_2 - 1)) then (if (wrap64 (x3_2 - 1)) < (l0.length : Int) then (if 0 ≤ (wrap64 (x4_3 - 1)) then (if (wrap64 (x4_3 - 1)) < (l0.length : Int) then (if (rd l0 (wrap64 ((wrap64 (x3_2 * x4_3)) - 1))) = (wrap64 ((rd l0 (wrap64 (x3_2 - 1))) * (rd l0 (wrap64 (x4_3 - 1))))) then (spec_MultiplicativeOk.l1 k3 l0 x3_2 (wrap64 (x4_3 + 1))) else (some false)) else (none)) else (none)) else (none)) else (none)) else (none)) else (none)) else (spec_MultiplicativeOk.l1 k3 l0 x3_2 (wrap64 (x4_3 + 1)))) = some r := H
          have A9 := Aside0.mk A90
          clear A90
          by_cases c10 : t462 = true
          ·subst c10
           have H1 : (if 0 ≤ (wrap64 ((wrap64 (x3_2 * x4_3)) - 1)) then (if (wrap64 ((wrap64 (x3_2 * x4_3)) - 1)) < (l0.length : Int) then (if 0 ≤ (wrap64 (x3_2 - 1)) then (if (wrap64 (x3_2 - 1)) < (l0.length : Int) then (if 0 ≤ (wrap64 (x4_3 - 1)) then (if (wrap64 (x4_3 - 1)) < (l0.length : Int) then (if (rd l0 (wrap64 ((wrap64 (x3_2 * x4_3)) - 1))) = (wrap64 ((rd l0 (wrap64 (x3_2 - 1))) * (rd l0 (wrap64 (x4_3 - 1))))) then (spec_MultiplicativeOk.l1 k3 l0 x3_2 (wrap64 (x4_3 + 1))) else (some false)) else (none)) else (none)) else (none)) else (none)) else (none)) else (none)) = some r := by rw [if_pos rfl] at H; exact H
           clear H
           have H := H1
           clear H1
           obtain ⟨ji11, hji11⟩ : ∃ j_ : Int, (wrap64 ((wrap64 (x3_2 * x4_3)) - 1)) = j_ := ⟨_, rfl⟩
           replace H : (if 0 ≤ (ji11) then (if (ji11) < (l0.length : Int) then (if 0 ≤ (wrap64 (x3_2 - 1)) then (if (wrap64 (x3_2 - 1)) < (l0.length : Int) then (if 0 ≤ (wrap64 (x4_3 - 1)) then (if (wrap64 (x4_3 - 1)) < (l0.length : Int) then (if (rd l0 (ji11)) = (wrap64 ((rd l0 (wrap64 (x3_2 - 1))) * (rd l0 (wrap64 (x4_3 - 1))))) then (spec_MultiplicativeOk.l1 k3 l0 x3_2 (wrap64 (x4_3 + 1))) else (some false)) else (none)) else (none)) else (none)) else (none)) else (none)) else (none)) = some r := by first | (rw [hji11] at H; exact H) | (simp only [hji11] at H ⊢; exact H)
           (try rw [hji11] at A9)
           have hji11w : (IntKind.i64.wrap ((wrap64 (x3_2 * x4_3)) - 1)) = ji11 := (i64_w _).trans hji11
           by_cases c12 : 0 ≤ (ji11)
           ·rw [if_pos c12] at H
            have c12b0 : decide (0 ≤ (ji11)) = true := decide_eq_true c12
            clear c12
            by_cases c13 : (ji11) < (l0.length : Int)
            ·rw [if_pos c13] at H
             have c13b0 : decide ((ji11) < (l0.length : Int)) = true := decide_eq_true c13
             clear c13
             obtain ⟨ji14, hji14⟩ : ∃ j_ : Int, (wrap64 (x3_2 - 1)) = j_ := ⟨_, rfl⟩
             replace H : (if 0 ≤ (ji14) then (if (ji14) < (l0.length : Int) then (if 0 ≤ (wrap64 (x4_3 - 1)) then (if (wrap64 (x4_3 - 1)) < (l0.length : Int) then (if (rd l0 (ji11)) = (wrap64 ((rd l0 (ji14)) * (rd l0 (wrap64 (x4_3 - 1))))) then (spec_MultiplicativeOk.l1 k3 l0 x3_2 (wrap64 (x4_3 + 1))) else (some false)) else (none)) else (none)) else (none)) else (none)) = some r := by first | (rw [hji14] at H; exact H) | (simp only [hji14] at H ⊢; exact H)
             (try rw [hji14] at A9)
             have hji14w : (IntKind.i64.wrap (x3_2 - 1)) = ji14 := (i64_w _).trans hji14
             by_cases c15 : 0 ≤ (ji14)
             ·rw [if_pos c15] at H
              have c15b0 : decide (0 ≤ (ji14)) = true := decide_eq_true c15
              clear c15
              by_cases c16 : (ji14) < (l0.length : Int)
              ·rw [if_pos c16] at H
               have c16b0 : decide ((ji14) < (l0.length : Int)) = true := decide_eq_true c16
               clear c16
               obtain ⟨ji17, hji17⟩ : ∃ j_ : Int, (wrap64 (x4_3 - 1)) = j_ := ⟨_, rfl⟩
               replace H : (if 0 ≤ (ji17) then (if (ji17) < (l0.length : Int) then (if (rd l0 (ji11)) = (wrap64 ((rd l0 (ji14)) * (rd l0 (ji17)))) then (spec_MultiplicativeOk.l1 k3 l0 x3_2 (wrap64 (x4_3 + 1))) else (some false)) else (none)) else (none)) = some r := by first | (rw [hji17] at H; exact H) | (simp only [hji17] at H ⊢; exact H)
               (try rw [hji17] at A9)
               have hji17w : (IntKind.i64.wrap (x4_3 - 1)) = ji17 := (i64_w _).trans hji17
               by_cases c18 : 0 ≤ (ji17)
               ·rw [if_pos c18] at H
                have c18b0 : decide (0 ≤ (ji17)) = true := decide_eq_true c18
                clear c18
                by_cases c19 : (ji17) < (l0.length : Int)
                ·rw [if_pos c19] at H
                 have c19b0 : decide ((ji17) < (l0.length : Int)) = true := decide_eq_true c19
                 clear c19
                 by_cases c20 : (rd l0 (ji11)) = (wrap64 ((rd l0 (ji14)) * (rd l0 (ji17))))
                 ·rw [if_pos c20] at H
                  have c20b0 : ((rd l0 (ji11)) == (wrap64 ((rd l0 (ji14)) * (rd l0 (ji17))))) = true := beq_iff_eq.mpr c20
                  have c20b1 : ((rd l0 (ji11)) != (wrap64 ((rd l0 (ji14)) * (rd l0 (ji17))))) = false := bne_eq_false_iff_eq.mpr c20
                  clear c20
                  have H' := Aside0.mk H
                  clear H
                  have p463 : 0 ≤ ((ji11) : Int) := of_decide_eq_true (by first | (with_reducible assumption) | assumption)
                  have q463 : (ji11) < (l0.length : Int) := of_decide_eq_true (by first | (with_reducible assumption) | assumption)
                  obtain ⟨ad463, e463, hx463_0⟩ := Kd.at_int HR0.out (ji11) p463 q463
                  cases e463
                  replace p463 := eq_true p463
                  replace q463 := eq_true q463
                  have p464 : 0 ≤ ((ji14) : Int) := of_decide_eq_true (by first | (with_reducible assumption) | assumption)
                  have q464 : (ji14) < (l0.length : Int) := of_decide_eq_true (by first | (with_reducible assumption) | assumption)
                  obtain ⟨ad464, e464, hx464_0⟩ := Kd.at_int HR0.out (ji14) p464 q464
                  obtain rfl : ad463 = ad464 := (by injection e464)
                  replace p464 := eq_true p464
                  replace q464 := eq_true q464
                  have p465 : 0 ≤ ((ji17) : Int) := of_decide_eq_true (by first | (with_reducible assumption) | assumption)
                  have q465 : (ji17) < (l0.length : Int) := of_decide_eq_true (by first | (with_reducible assumption) | assumption)
                  obtain ⟨ad465, e465, hx465_0⟩ := Kd.at_int HR0.out (ji17) p465 q465
                  obtain rfl : ad463 = ad465 := (by injection e465)
                  replace p465 := eq_true p465
                  replace q465 := eq_true q465
                  go_wp2_with (first | (go_at_call 80; (with_reducible refine (spec_ApartOk.calls k3 x3_2 x4_3 true _ A9.out).mono ?_); rintro e w' ⟨rfl, ⟨nd, rfl⟩⟩; (try first | exact ⟨rfl, _, World.drewN_drewN _ _ _⟩ | exact ⟨rfl, _, Eq.trans (World.drewN_drewN _ _ _) (congrArg (World.drewN _) (Nat.add_assoc _ _ _))⟩)))
                  repeat (go_quiet (first | (go_at_call 80; (with_reducible refine (spec_ApartOk.calls k3 x3_2 x4_3 true _ A9.out).mono ?_); rintro e w' ⟨rfl, ⟨nd, rfl⟩⟩; (try first | exact ⟨rfl, _, World.drewN_drewN _ _ _⟩ | exact ⟨rfl, _, Eq.trans (World.drewN_drewN _ _ _) (congrArg (World.drewN _) (Nat.add_assoc _ _ _))⟩))); try go_wp2_with (first | (go_at_call 80; (with_reducible refine (spec_ApartOk.calls k3 x3_2 x4_3 true _ A9.out).mono ?_); rintro e w' ⟨rfl, ⟨nd, rfl⟩⟩; (try first | exact ⟨rfl, _, World.drewN_drewN _ _ _⟩ | exact ⟨rfl, _, Eq.trans (World.drewN_drewN _ _ _) (congrArg (World.drewN _) (Nat.add_assoc _ _ _))⟩))))
                  go_roundg k3
                  case measure => have := HJ1.out; have := HK2.out; have := HK3.out; omega
                  case rel => exact ⟨(wrap64 (x4_3 + 1)), (by first | rfl | (simp; done) | (simp [*]; done)), H', ⟨by have := HJ1.out; have := HK2.out; have := HK3.out; omega⟩, by repeat (first | exact Drawn0.refl _ | apply Drawn0.step)⟩
                 ·rw [if_neg c20] at H
                  have c20b0 : ((rd l0 (ji11)) == (wrap64 ((rd l0 (ji14)) * (rd l0 (ji17))))) = false := beq_eq_false_iff_ne.mpr c20
                  have c20b1 : ((rd l0 (ji11)) != (wrap64 ((rd l0 (ji14)) * (rd l0 (ji17))))) = true := bne_iff_ne.mpr c20
                  obtain rfl := Option.some.inj H
                  have p463 : 0 ≤ ((ji11) : Int) := of_decide_eq_true (by first | (with_reducible assumption) | assumption)
                  have q463 : (ji11) < (l0.length : Int) := of_decide_eq_true (by first | (with_reducible assumption) | assumption)
                  obtain ⟨ad463, e463, hx463_0⟩ := Kd.at_int HR0.out (ji11) p463 q463
                  cases e463
                  replace p463 := eq_true p463
                  replace q463 := eq_true q463
                  have p464 : 0 ≤ ((ji14) : Int) := of_decide_eq_true (by first | (with_reducible assumption) | assumption)
                  have q464 : (ji14) < (l0.length : Int) := of_decide_eq_true (by first | (with_reducible assumption) | assumption)
                  obtain ⟨ad464, e464, hx464_0⟩ := Kd.at_int HR0.out (ji14) p464 q464
                  obtain rfl : ad463 = ad464 := (by injection e464)
                  replace p464 := eq_true p464
                  replace q464 := eq_true q464
                  have p465 : 0 ≤ ((ji17) : Int) := of_decide_eq_true (by first | (with_reducible assumption) | assumption)
                  have q465 : (ji17) < (l0.length : Int) := of_decide_eq_true (by first | (with_reducible assumption) | assumption)
                  obtain ⟨ad465, e465, hx465_0⟩ := Kd.at_int HR0.out (ji17) p465 q465
                  obtain rfl : ad463 = ad465 := (by injection e465)
                  replace p465 := eq_true p465
                  replace q465 := eq_true q465
                  go_wp2_with (first | (go_at_call 80; (with_reducible refine (spec_ApartOk.calls k3 x3_2 x4_3 true _ A9.out).mono ?_); rintro e w' ⟨rfl, ⟨nd, rfl⟩⟩; (try first | exact ⟨rfl, _, World.drewN_drewN _ _ _⟩ | exact ⟨rfl, _, Eq.trans (World.drewN_drewN _ _ _) (congrArg (World.drewN _) (Nat.add_assoc _ _ _))⟩)))
                  repeat (go_quiet (first | (go_at_call 80; (with_reducible refine (spec_ApartOk.calls k3 x3_2 x4_3 true _ A9.out).mono ?_); rintro e w' ⟨rfl, ⟨nd, rfl⟩⟩; (try first | exact ⟨rfl, _, World.drewN_drewN _ _ _⟩ | exact ⟨rfl, _, Eq.trans (World.drewN_drewN _ _ _) (congrArg (World.drewN _) (Nat.add_assoc _ _ _))⟩))); try go_wp2_with (first | (go_at_call 80; (with_reducible refine (spec_ApartOk.calls k3 x3_2 x4_3 true _ A9.out).mono ?_); rintro e w' ⟨rfl, ⟨nd, rfl⟩⟩; (try first | exact ⟨rfl, _, World.drewN_drewN _ _ _⟩ | exact ⟨rfl, _, Eq.trans (World.drewN_drewN _ _ _) (congrArg (World.drewN _) (Nat.add_assoc _ _ _))⟩))))
                  go_ret
                  exact ⟨by first | rfl | (simp; done) | (simp only [← hji11, ← hji14, ← hji17] <;> (first | rfl | simp)) | (simp [*]; done), by repeat (first | exact Drawn0.refl _ | apply Drawn0.step)⟩
                ·rw [if_neg c19] at H
                 exact absurd H (by simp)
               ·rw [if_neg c18] at H
                exact absurd H (by simp)
              ·rw [if_neg c16] at H
               exact absurd H (by simp)
             ·rw [if_neg c15] at H
              exact absurd H (by simp)
            ·rw [if_neg c13] at H
             exact absurd H (by simp)
           ·rw [if_neg c12] at H
            exact absurd H (by simp)
          ·replace c10 := Bool.eq_false_iff.mpr c10
           subst c10
           have H1 : (spec_MultiplicativeOk.l1 k3 l0 x3_2 (wrap64 (x4_3 + 1))) = some r := by rw [if_neg (show ¬ (false = true) by decide)] at H; exact H
           clear H
           have H := H1
           clear H1
           have H' := Aside0.mk H
           clear H
           go_wp2_with (first | (go_at_call 80; (with_reducible refine (spec_ApartOk.calls k3 x3_2 x4_3 false _ A9.out).mono ?_); rintro e w' ⟨rfl, ⟨nd, rfl⟩⟩; (try first | exact ⟨rfl, _, World.drewN_drewN _ _ _⟩ | exact ⟨rfl, _, Eq.trans (World.drewN_drewN _ _ _) (congrArg (World.drewN _) (Nat.add_assoc _ _ _))⟩)))
           repeat (go_quiet (first | (go_at_call 80; (with_reducible refine (spec_ApartOk.calls k3 x3_2 x4_3 false _ A9.out).mono ?_); rintro e w' ⟨rfl, ⟨nd, rfl⟩⟩; (try first | exact ⟨rfl, _, World.drewN_drewN _ _ _⟩ | exact ⟨rfl, _, Eq.trans (World.drewN_drewN _ _ _) (congrArg (World.drewN _) (Nat.add_assoc _ _ _))⟩))); try go_wp2_with (first | (go_at_call 80; (with_reducible refine (spec_ApartOk.calls k3 x3_2 x4_3 false _ A9.out).mono ?_); rintro e w' ⟨rfl, ⟨nd, rfl⟩⟩; (try first | exact ⟨rfl, _, World.drewN_drewN _ _ _⟩ | exact ⟨rfl, _, Eq.trans (World.drewN_drewN _ _ _) (congrArg (World.drewN _) (Nat.add_assoc _ _ _))⟩))))
           go_roundg k3
           case measure => have := HJ1.out; have := HK2.out; have := HK3.out; omega
           case rel => exact ⟨(wrap64 (x4_3 + 1)), (by first | rfl | (simp; done) | (simp [*]; done)), H', ⟨by have := HJ1.out; have := HK2.out; have := HK3.out; omega⟩, by repeat (first | exact Drawn0.refl _ | apply Drawn0.step)⟩
         ·rw [if_neg c8] at H
          have c8b0 : decide ((wrap64 (x3_2 * x4_3)) ≤ 24) = false := decide_eq_false c8
          clear c8
          have H' := Aside0.mk H
          clear H
          go_wp2
          repeat (go_quiet (fail); try go_wp2)
          go_roundg k3
          case measure => have := HJ1.out; have := HK2.out; have := HK3.out; omega
          case rel => exact ⟨(wrap64 (x3_2 + 1)), (by first | rfl | (simp; done) | (simp [*]; done)), H', ⟨by have := HJ1.out; have := HK2.out; have := HK3.out; omega⟩, by repeat (first | exact Drawn0.refl _ | apply Drawn0.step)⟩
      ·rw [if_neg c7] at H
       have c7b0 : decide (x3_2 ≤ 24) = false := decide_eq_false c7
       clear c7
       obtain rfl := Option.some.inj H
       go_wp2
       repeat (go_quiet (fail); try go_wp2)
       go_ret
       exact ⟨by first | rfl | (simp; done) | (simp [*]; done), by repeat (first | exact Drawn0.refl _ | apply Drawn0.step)⟩

/-! ### impl_listWithin: function 81 -/
def impl_listWithin.l0 : Nat → Int → List Int → Int → Int → Option (Bool)
 | 0, _, _, _, _ => none
 | k + 1, x1, x7, x8, x9 => if x9 < x8 then (if 0 ≤ x9 then (if x9 < (x7.length : Int) then (if (rd x7 x9) < (wrap64 (-x1)) then (some false) else (if (rd x7 x9) > x1 then (some false) else (impl_listWithin.l0 k x1 x7 x8 (wrap64 (x9 + 1))))) else (none)) else (none)) else (some true)
def impl_listWithin.f (k : Nat) (l0 : List Int) (a1 : Int) : Option (Bool) := impl_listWithin.l0 k a1 l0 (l0.length : Int) 0
theorem impl_listWithin.mono_l : ∀ k, (∀ y0 y1 y2 y3, LeO (impl_listWithin.l0 k y0 y1 y2 y3) (impl_listWithin.l0 (k + 1) y0 y1 y2 y3))
 | 0 => fun _ _ _ _ r h => by simp [impl_listWithin.l0] at h
 | k + 1 => by
  have ih0 := impl_listWithin.mono_l k
  ·intro y0 y1 y2 y3
   unfold impl_listWithin.l0
   repeat' first
   | (with_reducible exact ih0 _ _ _ _)
   | (with_reducible exact LeO.refl _)
   | (with_reducible exact LeO.none _)
   | (with_reducible refine LeO.ite ?_ ?_)
   | (with_reducible refine LeO.bind ?_ (fun _ => ?_))
   | exact ih0 _ _ _ _
   | exact LeO.none _
   | refine LeO.ite ?_ ?_
   | refine LeO.bind ?_ (fun _ => ?_)
theorem impl_listWithin.mono : ∀ a0 a1 k, LeO (impl_listWithin.f k a0 a1) (impl_listWithin.f (k + 1) a0 a1) := by
 intro a0 a1 k
 have ih0 := impl_listWithin.mono_l k
 unfold impl_listWithin.f
 repeat' first
   | (with_reducible exact ih0 _ _ _ _)
   | (with_reducible exact LeO.refl _)
   | (with_reducible exact LeO.none _)
   | (with_reducible refine LeO.ite ?_ ?_)
   | (with_reducible refine LeO.bind ?_ (fun _ => ?_))
   | exact ih0 _ _ _ _
   | exact LeO.none _
   | refine LeO.ite ?_ ?_
   | refine LeO.bind ?_ (fun _ => ?_)
set_option maxHeartbeats 8000000 in
set_option maxRecDepth 100000 in
theorem impl_listWithin.calls (k : Nat) (A0 : Option Addr) (c0 : Nat) (l0 : List Int) (a1 : Int) (r : Bool) (w : World) (hr0 : Kd.C (Kd.int .i64) w A0 l0.length l0) (hc0 : l0.length ≤ c0) (h : impl_listWithin.f k l0 a1 = some r) :
  Calls Try.prog 81 #[.slice A0 l0.length c0, .int .i64 a1] w fun e w' => e = .returned (.bool r) ∧ Drawn0 w w' := by
 have HR0 := Aside0.mk hr0
 have HC0 := Aside0.mk hc0
 clear hr0 hc0
 have H : (impl_listWithin.l0 k a1 l0 (l0.length : Int) 0) = some r := h
 clear h
 have H' := Aside0.mk H
 clear H
 go_enter Try.func81, Try.ntmps81
 go_wp2
 go_loopg [9] k (fun kq v9 w' => ∃ (x9_1 : Int), v9 = .int .i64 x9_1 ∧ Aside0 (impl_listWithin.l0 kq a1 l0 (l0.length : Int) x9_1 = some r) ∧ Aside0 (kq ≤ k) ∧ Drawn0 w w')
 case atStart => exact ⟨(0), (by first | rfl | (simp; done) | (simp [*]; done)), H', ⟨Nat.le_refl _⟩, by repeat (first | exact Drawn0.refl _ | apply Drawn0.step)⟩
 case round =>
  clear H'
  try clear p2
  obtain ⟨x9_1, rfl, HA, HK1, ⟨m1, rfl⟩⟩ := hrel
  cases gk with
  | zero => exact absurd HA.out (by simp [impl_listWithin.l0])
  | succ k1 =>
   have H := HA.out
   clear HA
   simp only [impl_listWithin.l0] at H
   by_cases c3 : x9_1 < (l0.length : Int)
   ·rw [if_pos c3] at H
    have c3b0 : decide (x9_1 < (l0.length : Int)) = true := decide_eq_true c3
    clear c3
    by_cases c4 : 0 ≤ x9_1
    ·rw [if_pos c4] at H
     have c4b0 : decide (0 ≤ x9_1) = true := decide_eq_true c4
     clear c4
     by_cases c5 : x9_1 < (l0.length : Int)
     ·rw [if_pos c5] at H
      have c5b0 : decide (x9_1 < (l0.length : Int)) = true := decide_eq_true c5
      clear c5
      by_cases c6 : (rd l0 x9_1) < (wrap64 (-a1))
      ·rw [if_pos c6] at H
       have c6b0 : decide ((rd l0 x9_1) < (wrap64 (-a1))) = true := decide_eq_true c6
       clear c6
       obtain rfl := Option.some.inj H
       have p466 : 0 ≤ (x9_1 : Int) := of_decide_eq_true (by first | (with_reducible assumption) | assumption)
       have q466 : x9_1 < (l0.length : Int) := of_decide_eq_true (by first | (with_reducible assumption) | assumption)
       obtain ⟨ad466, e466, hx466_0⟩ := Kd.at_int HR0.out x9_1 p466 q466
       cases e466
       replace p466 := eq_true p466
       replace q466 := eq_true q466
       go_wp2
       go_ret
       exact ⟨by first | rfl | (simp; done) | (simp [*]; done), by repeat (first | exact Drawn0.refl _ | apply Drawn0.step)⟩
      ·rw [if_neg c6] at H
       have c6b0 : decide ((rd l0 x9_1) < (wrap64 (-a1))) = false := decide_eq_false c6
       clear c6
       by_cases c7 : (rd l0 x9_1) > a1
       ·rw [if_pos c7] at H
        have c7b0 : decide (a1 < (rd l0 x9_1)) = true := decide_eq_true c7
        clear c7
        obtain rfl := Option.some.inj H
        have p466 : 0 ≤ (x9_1 : Int) := of_decide_eq_true (by first | (with_reducible assumption) | assumption)
        have q466 : x9_1 < (l0.length : Int) := of_decide_eq_true (by first | (with_reducible assumption) | assumption)
        obtain ⟨ad466, e466, hx466_0⟩ := Kd.at_int HR0.out x9_1 p466 q466
        cases e466
        replace p466 := eq_true p466
        replace q466 := eq_true q466
        go_wp2
        go_ret
        exact ⟨by first | rfl | (simp; done) | (simp [*]; done), by repeat (first | exact Drawn0.refl _ | apply Drawn0.step)⟩
       ·rw [if_neg c7] at H
        have c7b0 : decide (a1 < (rd l0 x9_1)) = false := decide_eq_false c7
        clear c7
        have H' := Aside0.mk H
        clear H
        have p466 : 0 ≤ (x9_1 : Int) := of_decide_eq_true (by first | (with_reducible assumption) | assumption)
        have q466 : x9_1 < (l0.length : Int) := of_decide_eq_true (by first | (with_reducible assumption) | assumption)
        obtain ⟨ad466, e466, hx466_0⟩ := Kd.at_int HR0.out x9_1 p466 q466
        cases e466
        replace p466 := eq_true p466
        replace q466 := eq_true q466
        go_wp2
        go_roundg k1
        case measure => have := HK1.out; omega
        case rel => exact ⟨(wrap64 (x9_1 + 1)), (by first | rfl | (simp; done) | (simp [*]; done)), H', ⟨by have := HK1.out; omega⟩, by repeat (first | exact Drawn0.refl _ | apply Drawn0.step)⟩
     ·rw [if_neg c5] at H
      exact absurd H (by simp)
    ·rw [if_neg c4] at H
     exact absurd H (by simp)
   ·rw [if_neg c3] at H
    have c3b0 : decide (x9_1 < (l0.length : Int)) = false := decide_eq_false c3
    clear c3
    obtain rfl := Option.some.inj H
    go_wp2
    go_ret
    exact ⟨by first | rfl | (simp; done) | (simp [*]; done), by repeat (first | exact Drawn0.refl _ | apply Drawn0.step)⟩

/-! ### impl_SpreadOf_1: function 82 -/
def impl_SpreadOf_1.l0 : Nat → Int → List Int → Int → List Int → Int → Int → Option (Int)
 | 0, _, _, _, _, _, _ => none
 | k + 1, x0, x2, x5, x8, x9, x10 => if x10 < x9 then (if 0 ≤ x10 then (if x10 < (x8.length : Int) then (if (rd x8 x10) = 0 then (none) else (if (Int.tmod x0 (rd x8 x10)) = 0 then ((impl_gcd.f k (rd x8 x10) (wrap64 (Int.tdiv x0 (rd x8 x10)))).bind fun t468 => (if t468 = 1 then (if x10 < (x2.length : Int) then (impl_SpreadOf_1.l0 k x0 x2 (wrap64 (x5 * (rd x2 x10))) x8 x9 (wrap64 (x10 + 1))) else (none)) else (impl_SpreadOf_1.l0 k x0 x2 x5 x8 x9 (wrap64 (x10 + 1))))) else (impl_SpreadOf_1.l0 k x0 x2 x5 x8 x9 (wrap64 (x10 + 1))))) else (none)) else (none)) else (some x5)
def impl_SpreadOf_1.f (k : Nat) (a0 : Int) (l1 : List Int) (l2 : List Int) : Option (Int) := impl_SpreadOf_1.l0 k a0 l2 1 l1 (l1.length : Int) 0
theorem impl_SpreadOf_1.mono_l : ∀ k, (∀ y0 y1 y2 y3 y4 y5, LeO (impl_SpreadOf_1.l0 k y0 y1 y2 y3 y4 y5) (impl_SpreadOf_1.l0 (k + 1) y0 y1 y2 y3 y4 y5))
 | 0 => fun _ _ _ _ _ _ r h => by simp [impl_SpreadOf_1.l0] at h
 | k + 1 => by
  have ih0 := impl_SpreadOf_1.mono_l k
  ·intro y0 y1 y2 y3 y4 y5
   unfold impl_SpreadOf_1.l0
   repeat' first
   | (with_reducible exact ih0 _ _ _ _ _ _)
   | (with_reducible exact impl_gcd.mono _ _ _)
   | (with_reducible exact LeO.refl _)
   | (with_reducible exact LeO.none _)
   | (with_reducible refine LeO.ite ?_ ?_)
   | (with_reducible refine LeO.bind ?_ (fun _ => ?_))
   | exact ih0 _ _ _ _ _ _
   | exact impl_gcd.mono _ _ _
   | exact LeO.none _
   | refine LeO.ite ?_ ?_
   | refine LeO.bind ?_ (fun _ => ?_)
theorem impl_SpreadOf_1.mono : ∀ a0 a1 a2 k, LeO (impl_SpreadOf_1.f k a0 a1 a2) (impl_SpreadOf_1.f (k + 1) a0 a1 a2) := by
 intro a0 a1 a2 k
 have ih0 := impl_SpreadOf_1.mono_l k
 unfold impl_SpreadOf_1.f
 repeat' first
   | (with_reducible exact ih0 _ _ _ _ _ _)
   | (with_reducible exact impl_gcd.mono _ _ _)
   | (with_reducible exact LeO.refl _)
   | (with_reducible exact LeO.none _)
   | (with_reducible refine LeO.ite ?_ ?_)
   | (with_reducible refine LeO.bind ?_ (fun _ => ?_))
   | exact ih0 _ _ _ _ _ _
   | exact impl_gcd.mono _ _ _
   | exact LeO.none _
   | refine LeO.ite ?_ ?_
   | refine LeO.bind ?_ (fun _ => ?_)
set_option maxHeartbeats 8000000 in
set_option maxRecDepth 100000 in
theorem impl_SpreadOf_1.calls (k : Nat) (a0 : Int) (A1 : Option Addr) (c1 : Nat) (l1 : List Int) (A2 : Option Addr) (c2 : Nat) (l2 : List Int) (r : Int) (w : World) (p1 : Addr) (hp1 : w.cell? p1 = some (.slice A1 l1.length c1)) (p2 : Addr) (hp2 : w.cell? p2 = some (.slice A2 l2.length c2)) (hr1 : Kd.C (Kd.int .i64) w A1 l1.length l1) (hc1 : l1.length ≤ c1) (hr2 : Kd.C (Kd.int .i64) w A2 l2.length l2) (hc2 : l2.length ≤ c2) (h : impl_SpreadOf_1.f k a0 l1 l2 = some r) :
  Calls Try.prog 82 #[.int .i64 a0, .pointer (some p1), .pointer (some p2)] w fun e w' => e = .returned (.int .i64 r) ∧ Drawn0 w w' := by
 have HR1 := Aside0.mk hr1
 have HC1 := Aside0.mk hc1
 clear hr1 hc1
 have HR2 := Aside0.mk hr2
 have HC2 := Aside0.mk hc2
 clear hr2 hc2
 have H : (impl_SpreadOf_1.l0 k a0 l2 1 l1 (l1.length : Int) 0) = some r := h
 clear h
 have H' := Aside0.mk H
 clear H
 go_enter Try.func82, Try.ntmps82
 go_wp2
 go_loopg [5, 10] k (fun kq v5 v10 w' => ∃ (x5_1 : Int) (x10_1 : Int), v5 = .int .i64 x5_1 ∧ v10 = .int .i64 x10_1 ∧ Aside0 (impl_SpreadOf_1.l0 kq a0 l2 x5_1 l1 (l1.length : Int) x10_1 = some r) ∧ Aside0 (kq ≤ k) ∧ Drawn0 w w')
 case atStart => exact ⟨(1), (0), (by first | rfl | (simp; done) | (simp [*]; done)), (by first | rfl | (simp; done) | (simp [*]; done)), H', ⟨Nat.le_refl _⟩, by repeat (first | exact Drawn0.refl _ | apply Drawn0.step)⟩
 case round =>
  clear H'
  try clear c1
  try clear c2
  try clear p2
  obtain ⟨x5_1, x10_1, rfl, rfl, HA, HK1, ⟨m1, rfl⟩⟩ := hrel
  cases gk with
  | zero => exact absurd HA.out (by simp [impl_SpreadOf_1.l0])
  | succ k1 =>
   have H := HA.out
   clear HA
   simp only [impl_SpreadOf_1.l0] at H
   by_cases c4 : x10_1 < (l1.length : Int)
   ·rw [if_pos c4] at H
    have c4b0 : decide (x10_1 < (l1.length : Int)) = true := decide_eq_true c4
    clear c4
    by_cases c5 : 0 ≤ x10_1
    ·rw [if_pos c5] at H
     have c5b0 : decide (0 ≤ x10_1) = true := decide_eq_true c5
     clear c5
     by_cases c6 : x10_1 < (l1.length : Int)
     ·rw [if_pos c6] at H
      have c6b0 : decide (x10_1 < (l1.length : Int)) = true := decide_eq_true c6
      clear c6
      by_cases c7 : (rd l1 x10_1) = 0
      ·rw [if_pos c7] at H
       exact absurd H (by simp)
      ·rw [if_neg c7] at H
       have c7b0 : ((rd l1 x10_1) == 0) = false := beq_eq_false_iff_ne.mpr c7
       have c7b1 : ((rd l1 x10_1) != 0) = true := bne_iff_ne.mpr c7
       by_cases c8 : (Int.tmod a0 (rd l1 x10_1)) = 0
       ·rw [if_pos c8] at H
        have c8b0 : ((Int.tmod a0 (rd l1 x10_1)) == 0) = true := beq_iff_eq.mpr c8
        have c8b1 : ((Int.tmod a0 (rd l1 x10_1)) != 0) = false := bne_eq_false_iff_eq.mpr c8
        clear c8
        replace H := Option.bind_eq_some_iff.mp H
        obtain ⟨t468, A90, H⟩ := H
        replace H : (if t468 = 1 then (if x10_1 < (l2.length : Int) then (impl_SpreadOf_1.l0 k1 a0 l2 (wrap64 (x5_1 * (rd l2 x10_1))) l1 (l1.length : Int) (wrap64 (x10_1 + 1))) else (none)) else (impl_SpreadOf_1.l0 k1 a0 l2 x5_1 l1 (l1.length : Int) (wrap64 (x10_1 + 1)))) = some r := H
        have A9 := Aside0.mk A90
        clear A90
        by_cases c10 : t468 = 1
        ·rw [if_pos c10] at H
         have c10b0 : (t468 == 1) = true := beq_iff_eq.mpr c10
         have c10b1 : (t468 != 1) = false := bne_eq_false_iff_eq.mpr c10
         clear c10
         by_cases c11 : x10_1 < (l2.length : Int)
         ·rw [if_pos c11] at H
          have c11b0 : decide (x10_1 < (l2.length : Int)) = true := decide_eq_true c11
          clear c11
          have H' := Aside0.mk H
          clear H
          have p467 : 0 ≤ (x10_1 : Int) := of_decide_eq_true (by first | (with_reducible assumption) | assumption)
          have q467 : x10_1 < (l1.length : Int) := of_decide_eq_true (by first | (with_reducible assumption) | assumption)
          obtain ⟨ad467, e467, hx467_0⟩ := Kd.at_int HR1.out x10_1 p467 q467
          cases e467
          replace p467 := eq_true p467
          replace q467 := eq_true q467
          go_wp2_with (first | (go_at_call 83; (with_reducible refine (impl_gcd.calls k1 (rd l1 x10_1) (wrap64 (Int.tdiv a0 (rd l1 x10_1))) t468 _ A9.out).mono ?_); rintro e w' ⟨rfl, ⟨nd, rfl⟩⟩; have p469 : 0 ≤ (x10_1 : Int) := of_decide_eq_true (by first | (with_reducible assumption) | assumption); have q469 : x10_1 < (l2.length : Int) := of_decide_eq_true (by first | (with_reducible assumption) | assumption); obtain ⟨ad469, e469, hx469_0⟩ := Kd.at_int HR2.out x10_1 p469 q469; cases e469; replace p469 := eq_true p469; replace q469 := eq_true q469))
          go_roundg k1
          case measure => have := HK1.out; omega
          case rel => exact ⟨(wrap64 (x5_1 * (rd l2 x10_1))), (wrap64 (x10_1 + 1)), (by first | rfl | (simp; done) | (simp [*]; done)), (by first | rfl | (simp; done) | (simp [*]; done)), H', ⟨by have := HK1.out; omega⟩, by repeat (first | exact Drawn0.refl _ | apply Drawn0.step)⟩
         ·rw [if_neg c11] at H
          exact absurd H (by simp)
        ·rw [if_neg c10] at H
         have c10b0 : (t468 == 1) = false := beq_eq_false_iff_ne.mpr c10
         have c10b1 : (t468 != 1) = true := bne_iff_ne.mpr c10
         have H' := Aside0.mk H
         clear H
         have p467 : 0 ≤ (x10_1 : Int) := of_decide_eq_true (by first | (with_reducible assumption) | assumption)
         have q467 : x10_1 < (l1.length : Int) := of_decide_eq_true (by first | (with_reducible assumption) | assumption)
         obtain ⟨ad467, e467, hx467_0⟩ := Kd.at_int HR1.out x10_1 p467 q467
         cases e467
         replace p467 := eq_true p467
         replace q467 := eq_true q467
         go_wp2_with (first | (go_at_call 83; (with_reducible refine (impl_gcd.calls k1 (rd l1 x10_1) (wrap64 (Int.tdiv a0 (rd l1 x10_1))) t468 _ A9.out).mono ?_); rintro e w' ⟨rfl, ⟨nd, rfl⟩⟩))
         go_roundg k1
         case measure => have := HK1.out; omega
         case rel => exact ⟨(x5_1), (wrap64 (x10_1 + 1)), (by first | rfl | (simp; done) | (simp [*]; done)), (by first | rfl | (simp; done) | (simp [*]; done)), H', ⟨by have := HK1.out; omega⟩, by repeat (first | exact Drawn0.refl _ | apply Drawn0.step)⟩
       ·rw [if_neg c8] at H
        have c8b0 : ((Int.tmod a0 (rd l1 x10_1)) == 0) = false := beq_eq_false_iff_ne.mpr c8
        have c8b1 : ((Int.tmod a0 (rd l1 x10_1)) != 0) = true := bne_iff_ne.mpr c8
        have H' := Aside0.mk H
        clear H
        have p467 : 0 ≤ (x10_1 : Int) := of_decide_eq_true (by first | (with_reducible assumption) | assumption)
        have q467 : x10_1 < (l1.length : Int) := of_decide_eq_true (by first | (with_reducible assumption) | assumption)
        obtain ⟨ad467, e467, hx467_0⟩ := Kd.at_int HR1.out x10_1 p467 q467
        cases e467
        replace p467 := eq_true p467
        replace q467 := eq_true q467
        go_wp2
        go_roundg k1
        case measure => have := HK1.out; omega
        case rel => exact ⟨(x5_1), (wrap64 (x10_1 + 1)), (by first | rfl | (simp; done) | (simp [*]; done)), (by first | rfl | (simp; done) | (simp [*]; done)), H', ⟨by have := HK1.out; omega⟩, by repeat (first | exact Drawn0.refl _ | apply Drawn0.step)⟩
     ·rw [if_neg c6] at H
      exact absurd H (by simp)
    ·rw [if_neg c5] at H
     exact absurd H (by simp)
   ·rw [if_neg c4] at H
    have c4b0 : decide (x10_1 < (l1.length : Int)) = false := decide_eq_false c4
    clear c4
    obtain rfl := Option.some.inj H
    go_wp2
    go_ret
    exact ⟨by first | rfl | (simp; done) | (simp [*]; done), by repeat (first | exact Drawn0.refl _ | apply Drawn0.step)⟩

/-! ### impl_SpreadOf: function 52 -/
def impl_SpreadOf.f (k : Nat) (l0 : List Int) : Option (List Int × Bool) := (impl_primePowers.f k 24).bind fun t1 => (if (l0.length : Int) = (t1.length : Int) then ((impl_listWithin.f k l0 1000).bind fun t2 => (if t2 = true then ((impl_rowBy.f (fun k n => impl_SpreadOf_1.f k n t1 l0) k).bind fun t3 => (some (t3, true))) else (some (([] : List Int), false)))) else (some (([] : List Int), false)))
theorem impl_SpreadOf.mono : ∀ a0 k, LeO (impl_SpreadOf.f k a0) (impl_SpreadOf.f (k + 1) a0) := by
 intro a0 k
 unfold impl_SpreadOf.f
 refine LeO.bind (impl_primePowers.mono _ _) (fun t => ?_)
 refine LeO.ite ?_ (LeO.refl _)
 refine LeO.bind (impl_listWithin.mono _ _ _) (fun _ => ?_)
 refine LeO.ite ?_ (LeO.refl _)
 exact LeO.bind (impl_rowBy.mono _ (fun n k => impl_SpreadOf_1.mono n t a0 k) k) (fun _ => LeO.refl _)
set_option maxHeartbeats 2000000 in
set_option maxRecDepth 100000 in
theorem impl_SpreadOf.calls (k : Nat) (A0 : Option Addr) (c0 : Nat) (l0 : List Int) (r1 : List Int) (r2 : Bool) (w : World) (hr0 : Kd.C (Kd.int .i64) w A0 l0.length l0) (hc0 : l0.length ≤ c0) (h : impl_SpreadOf.f k l0 = some (r1, r2)) :
  Calls Try.prog 52 #[.slice A0 l0.length c0] w fun e w' => ∃ v0_ : Value, e = .returned (.tuple #[v0_, .bool r2]) ∧ Kd.R (Kd.int .i64) 3 w' w.heap.size (fun _ => True) v0_ r1 ∧ Below w.heap.size w w' := by
 unfold impl_SpreadOf.f at h
 obtain ⟨t1, e1, h⟩ := Option.bind_eq_some_iff.mp h
 have E1 := Aside0.mk e1
 have HR0 := Aside0.mk hr0
 have HC0 := Aside0.mk hc0
 clear e1 hr0 hc0
 have hmf : ∀ (fn : Fn) (first cap : Array Value) (w : World), (Instr.makeFunc fn first cap).run Try.prog w = .ok (.func fn first cap) w := fun _ _ _ _ => rfl
 have hM0 : (w.alloc (.cells #[.slice A0 l0.length c0] 23)).cell? ⟨w.heap.size, 0, none⟩ = some (.slice A0 l0.length c0) := by
  rw [World.cell?_alloc_at _ _ _ _ rfl]; rfl
 have B1 : Below w.heap.size w (w.alloc (.cells #[.slice A0 l0.length c0] 23)) := below_alloc (Below.refl _ _) _
 have HQ := Aside0.mk hM0
 have HB1 := Aside0.mk B1
 clear hM0 B1
 by_cases hl : (l0.length : Int) = (t1.length : Int)
 ·rw [if_pos hl] at h
  have d1 : ((l0.length : Int) != (t1.length : Int)) = false := by rw [hl]; simp
  have d2 : ((l0.length : Int) == (t1.length : Int)) = true := by rw [hl]; simp
  clear hl
  obtain ⟨t2, e2, h⟩ := Option.bind_eq_some_iff.mp h
  have E2 := Aside0.mk e2
  clear e2
  cases t2 with
  | false =>
   simp only [Bool.false_eq_true, if_false, Option.some.injEq, Prod.mk.injEq] at h
   obtain ⟨rfl, rfl⟩ := h
   go_enter Try.func52, Try.ntmps52
   go_wp2_with fail
   refine (impl_primePowers.calls k 24 t1 _ E1.out).mono ?_
   rintro e w2 ⟨v, rfl, hR, hb⟩
   obtain ⟨Ao, co, rfl⟩ := Kd.R_slice hR
   have HR1 := Aside0.mk (Kd.R_reads' hR)
   have HB2 := Aside0.mk (below_alloc (below_step HB1.out hb) (.cells #[.slice Ao t1.length co] 23))
   have hq2 := (hb.cell (World.block_lt_of_cell? _ _ HQ.out)).trans HQ.out
   have hq0 : (w2.alloc (.cells #[.slice Ao t1.length co] 23)).cell? ⟨w.heap.size, 0, none⟩ = some (.slice A0 l0.length c0) := by
    rw [World.cell?_alloc_past _ _ _ (World.block_lt_of_cell? _ _ hq2)]; exact hq2
   have hq1 : (w2.alloc (.cells #[.slice Ao t1.length co] 23)).cell? ⟨w2.heap.size, 0, none⟩ = some (.slice Ao t1.length co) := by
    rw [World.cell?_alloc_at _ _ _ _ rfl]; rfl
   have HC2 := Aside0.mk (Kd.C_below HR0.out HB2.out)
   clear hR hb hq2
   go_wp2_with fail
   refine (impl_listWithin.calls k _ _ l0 1000 false _ HC2.out HC0.out E2.out).mono ?_
   rintro e w' ⟨rfl, ⟨nd, rfl⟩⟩
   go_wp2
   go_ret2
   exact ⟨_, rfl, Kd.R_nil .., pw_below_drewN HB2.out _⟩
  | true =>
   simp only [if_true] at h
   obtain ⟨t3, e3, h⟩ := Option.bind_eq_some_iff.mp h
   have E3 := Aside0.mk e3
   clear e3
   simp only [Option.some.injEq, Prod.mk.injEq] at h
   obtain ⟨rfl, rfl⟩ := h
   go_enter Try.func52, Try.ntmps52
   go_wp2_with fail
   refine (impl_primePowers.calls k 24 t1 _ E1.out).mono ?_
   rintro e w2 ⟨v, rfl, hR, hb⟩
   obtain ⟨Ao, co, rfl⟩ := Kd.R_slice hR
   have HR1 := Aside0.mk (Kd.R_reads' hR)
   have HB2 := Aside0.mk (below_alloc (below_step HB1.out hb) (.cells #[.slice Ao t1.length co] 23))
   have hq2 := (hb.cell (World.block_lt_of_cell? _ _ HQ.out)).trans HQ.out
   have hq0 : (w2.alloc (.cells #[.slice Ao t1.length co] 23)).cell? ⟨w.heap.size, 0, none⟩ = some (.slice A0 l0.length c0) := by
    rw [World.cell?_alloc_past _ _ _ (World.block_lt_of_cell? _ _ hq2)]; exact hq2
   have hq1 : (w2.alloc (.cells #[.slice Ao t1.length co] 23)).cell? ⟨w2.heap.size, 0, none⟩ = some (.slice Ao t1.length co) := by
    rw [World.cell?_alloc_at _ _ _ _ rfl]; rfl
   have HC2 := Aside0.mk (Kd.C_below HR0.out HB2.out)
   clear hR hb hq2
   go_wp2_with fail
   refine (impl_listWithin.calls k _ _ l0 1000 true _ HC2.out HC0.out E2.out).mono ?_
   rintro e w' ⟨rfl, ⟨nd, rfl⟩⟩
   have HB3 := Aside0.mk (pw_below_drewN HB2.out nd)
   have HQ0 := Aside0.mk (show ((w2.alloc (.cells #[.slice Ao t1.length co] 23)).drewN nd).cell? ⟨w.heap.size, 0, none⟩ = some (.slice A0 l0.length c0) from hq0)
   have HQ1 := Aside0.mk (show ((w2.alloc (.cells #[.slice Ao t1.length co] 23)).drewN nd).cell? ⟨w2.heap.size, 0, none⟩ = some (.slice Ao t1.length co) from hq1)
   have HC3 := Aside0.mk (Kd.C_drewN (Kd.C_alloc HR1.out.2.2 (.cells #[.slice Ao t1.length co] 23)) nd)
   have HC4 := Aside0.mk (Kd.C_drewN HC2.out nd)
   clear hq0 hq1
   go_wp2_with fail
   refine (impl_rowBy.calls (fun k n => impl_SpreadOf_1.f k n t1 l0) 82 Try.f82 #[.pointer (some ⟨w2.heap.size, 0, none⟩), .pointer (some ⟨w.heap.size, 0, none⟩)] Try.func82 (by kernel_rfl) rfl k t3 _ ?hg E3.out).mono ?_
   case hg =>
    intro k n r w1 hb he
    exact (impl_SpreadOf_1.calls k n Ao co t1 A0 c0 l0 r w1 ⟨w2.heap.size, 0, none⟩ ((hb.cell (World.block_lt_of_cell? _ _ HQ1.out)).trans HQ1.out) ⟨w.heap.size, 0, none⟩ ((hb.cell (World.block_lt_of_cell? _ _ HQ0.out)).trans HQ0.out) (Kd.C_below HC3.out hb) HR1.out.2.1 (Kd.C_below HC4.out hb) HC0.out he).mono (fun e w' h => ⟨h.1, h.2.below⟩)
   rintro e w4 ⟨v, rfl, hR, hb⟩
   have HRR := Aside0.mk hR
   have HBB := Aside0.mk hb
   clear hR hb
   go_wp2
   go_ret2
   exact ⟨v, rfl, Kd.R_lower HRR.out HB3.out.size, below_step HB3.out HBB.out⟩
 ·rw [if_neg hl] at h
  have d1 : ((l0.length : Int) != (t1.length : Int)) = true := by simpa using hl
  have d2 : ((l0.length : Int) == (t1.length : Int)) = false := by simpa using hl
  clear hl
  simp only [Option.some.injEq, Prod.mk.injEq] at h
  obtain ⟨rfl, rfl⟩ := h
  go_enter Try.func52, Try.ntmps52
  go_wp2_with fail
  refine (impl_primePowers.calls k 24 t1 _ E1.out).mono ?_
  rintro e w2 ⟨v, rfl, hR, hb⟩
  obtain ⟨Ao, co, rfl⟩ := Kd.R_slice hR
  have HR1 := Aside0.mk (Kd.R_reads' hR)
  have HB2 := Aside0.mk (below_alloc (below_step HB1.out hb) (.cells #[.slice Ao t1.length co] 23))
  have hq2 := (hb.cell (World.block_lt_of_cell? _ _ HQ.out)).trans HQ.out
  have hq0 : (w2.alloc (.cells #[.slice Ao t1.length co] 23)).cell? ⟨w.heap.size, 0, none⟩ = some (.slice A0 l0.length c0) := by
   rw [World.cell?_alloc_past _ _ _ (World.block_lt_of_cell? _ _ hq2)]; exact hq2
  have hq1 : (w2.alloc (.cells #[.slice Ao t1.length co] 23)).cell? ⟨w2.heap.size, 0, none⟩ = some (.slice Ao t1.length co) := by
   rw [World.cell?_alloc_at _ _ _ _ rfl]; rfl
  have HC2 := Aside0.mk (Kd.C_below HR0.out HB2.out)
  clear hR hb hq2
  go_wp2
  go_ret2
  exact ⟨_, rfl, Kd.R_nil .., HB2.out⟩

end Go.Proofs.Yteebmpbhhpmhbaa.PFnMultiplicativeOk
