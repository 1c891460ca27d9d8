/- The walks of the functions that FnAtPowers reaches, as the print lays them, in short words. -/
/- The functions that the law reaches, each with the number or list that Go comes to, for all arguments that its Lean function takes. -/
import Derived.Test.YteebmpbhhpmhbaaZ
import Derived.Test.YteebmpbhhpmhbaaQFnAtPowersx0
import Derived.Test.YteebmpbhhpmhbaaQFnAtPowersx1
import Derived.Test.YteebmpbhhpmhbaaQFnAtPowersx3
import Derived.Test.YteebmpbhhpmhbaaQFnAtPowersx7
import Derived.Test.YteebmpbhhpmhbaaQFnAtPowersx10
namespace Go.Proofs.Yteebmpbhhpmhbaa.PFnAtPowers
open Go.Proofs.Yteebmpbhhpmhbaa.Clos
open Go.RowKit Go.Proofs.YteebmpbhhpmhbaaW.PrintWords Go.Proofs.YteebmpbhhpmhbaaW.PrintLast Go.Proofs.YteebmpbhhpmhbaaW.PrintMore
attribute [local go_sem] max2_int min2_int max_two min_two max_three min_three max_four min_four   -- for this text's walks alone
set_option linter.unusedVariables false
set_option linter.unusedSimpArgs false

/-! ### spec_AtPowers: function 48 -/
def spec_AtPowers.l0 : Nat → List Int → List Int → List Int → Int → Option (List Int)
 | 0, _, _, _, _ => none
 | k + 1, x0, x3, x4, x5 => if x5 < (x4.length : Int) then ((spec_RowOk.f k x0).bind fun t422 => (if t422 = true then (if 0 ≤ x5 then (if 0 ≤ (wrap64 ((rd x4 x5) - 1)) then (if (wrap64 ((rd x4 x5) - 1)) < (x0.length : Int) then (if x3.length < 17592186044416 then (spec_AtPowers.l0 k x0 (x3 ++ [rd x0 (wrap64 ((rd x4 x5) - 1))]) x4 (wrap64 (x5 + 1))) else (none)) else (none)) else (none)) else (none)) else (some x3))) else (some x3)
def spec_AtPowers.f (k : Nat) (l0 : List Int) : Option (List Int) := (spec_PrimePowers.f k 24).bind fun t419 => (spec_AtPowers.l0 k l0 (([] : List Int)) t419 0)
theorem spec_AtPowers.mono_l : ∀ k, (∀ y0 y1 y2 y3, LeO (spec_AtPowers.l0 k y0 y1 y2 y3) (spec_AtPowers.l0 (k + 1) y0 y1 y2 y3))
 | 0 => fun _ _ _ _ r h => by simp [spec_AtPowers.l0] at h
 | k + 1 => by
  have ih0 := spec_AtPowers.mono_l k
  ·intro y0 y1 y2 y3
   unfold spec_AtPowers.l0
   repeat' first
   | (with_reducible exact ih0 _ _ _ _)
   | (with_reducible exact spec_PrimePowers.mono _ _)
   | (with_reducible exact spec_RowOk.mono _ _)
   | (with_reducible exact LeO.refl _)
   | (with_reducible exact LeO.none _)
   | (with_reducible refine LeO.ite ?_ ?_)
   | (with_reducible refine LeO.bind ?_ (fun _ => ?_))
   | exact ih0 _ _ _ _
   | exact spec_PrimePowers.mono _ _
   | exact spec_RowOk.mono _ _
   | exact LeO.none _
   | refine LeO.ite ?_ ?_
   | refine LeO.bind ?_ (fun _ => ?_)
theorem spec_AtPowers.mono : ∀ a0 k, LeO (spec_AtPowers.f k a0) (spec_AtPowers.f (k + 1) a0) := by
 intro a0 k
 have ih0 := spec_AtPowers.mono_l k
 unfold spec_AtPowers.f
 repeat' first
   | (with_reducible exact ih0 _ _ _ _)
   | (with_reducible exact spec_PrimePowers.mono _ _)
   | (with_reducible exact spec_RowOk.mono _ _)
   | (with_reducible exact LeO.refl _)
   | (with_reducible exact LeO.none _)
   | (with_reducible refine LeO.ite ?_ ?_)
   | (with_reducible refine LeO.bind ?_ (fun _ => ?_))
   | exact ih0 _ _ _ _
   | exact spec_PrimePowers.mono _ _
   | exact spec_RowOk.mono _ _
   | exact LeO.none _
   | refine LeO.ite ?_ ?_
   | refine LeO.bind ?_ (fun _ => ?_)
set_option maxHeartbeats 8000000 in
set_option maxRecDepth 100000 in
theorem spec_AtPowers.calls (k : Nat) (A0 : Option Addr) (c0 : Nat) (l0 : List Int) (r : List Int) (w : World) (hr0 : Kd.C (Kd.int .i64) w A0 l0.length l0) (hc0 : l0.length ≤ c0) (h : spec_AtPowers.f k l0 = some r) :
  Calls Try.prog 48 #[.slice A0 l0.length c0] w fun e w' => ∃ v0_ : Value, e = .returned (v0_) ∧ Kd.R (Kd.int .i64) 3 w' w.heap.size (fun _ => True) v0_ r ∧ Below w.heap.size w w' := by
 have HR0 := Aside0.mk hr0
 have HC0 := Aside0.mk hc0
 clear hr0 hc0
 have HB := Aside0.mk (Below.refl w.heap.size w)
 have H : ((spec_PrimePowers.f k 24).bind fun t419 => (spec_AtPowers.l0 k l0 (([] : List Int)) t419 0)) = some r := h
 clear h
 obtain ⟨y416, hy416⟩ : ∃ y_ : List Int, y_ = (([] : List Int)) := ⟨_, rfl⟩
 replace H : ((spec_PrimePowers.f k 24).bind fun t419 => (spec_AtPowers.l0 k l0 y416 t419 0)) = some r := by first | (rw [hy416]; with_reducible exact H) | (have H2_ := (Option.bind_some _ _).symm.trans H; rw [hy416]; with_reducible exact H2_) | (have H2_ := (Option.bind_some _ _).symm.trans H; with_reducible exact H2_) | with_reducible exact H | (rw [hy416]; exact H) | exact H
 have Ny416 := Aside0.mk hy416
 clear hy416
 replace H := Option.bind_eq_some_iff.mp H
 obtain ⟨t419, A20, H⟩ := H
 replace H : (spec_AtPowers.l0 k l0 y416 t419 0) = some r := H
 have A2 := Aside0.mk A20
 clear A20
 have H' := Aside0.mk H
 clear H
 go_enter Try.func48, Try.ntmps48
 go_wp2_with (first | ((with_reducible refine gate_dst (N := 6) rfl ?_); refine Kd.R_lit (Kd.int .i64) _ 3 ?hg (N := 6) ?hd (xs := ([] : List Int)) (inner := []) (ok := fun _ => True) (okp := fun _ => True) ?hr ?hp (fun _ hk => hk) trivial (Below.refl _ _) (Nat.le_refl _) (by simp) ?_; (case hd => rfl); (case hg => rfl); (case hr => first | (go_simp; done) | (go_simp; rfl)); (case hp => exact (Reps.none _ _)); intro v417 w3 ho4 hb hg_ hnew_; clear hg_ hnew_; (first | rw [← Ny416.out] at ho4 | (simp only [Int.reduceToNat] at ho4; rw [← Ny416.out] at ho4)); have n0_ := Aside0.mk (Kd.R_lower ho4 (below_size (by bw_ HB))); have n1_ := Aside0.mk (below_step (by bw_ HB) hb); clear HB; have HO418 := n0_; have HB := n1_; clear n0_ n1_; clear hb ho4) | ((with_reducible refine gate_callee (f := 79) rfl ?_); refine goesL_ (some 7) rfl rfl Try.func79 (by kernel_rfl) rfl #[.int .i64 24] rfl (by mp_) ?_; (with_reducible refine (spec_PrimePowers.calls k 24 t419 _ A2.out).mono ?_); rintro e w5 ⟨v420, rfl, ho0, hb⟩; refine ⟨_, rfl, ?_⟩; have n0_ := Aside0.mk (Kd.R_elder' (by ra_; exact HO418.out) (Kd.R_base ho0) hb); have n1_ := Aside0.mk (Kd.R_lower (Kd.R_new' ho0 (Kd.R_lt (by ra_; exact HO418.out))) (below_size (by bw_ HB))); have n2_ := Aside0.mk (below_step (by bw_ HB) hb); clear HO418; clear HB; have HO418 := n0_; have HO421 := n1_; have HB := n2_; clear n0_ n1_ n2_; (try clear hb); (try clear hb2); (try clear hk); (try clear hi); (try clear ho0)))
 go_loopg [3, 5] k (fun kq v3 v5 w' => ∃ (x3_1 : List Int) (x5_1 : Int), v5 = .int .i64 x5_1 ∧ Aside0 (spec_AtPowers.l0 kq l0 x3_1 t419 x5_1 = some r) ∧ Aside0 (kq ≤ k) ∧ Aside0 (Kd.R (Kd.int .i64) 3 w' w.heap.size (fun k_ => some k_ ≠ (v420 : Value).ownBlock) v3 x3_1) ∧ Aside0 (Kd.R (Kd.int .i64) 3 w' w.heap.size (fun k_ => some k_ ≠ (v3 : Value).ownBlock) v420 t419) ∧ Aside0 (Below w.heap.size w w'))
 case atStart => exact ⟨(y416), (0), (by rg_), H', ⟨Nat.le_refl _⟩, ⟨by ra_; exact Kd.R_mono HO418.out (fun _ hk => hk.2)⟩, ⟨by ra_; exact Kd.R_mono HO421.out (fun _ hk => hk.2)⟩, ⟨by bw_ HB⟩⟩
 case round =>
  clear H'
  try clear p2
  try clear c4
  obtain ⟨x3_1, x5_1, rfl, HA, HK1, HO_3, HO_4, HB⟩ := hrel
  cases gk with
  | zero => exact absurd HA.out (by simp [spec_AtPowers.l0])
  | succ k1 =>
   have H := HA.out
   clear HA
   simp only [spec_AtPowers.l0] at H
   by_cases c6 : x5_1 < (t419.length : Int)
   ·rw [if_pos c6] at H
    have c6b0 : decide (x5_1 < (t419.length : Int)) = true := decide_eq_true c6
    clear c6
    replace H := Option.bind_eq_some_iff.mp H
    obtain ⟨t422, A70, H⟩ := H
    replace H : (if t422 = true then (if 0 ≤ x5_1 then (if 0 ≤ (wrap64 ((rd t419 x5_1) - 1)) then (if (wrap64 ((rd t419 x5_1) - 1)) < (l0.length : Int) then (if x3_1.length < 17592186044416 then (spec_AtPowers.l0 k1 l0 (x3_1 ++ [rd l0 (wrap64 ((rd t419 x5_1) - 1))]) t419 (wrap64 (x5_1 + 1))) else (none)) else (none)) else (none)) else (none)) else (some x3_1)) = some r := H
    have A7 := Aside0.mk A70
    clear A70
    by_cases c8 : t422 = true
    ·subst c8
     have H1 : (if 0 ≤ x5_1 then (if 0 ≤ (wrap64 ((rd t419 x5_1) - 1)) then (if (wrap64 ((rd t419 x5_1) - 1)) < (l0.length : Int) then (if x3_1.length < 17592186044416 then (spec_AtPowers.l0 k1 l0 (x3_1 ++ [rd l0 (wrap64 ((rd t419 x5_1) - 1))]) t419 (wrap64 (x5_1 + 1))) else (none)) else (none)) else (none)) else (none)) = some r := by rw [if_pos rfl] at H; exact H
     clear H
     have H := H1
     clear H1
     by_cases c9 : 0 ≤ x5_1
     ·rw [if_pos c9] at H
      have c9b0 : decide (0 ≤ x5_1) = true := decide_eq_true c9
      clear c9
      obtain ⟨ji10, hji10⟩ : ∃ j_ : Int, (wrap64 ((rd t419 x5_1) - 1)) = j_ := ⟨_, rfl⟩
      replace H : (if 0 ≤ (ji10) then (if (ji10) < (l0.length : Int) then (if x3_1.length < 17592186044416 then (spec_AtPowers.l0 k1 l0 (x3_1 ++ [rd l0 (ji10)]) t419 (wrap64 (x5_1 + 1))) else (none)) else (none)) else (none)) = some r := by first | (rw [hji10] at H; exact H) | (simp only [hji10] at H ⊢; exact H)
      (try rw [hji10] at A7)
      have hji10w : (IntKind.i64.wrap ((rd t419 x5_1) - 1)) = ji10 := (i64_w _).trans hji10
      by_cases c11 : 0 ≤ (ji10)
      ·rw [if_pos c11] at H
       have c11b0 : decide (0 ≤ (ji10)) = true := decide_eq_true c11
       clear c11
       by_cases c12 : (ji10) < (l0.length : Int)
       ·rw [if_pos c12] at H
        have c12b0 : decide ((ji10) < (l0.length : Int)) = true := decide_eq_true c12
        clear c12
        by_cases c13 : x3_1.length < 17592186044416
        ·rw [if_pos c13] at H
         have LMc13 := Aside0.mk c13
         clear c13
         obtain ⟨y425, hy425⟩ : ∃ y_ : List Int, y_ = (x3_1 ++ [rd l0 (ji10)]) := ⟨_, rfl⟩
         replace H : (spec_AtPowers.l0 k1 l0 y425 t419 (wrap64 (x5_1 + 1))) = some r := by first | (rw [hy425]; with_reducible exact H) | (have H2_ := (Option.bind_some _ _).symm.trans H; rw [hy425]; with_reducible exact H2_) | (have H2_ := (Option.bind_some _ _).symm.trans H; with_reducible exact H2_) | with_reducible exact H | (rw [hy425]; exact H) | exact H
         have Ny425 := Aside0.mk hy425
         clear hy425
         have H' := Aside0.mk H
         clear H
         obtain ⟨Ao14, co14, eo14⟩ := Kd.R_slice HO_4.out
         subst eo14
         go_wp2_with (first | (go_at_call 64; (with_reducible refine (spec_RowOk.calls k1 _ _ l0 true _ ?side1 ?side2 A7.out).mono ?_); (case side1 => repeat (first | exact (Kd.C_below HR0.out HB.out) | ca_)); (case side2 => exact HC0.out); rintro e w' ⟨rfl, ⟨nd, rfl⟩⟩; have p423 : 0 ≤ (x5_1 : Int) := of_decide_eq_true (by as_); have q423 : x5_1 < (t419.length : Int) := of_decide_eq_true (by as_); obtain ⟨ad423, e423, hx423_0⟩ := Kd.at_int (Kd.R_reads' HO_4.out).2.2 x5_1 p423 q423; cases e423; replace p423 := eq_true p423; replace q423 := eq_true q423; have p424 : 0 ≤ ((ji10) : Int) := of_decide_eq_true (by as_); have q424 : (ji10) < (l0.length : Int) := of_decide_eq_true (by as_); obtain ⟨ad424, e424, hx424_0⟩ := Kd.at_int HR0.out (ji10) p424 q424; cases e424; replace hx424_0 := (HB.out.cell (World.block_lt_of_cell? w _ hx424_0)).trans hx424_0; replace p424 := eq_true p424; replace q424 := eq_true q424) | ((with_reducible refine gate_builtin (b := .append) (xs := #[.tmp 18, .tmp 27]) rfl ?_); at_builtin; refine Kd.R_append (Kd.int .i64) (w0 := w) w.heap.size rfl (.tmp 18) (.tmp 27) 23 3 (.int .i64 0) 8 rfl Try.underlying23 info3 rfl (by decide) (by omega) u3 x3_1 (rd l0 (ji10)) [.int .i64 (rd l0 (ji10))] (fun k_ => some k_ ≠ (.slice (some ad423) t419.length co14 : Value).ownBlock) (fun _ => False) rfl rfl ?aP (fun _ hk => hk.elim) ?aF ?aO ?aB ?aS ?aL ?_; (case aP => exact rfl); (case aB => exact (by bw_ HB)); (case aF => exact (fun k_ hk => Kd.fresh' (Kd.R_lt (by ra_; exact HO_4.out)) k_ hk)); (case aO => exact (by ra_; exact HO_3.out)); (case aS => exact (below_size (by bw_ HB))); (case aL => have := LMc13.out; omega); intro v426 w15 ho hb hg hat; rw [← Ny425.out] at ho; have n0_ := Aside0.mk (Kd.R_after (ok := (fun _ => True)) (by ra_; exact Kd.R_mono HO_4.out (fun _ hk => ⟨trivial, hk⟩)) hg hat); have n1_ := Aside0.mk (hb); have n2_ := Aside0.mk (ho); clear HO_4; clear HB; clear HO_3; have HO_4 := n0_; have HB := n1_; have HO427 := n2_; clear n0_ n1_ n2_; clear ho hb hg hat))
         go_roundg k1
         case measure => have := HK1.out; omega
         case rel => exact ⟨(y425), (wrap64 (x5_1 + 1)), (by rg_), H', ⟨by have := HK1.out; omega⟩, ⟨by ra_; exact HO427.out⟩, ⟨by ra_; exact Kd.R_mono HO_4.out (fun _ hk => hk.2)⟩, ⟨by bw_ HB⟩⟩
        ·rw [if_neg c13] at H
         exact absurd H (by simp)
       ·rw [if_neg c12] at H
        exact absurd H (by simp)
      ·rw [if_neg c11] at H
       exact absurd H (by simp)
     ·rw [if_neg c9] at H
      exact absurd H (by simp)
    ·replace c8 := Bool.eq_false_iff.mpr c8
     subst c8
     have H1 : (some x3_1) = some r := by rw [if_neg (show ¬ (false = true) by decide)] at H; exact H
     clear H
     have H := H1
     clear H1
     obtain rfl := Option.some.inj H
     obtain ⟨Ao16, co16, eo16⟩ := Kd.R_slice HO_4.out
     subst eo16
     go_wp2_with (first | (go_at_call 64; (with_reducible refine (spec_RowOk.calls k1 _ _ l0 false _ ?side1 ?side2 A7.out).mono ?_); (case side1 => repeat (first | exact (Kd.C_below HR0.out HB.out) | ca_)); (case side2 => exact HC0.out); rintro e w' ⟨rfl, ⟨nd, rfl⟩⟩))
     go_ret
     exact ⟨_, by rf_, by ra_; exact Kd.R_mono HO_3.out (fun _ hk => trivial), by bw_ HB⟩
   ·rw [if_neg c6] at H
    have c6b0 : decide (x5_1 < (t419.length : Int)) = false := decide_eq_false c6
    clear c6
    obtain rfl := Option.some.inj H
    obtain ⟨Ao17, co17, eo17⟩ := Kd.R_slice HO_4.out
    subst eo17
    go_wp2
    go_ret
    exact ⟨_, by rf_, by ra_; exact Kd.R_mono HO_3.out (fun _ hk => trivial), by bw_ HB⟩

/-! ### impl_PrimePowers: function 49 -/
def impl_PrimePowers.f (k : Nat) (a0 : Int) : Option (List Int) := if a0 < 1 then (some ([] : List Int)) else (if a0 > 24 then (some ([] : List Int)) else ((impl_primePowers.f k a0).bind fun t428 => (some t428)))
theorem impl_PrimePowers.mono : ∀ a0 k, LeO (impl_PrimePowers.f k a0) (impl_PrimePowers.f (k + 1) a0) := by
 intro a0 k
 unfold impl_PrimePowers.f
 repeat' first
   | (with_reducible exact impl_primePowers.mono _ _)
   | (with_reducible exact LeO.refl _)
   | (with_reducible exact LeO.none _)
   | (with_reducible refine LeO.ite ?_ ?_)
   | (with_reducible refine LeO.bind ?_ (fun _ => ?_))
   | exact impl_primePowers.mono _ _
   | exact LeO.none _
   | refine LeO.ite ?_ ?_
   | refine LeO.bind ?_ (fun _ => ?_)
set_option maxHeartbeats 8000000 in
set_option maxRecDepth 100000 in
theorem impl_PrimePowers.calls (k : Nat) (a0 : Int) (r : List Int) (w : World) (h : impl_PrimePowers.f k a0 = some r) :
  Calls Try.prog 49 #[.int .i64 a0] w fun e w' => ∃ v0_ : Value, e = .returned (v0_) ∧ Kd.R (Kd.int .i64) 3 w' w.heap.size (fun _ => True) v0_ r ∧ Below w.heap.size w w' := by
 have HB := Aside0.mk (Below.refl w.heap.size w)
 have H : (if a0 < 1 then (some ([] : List Int)) else (if a0 > 24 then (some ([] : List Int)) else ((impl_primePowers.f k a0).bind fun t428 => (some t428)))) = some r := h
 clear h
 by_cases c2 : a0 < 1
 ·rw [if_pos c2] at H
  have c2b0 : decide (a0 < 1) = true := decide_eq_true c2
  clear c2
  obtain rfl := Option.some.inj H
  go_enter Try.func49, Try.ntmps49
  go_wp2
  go_ret
  exact ⟨_, by rf_, by first | exact Kd.R_nil _ _ _ _ _ | exact Kd.N_nil _ _ _ _ _ | exact Kd.V_nil _ _ _ _ _ | exact Kd.Q_nil _ _ _ _ _ | exact Kd.S_nil _ _ _ _ _, by bw_ HB⟩
 ·rw [if_neg c2] at H
  have c2b0 : decide (a0 < 1) = false := decide_eq_false c2
  clear c2
  by_cases c3 : a0 > 24
  ·rw [if_pos c3] at H
   have c3b0 : decide (24 < a0) = true := decide_eq_true c3
   clear c3
   obtain rfl := Option.some.inj H
   go_enter Try.func49, Try.ntmps49
   go_wp2
   go_ret
   exact ⟨_, by rf_, by first | exact Kd.R_nil _ _ _ _ _ | exact Kd.N_nil _ _ _ _ _ | exact Kd.V_nil _ _ _ _ _ | exact Kd.Q_nil _ _ _ _ _ | exact Kd.S_nil _ _ _ _ _, by bw_ HB⟩
  ·rw [if_neg c3] at H
   have c3b0 : decide (24 < a0) = false := decide_eq_false c3
   clear c3
   replace H := Option.bind_eq_some_iff.mp H
   obtain ⟨t428, A40, H⟩ := H
   replace H : (some t428) = some r := H
   have A4 := Aside0.mk A40
   clear A40
   obtain rfl := Option.some.inj H
   go_enter Try.func49, Try.ntmps49
   go_wp2_with (first | ((with_reducible refine gate_callee (f := 78) rfl ?_); refine goesL_ (some 10) rfl rfl Try.func78 (by kernel_rfl) rfl #[.int .i64 a0] rfl (by mp_) ?_; (with_reducible refine (impl_primePowers.calls k a0 t428 _ A4.out).mono ?_); rintro e w5 ⟨v429, rfl, ho0, hb⟩; refine ⟨_, rfl, ?_⟩; have n0_ := Aside0.mk (Kd.R_lower ho0 (below_size (by bw_ HB))); have n1_ := Aside0.mk (below_step (by bw_ HB) hb); clear HB; have HO430 := n0_; have HB := n1_; clear n0_ n1_; (try clear hb); (try clear hb2); (try clear hk); (try clear hi); (try clear ho0)))
   go_ret
   exact ⟨_, by rf_, by ra_; exact HO430.out, by bw_ HB⟩

/-! ### laws_FnAtPowers: function 12 -/
def laws_FnAtPowers.f (k : Nat) (l0 : List Int) : Option (Bool) := if (l0.length : Int) > 1048576 then (some true) else ((spec_DrawAtPowers.f k l0).bind fun t431 => ((impl_AtPowers.f k t431).bind fun t434 => ((spec_AtPowers.f k t431).bind fun t437 => ((laws_sameInts.f k t434 t437).bind fun t440 => (if t440 = true then ((impl_NamedRow.f k 2).bind fun t441 => ((impl_AtPowers.f k t441).bind fun t444 => ((impl_PrimePowers.f k 24).bind fun t447 => ((laws_sameInts.f k t444 t447).bind fun t450 => (if t450 = true then ((impl_RowOk.f k t431).bind fun t451 => (if (((t434.length : Int) == 0) == (!t451)) = true then ((laws_alive.f).bind fun t452 => (some t452)) else (some false))) else (some false)))))) else (some false))))))
theorem laws_FnAtPowers.mono : ∀ a0 k, LeO (laws_FnAtPowers.f k a0) (laws_FnAtPowers.f (k + 1) a0) := by
 intro a0 k
 unfold laws_FnAtPowers.f
 repeat' first
   | (with_reducible exact impl_AtPowers.mono _ _)
   | (with_reducible exact impl_NamedRow.mono _ _)
   | (with_reducible exact impl_PrimePowers.mono _ _)
   | (with_reducible exact impl_RowOk.mono _ _)
   | (with_reducible exact laws_sameInts.mono _ _ _)
   | (with_reducible exact spec_AtPowers.mono _ _)
   | (with_reducible exact spec_DrawAtPowers.mono _ _)
   | (with_reducible exact LeO.refl _)
   | (with_reducible exact LeO.none _)
   | (with_reducible refine LeO.ite ?_ ?_)
   | (with_reducible refine LeO.bind ?_ (fun _ => ?_))
   | exact impl_AtPowers.mono _ _
   | exact impl_NamedRow.mono _ _
   | exact impl_PrimePowers.mono _ _
   | exact impl_RowOk.mono _ _
   | exact laws_sameInts.mono _ _ _
   | exact spec_AtPowers.mono _ _
   | exact spec_DrawAtPowers.mono _ _
   | exact LeO.none _
   | refine LeO.ite ?_ ?_
   | refine LeO.bind ?_ (fun _ => ?_)
set_option maxHeartbeats 8000000 in
set_option maxRecDepth 100000 in
theorem laws_FnAtPowers.calls (k : Nat) (A0 : Option Addr) (c0 : Nat) (l0 : List Int) (r : Bool) (w : World) (hr0 : Kd.C (Kd.int .u8) w A0 l0.length l0) (hc0 : l0.length ≤ c0) (h : laws_FnAtPowers.f k l0 = some r) :
  Calls Try.prog 12 #[.slice A0 l0.length c0] w fun e w' => e = .returned (.bool r) ∧ Below w.heap.size w w' := by
 have HR0 := Aside0.mk hr0
 have HC0 := Aside0.mk hc0
 clear hr0 hc0
 have HB := Aside0.mk (Below.refl w.heap.size w)
 have H : (if (l0.length : Int) > 1048576 then (some true) else ((spec_DrawAtPowers.f k l0).bind fun t431 => ((impl_AtPowers.f k t431).bind fun t434 => ((spec_AtPowers.f k t431).bind fun t437 => ((laws_sameInts.f k t434 t437).bind fun t440 => (if t440 = true then ((impl_NamedRow.f k 2).bind fun t441 => ((impl_AtPowers.f k t441).bind fun t444 => ((impl_PrimePowers.f k 24).bind fun t447 => ((laws_sameInts.f k t444 t447).bind fun t450 => (if t450 = true then ((impl_RowOk.f k t431).bind fun t451 => (if (((t434.length : Int) == 0) == (!t451)) = true then ((laws_alive.f).bind fun t452 => (some t452)) else (some false))) else (some false)))))) else (some false))))))) = some r := h
 clear h
 by_cases c2 : (l0.length : Int) > 1048576
 ·rw [if_pos c2] at H
  have c2b0 : decide (1048576 < (l0.length : Int)) = true := decide_eq_true c2
  have c2b1 : decide (1048576 < l0.length) = true := decide_eq_true (by omega)
  clear c2
  obtain rfl := Option.some.inj H
  go_enter Try.func12, Try.ntmps12
  go_wp2
  go_ret
  exact ⟨by rf_, by bw_ HB⟩
 ·rw [if_neg c2] at H
  have c2b0 : decide (1048576 < (l0.length : Int)) = false := decide_eq_false c2
  have c2b1 : decide (1048576 < l0.length) = false := decide_eq_false (by omega)
  clear c2
  replace H := Option.bind_eq_some_iff.mp H
  obtain ⟨t431, A30, H⟩ := H
  replace H : ((impl_AtPowers.f k t431).bind fun t434 => ((spec_AtPowers.f k t431).bind fun t437 => ((laws_sameInts.f k t434 t437).bind fun t440 => (if t440 = true then ((impl_NamedRow.f k 2).bind fun t441 => ((impl_AtPowers.f k t441).bind fun t444 => ((impl_PrimePowers.f k 24).bind fun t447 => ((laws_sameInts.f k t444 t447).bind fun t450 => (if t450 = true then ((impl_RowOk.f k t431).bind fun t451 => (if (((t434.length : Int) == 0) == (!t451)) = true then ((laws_alive.f).bind fun t452 => (some t452)) else (some false))) else (some false)))))) else (some false))))) = some r := H
  have A3 := Aside0.mk A30
  clear A30
  replace H := Option.bind_eq_some_iff.mp H
  obtain ⟨t434, A40, H⟩ := H
  replace H : ((spec_AtPowers.f k t431).bind fun t437 => ((laws_sameInts.f k t434 t437).bind fun t440 => (if t440 = true then ((impl_NamedRow.f k 2).bind fun t441 => ((impl_AtPowers.f k t441).bind fun t444 => ((impl_PrimePowers.f k 24).bind fun t447 => ((laws_sameInts.f k t444 t447).bind fun t450 => (if t450 = true then ((impl_RowOk.f k t431).bind fun t451 => (if (((t434.length : Int) == 0) == (!t451)) = true then ((laws_alive.f).bind fun t452 => (some t452)) else (some false))) else (some false)))))) else (some false)))) = some r := H
  have A4 := Aside0.mk A40
  clear A40
  replace H := Option.bind_eq_some_iff.mp H
  obtain ⟨t437, A50, H⟩ := H
  replace H : ((laws_sameInts.f k t434 t437).bind fun t440 => (if t440 = true then ((impl_NamedRow.f k 2).bind fun t441 => ((impl_AtPowers.f k t441).bind fun t444 => ((impl_PrimePowers.f k 24).bind fun t447 => ((laws_sameInts.f k t444 t447).bind fun t450 => (if t450 = true then ((impl_RowOk.f k t431).bind fun t451 => (if (((t434.length : Int) == 0) == (!t451)) = true then ((laws_alive.f).bind fun t452 => (some t452)) else (some false))) else (some false)))))) else (some false))) = some r := H
  have A5 := Aside0.mk A50
  clear A50
  replace H := Option.bind_eq_some_iff.mp H
  obtain ⟨t440, A60, H⟩ := H
  replace H : (if t440 = true then ((impl_NamedRow.f k 2).bind fun t441 => ((impl_AtPowers.f k t441).bind fun t444 => ((impl_PrimePowers.f k 24).bind fun t447 => ((laws_sameInts.f k t444 t447).bind fun t450 => (if t450 = true then ((impl_RowOk.f k t431).bind fun t451 => (if (((t434.length : Int) == 0) == (!t451)) = true then ((laws_alive.f).bind fun t452 => (some t452)) else (some false))) else (some false)))))) else (some false)) = some r := H
  have A6 := Aside0.mk A60
  clear A60
  by_cases c7 : t440 = true
  ·subst c7
   have H1 : ((impl_NamedRow.f k 2).bind fun t441 => ((impl_AtPowers.f k t441).bind fun t444 => ((impl_PrimePowers.f k 24).bind fun t447 => ((laws_sameInts.f k t444 t447).bind fun t450 => (if t450 = true then ((impl_RowOk.f k t431).bind fun t451 => (if (((t434.length : Int) == 0) == (!t451)) = true then ((laws_alive.f).bind fun t452 => (some t452)) else (some false))) else (some false)))))) = some r := by rw [if_pos rfl] at H; exact H
   clear H
   have H := H1
   clear H1
   replace H := Option.bind_eq_some_iff.mp H
   obtain ⟨t441, A80, H⟩ := H
   replace H : ((impl_AtPowers.f k t441).bind fun t444 => ((impl_PrimePowers.f k 24).bind fun t447 => ((laws_sameInts.f k t444 t447).bind fun t450 => (if t450 = true then ((impl_RowOk.f k t431).bind fun t451 => (if (((t434.length : Int) == 0) == (!t451)) = true then ((laws_alive.f).bind fun t452 => (some t452)) else (some false))) else (some false))))) = some r := H
   have A8 := Aside0.mk A80
   clear A80
   replace H := Option.bind_eq_some_iff.mp H
   obtain ⟨t444, A90, H⟩ := H
   replace H : ((impl_PrimePowers.f k 24).bind fun t447 => ((laws_sameInts.f k t444 t447).bind fun t450 => (if t450 = true then ((impl_RowOk.f k t431).bind fun t451 => (if (((t434.length : Int) == 0) == (!t451)) = true then ((laws_alive.f).bind fun t452 => (some t452)) else (some false))) else (some false)))) = some r := H
   have A9 := Aside0.mk A90
   clear A90
   replace H := Option.bind_eq_some_iff.mp H
   obtain ⟨t447, A100, H⟩ := H
   replace H : ((laws_sameInts.f k t444 t447).bind fun t450 => (if t450 = true then ((impl_RowOk.f k t431).bind fun t451 => (if (((t434.length : Int) == 0) == (!t451)) = true then ((laws_alive.f).bind fun t452 => (some t452)) else (some false))) else (some false))) = some r := H
   have A10 := Aside0.mk A100
   clear A100
   replace H := Option.bind_eq_some_iff.mp H
   obtain ⟨t450, A110, H⟩ := H
   replace H : (if t450 = true then ((impl_RowOk.f k t431).bind fun t451 => (if (((t434.length : Int) == 0) == (!t451)) = true then ((laws_alive.f).bind fun t452 => (some t452)) else (some false))) else (some false)) = some r := H
   have A11 := Aside0.mk A110
   clear A110
   by_cases c12 : t450 = true
   ·subst c12
    have H1 : ((impl_RowOk.f k t431).bind fun t451 => (if (((t434.length : Int) == 0) == (!t451)) = true then ((laws_alive.f).bind fun t452 => (some t452)) else (some false))) = some r := by rw [if_pos rfl] at H; exact H
    clear H
    have H := H1
    clear H1
    replace H := Option.bind_eq_some_iff.mp H
    obtain ⟨t451, A130, H⟩ := H
    replace H : (if (((t434.length : Int) == 0) == (!t451)) = true then ((laws_alive.f).bind fun t452 => (some t452)) else (some false)) = some r := H
    have A13 := Aside0.mk A130
    clear A130
    by_cases c14 : (((t434.length : Int) == 0) == (!t451)) = true
    ·rw [if_pos c14] at H
     have c14b0 : (((t434.length : Int) == 0) == (!t451)) = true := c14
     (try (have c14b1 : decide (((t434.length : Int) == 0) = (!t451)) = true := by simpa using c14))
     (try (have c14b2 : (((t434.length : Int) == 0) == (!t451)) = true := by simpa using c14))
     clear c14
     replace H := Option.bind_eq_some_iff.mp H
     obtain ⟨t452, A150, H⟩ := H
     replace H : (some t452) = some r := H
     have A15 := Aside0.mk A150
     clear A150
     obtain rfl := Option.some.inj H
     go_enter Try.func12, Try.ntmps12
     go_wp2_with (first | ((with_reducible refine gate_callee (f := 46) rfl ?_); refine goesL_ (some 9) rfl rfl Try.func46 (by kernel_rfl) rfl #[.slice A0 l0.length c0] rfl (by mp_) ?_; (with_reducible refine (spec_DrawAtPowers.calls k _ _ l0 t431 _ ?side1 ?side2 A3.out).mono ?_); (case side1 => repeat (first | exact HR0.out | ca_)); (case side2 => exact HC0.out); rintro e w16 ⟨v432, rfl, ho0, hb⟩; refine ⟨_, rfl, ?_⟩; have n0_ := Aside0.mk (Kd.Q_lower ho0 (below_size (by bw_ HB))); have n1_ := Aside0.mk (below_step (by bw_ HB) hb); clear HB; have HO433 := n0_; have HB := n1_; clear n0_ n1_; (try clear hb); (try clear hb2); (try clear hk); (try clear hi); (try clear ho0); obtain ⟨Ao17, co17, eo17, _⟩ := Kd.Q_slice HO433.out; subst eo17) | ((with_reducible refine gate_callee (f := 47) rfl ?_); refine goesL_ (some 11) rfl rfl Try.func47 (by kernel_rfl) rfl #[.slice Ao17 t431.length co17] rfl (by mp_) ?_; (with_reducible refine (impl_AtPowers.calls k _ _ t431 t434 _ ?side1 ?side2 A4.out).mono ?_); (case side1 => repeat (first | exact (Kd.Q_reads' HO433.out).2.2 | ca_)); (case side2 => exact (Kd.Q_reads' HO433.out).2.1); rintro e w18 ⟨v435, rfl, ho0, hb⟩; refine ⟨_, rfl, ?_⟩; have n0_ := Aside0.mk (Kd.Q_elder' (by qa_; exact HO433.out) (Kd.R_base ho0) hb); have n1_ := Aside0.mk (Kd.R_lower (Kd.R_new' ho0 (Kd.Q_lt (by qa_; exact HO433.out))) (below_size (by bw_ HB))); have n2_ := Aside0.mk (below_step (by bw_ HB) hb); clear HO433; clear HB; have HO433 := n0_; have HO436 := n1_; have HB := n2_; clear n0_ n1_ n2_; (try clear hb); (try clear hb2); (try clear hk); (try clear hi); (try clear ho0)) | ((with_reducible refine gate_callee (f := 48) rfl ?_); refine goesL_ (some 14) rfl rfl Try.func48 (by kernel_rfl) rfl #[.slice Ao17 t431.length co17] rfl (by mp_) ?_; (with_reducible refine (spec_AtPowers.calls k _ _ t431 t437 _ ?side1 ?side2 A5.out).mono ?_); (case side1 => repeat (first | exact (Kd.Q_reads' HO433.out).2.2 | ca_)); (case side2 => exact (Kd.Q_reads' HO433.out).2.1); rintro e w19 ⟨v438, rfl, ho0, hb⟩; refine ⟨_, rfl, ?_⟩; have n0_ := Aside0.mk (Kd.Q_elder' (by qa_; exact HO433.out) (Kd.R_base ho0) hb); have n1_ := Aside0.mk (Kd.R_elder' (by ra_; exact HO436.out) (Kd.R_base ho0) hb); have n2_ := Aside0.mk (Kd.R_lower (Kd.R_new' (Kd.R_new' ho0 (Kd.Q_lt (by qa_; exact HO433.out))) (Kd.R_lt (by ra_; exact HO436.out))) (below_size (by bw_ HB))); have n3_ := Aside0.mk (below_step (by bw_ HB) hb); clear HO433; clear HO436; clear HB; have HO433 := n0_; have HO436 := n1_; have HO439 := n2_; have HB := n3_; clear n0_ n1_ n2_ n3_; (try clear hb); (try clear hb2); (try clear hk); (try clear hi); (try clear ho0); obtain ⟨Ao20, co20, eo20⟩ := Kd.R_slice HO436.out; subst eo20; obtain ⟨Ao21, co21, eo21⟩ := Kd.R_slice HO439.out; subst eo21) | ((with_reducible refine gate_callee (f := 17) rfl ?_); refine goesL_ (some 15) rfl rfl Try.func17 (by kernel_rfl) rfl #[.slice Ao20 t434.length co20, .slice Ao21 t437.length co21] rfl (by mp_) ?_; (with_reducible refine (laws_sameInts.calls k _ _ t434 _ _ t437 true _ ?side1 ?side2 ?side3 ?side4 A6.out).mono ?_); (case side1 => repeat (first | exact (Kd.R_reads' HO436.out).2.2 | ca_)); (case side2 => exact (Kd.R_reads' HO436.out).2.1); (case side3 => repeat (first | exact (Kd.R_reads' HO439.out).2.2 | ca_)); (case side4 => exact (Kd.R_reads' HO439.out).2.1); rintro e w' ⟨rfl, ⟨nd, rfl⟩⟩; refine ⟨_, rfl, ?_⟩) | ((with_reducible refine gate_callee (f := 30) rfl ?_); refine goesL_ (some 17) rfl rfl Try.func30 (by kernel_rfl) rfl #[.int .i64 2] rfl (by mp_) ?_; (with_reducible refine (impl_NamedRow.calls k 2 t441 _ A8.out).mono ?_); rintro e w22 ⟨v442, rfl, ho0, hb⟩; refine ⟨_, rfl, ?_⟩; have n0_ := Aside0.mk (Kd.Q_elder' (by qa_; exact HO433.out) (Kd.R_base ho0) hb); have n1_ := Aside0.mk (Kd.R_elder' (by ra_; exact HO436.out) (Kd.R_base ho0) hb); have n2_ := Aside0.mk (Kd.R_elder' (by ra_; exact HO439.out) (Kd.R_base ho0) hb); have n3_ := Aside0.mk (Kd.R_lower (Kd.R_new' (Kd.R_new' (Kd.R_new' ho0 (Kd.Q_lt (by qa_; exact HO433.out))) (Kd.R_lt (by ra_; exact HO436.out))) (Kd.R_lt (by ra_; exact HO439.out))) (below_size (by bw_ HB))); have n4_ := Aside0.mk (below_step (by bw_ HB) hb); clear HO433; clear HO436; clear HO439; clear HB; have HO433 := n0_; have HO436 := n1_; have HO439 := n2_; have HO443 := n3_; have HB := n4_; clear n0_ n1_ n2_ n3_ n4_; (try clear hb); (try clear hb2); (try clear hk); (try clear hi); (try clear ho0); obtain ⟨Ao23, co23, eo23⟩ := Kd.R_slice HO443.out; subst eo23) | ((with_reducible refine gate_callee (f := 47) rfl ?_); refine goesL_ (some 18) rfl rfl Try.func47 (by kernel_rfl) rfl #[.slice Ao23 t441.length co23] rfl (by mp_) ?_; (with_reducible refine (impl_AtPowers.calls k _ _ t441 t444 _ ?side1 ?side2 A9.out).mono ?_); (case side1 => repeat (first | exact (Kd.R_reads' HO443.out).2.2 | ca_)); (case side2 => exact (Kd.R_reads' HO443.out).2.1); rintro e w24 ⟨v445, rfl, ho0, hb⟩; refine ⟨_, rfl, ?_⟩; have n0_ := Aside0.mk (Kd.Q_elder' (by qa_; exact HO433.out) (Kd.R_base ho0) hb); have n1_ := Aside0.mk (Kd.R_elder' (by ra_; exact HO436.out) (Kd.R_base ho0) hb); have n2_ := Aside0.mk (Kd.R_elder' (by ra_; exact HO439.out) (Kd.R_base ho0) hb); have n3_ := Aside0.mk (Kd.R_elder' (by ra_; exact HO443.out) (Kd.R_base ho0) hb); have n4_ := Aside0.mk (Kd.R_lower (Kd.R_new' (Kd.R_new' (Kd.R_new' (Kd.R_new' ho0 (Kd.Q_lt (by qa_; exact HO433.out))) (Kd.R_lt (by ra_; exact HO436.out))) (Kd.R_lt (by ra_; exact HO439.out))) (Kd.R_lt (by ra_; exact HO443.out))) (below_size (by bw_ HB))); have n5_ := Aside0.mk (below_step (by bw_ HB) hb); clear HO433; clear HO436; clear HO439; clear HO443; clear HB; have HO433 := n0_; have HO436 := n1_; have HO439 := n2_; have HO443 := n3_; have HO446 := n4_; have HB := n5_; clear n0_ n1_ n2_ n3_ n4_ n5_; (try clear hb); (try clear hb2); (try clear hk); (try clear hi); (try clear ho0)) | ((with_reducible refine gate_callee (f := 49) rfl ?_); refine goesL_ (some 19) rfl rfl Try.func49 (by kernel_rfl) rfl #[.int .i64 24] rfl (by mp_) ?_; (with_reducible refine (impl_PrimePowers.calls k 24 t447 _ A10.out).mono ?_); rintro e w25 ⟨v448, rfl, ho0, hb⟩; refine ⟨_, rfl, ?_⟩; have n0_ := Aside0.mk (Kd.Q_elder' (by qa_; exact HO433.out) (Kd.R_base ho0) hb); have n1_ := Aside0.mk (Kd.R_elder' (by ra_; exact HO436.out) (Kd.R_base ho0) hb); have n2_ := Aside0.mk (Kd.R_elder' (by ra_; exact HO439.out) (Kd.R_base ho0) hb); have n3_ := Aside0.mk (Kd.R_elder' (by ra_; exact HO443.out) (Kd.R_base ho0) hb); have n4_ := Aside0.mk (Kd.R_elder' (by ra_; exact HO446.out) (Kd.R_base ho0) hb); have n5_ := Aside0.mk (Kd.R_lower (Kd.R_new' (Kd.R_new' (Kd.R_new' (Kd.R_new' (Kd.R_new' ho0 (Kd.Q_lt (by qa_; exact HO433.out))) (Kd.R_lt (by ra_; exact HO436.out))) (Kd.R_lt (by ra_; exact HO439.out))) (Kd.R_lt (by ra_; exact HO443.out))) (Kd.R_lt (by ra_; exact HO446.out))) (below_size (by bw_ HB))); have n6_ := Aside0.mk (below_step (by bw_ HB) hb); clear HO433; clear HO436; clear HO439; clear HO443; clear HO446; clear HB; have HO433 := n0_; have HO436 := n1_; have HO439 := n2_; have HO443 := n3_; have HO446 := n4_; have HO449 := n5_; have HB := n6_; clear n0_ n1_ n2_ n3_ n4_ n5_ n6_; (try clear hb); (try clear hb2); (try clear hk); (try clear hi); (try clear ho0); obtain ⟨Ao26, co26, eo26⟩ := Kd.R_slice HO446.out; subst eo26; obtain ⟨Ao27, co27, eo27⟩ := Kd.R_slice HO449.out; subst eo27) | ((with_reducible refine gate_callee (f := 17) rfl ?_); refine goesL_ (some 20) rfl rfl Try.func17 (by kernel_rfl) rfl #[.slice Ao26 t444.length co26, .slice Ao27 t447.length co27] rfl (by mp_) ?_; (with_reducible refine (laws_sameInts.calls k _ _ t444 _ _ t447 true _ ?side1 ?side2 ?side3 ?side4 A11.out).mono ?_); (case side1 => repeat (first | exact (Kd.R_reads' HO446.out).2.2 | ca_)); (case side2 => exact (Kd.R_reads' HO446.out).2.1); (case side3 => repeat (first | exact (Kd.R_reads' HO449.out).2.2 | ca_)); (case side4 => exact (Kd.R_reads' HO449.out).2.1); rintro e w' ⟨rfl, ⟨nd, rfl⟩⟩; refine ⟨_, rfl, ?_⟩) | (go_at_call 21; (with_reducible refine (impl_RowOk.calls k _ _ t431 t451 _ ?side1 ?side2 A13.out).mono ?_); (case side1 => repeat (first | exact (Kd.Q_reads' HO433.out).2.2 | ca_)); (case side2 => exact (Kd.Q_reads' HO433.out).2.1); rintro e w' ⟨rfl, ⟨nd, rfl⟩⟩) | (go_at_call 20; (with_reducible refine (laws_alive.calls  t452 _ A15.out).mono ?_); rintro e w' ⟨rfl, ⟨nd, rfl⟩⟩))
     go_ret
     exact ⟨by rf_, by bw_ HB⟩
    ·rw [if_neg c14] at H
     have c14b0 : (((t434.length : Int) == 0) == (!t451)) = false := by simpa using c14
     (try (have c14b1 : decide (((t434.length : Int) == 0) = (!t451)) = false := by simpa using c14))
     (try (have c14b2 : (((t434.length : Int) == 0) == (!t451)) = false := by simpa using c14))
     (try (have c14b3 : ¬ (((t434.length : Int) == 0) = (!t451)) := by simpa using c14))
     clear c14
     obtain rfl := Option.some.inj H
     go_enter Try.func12, Try.ntmps12
     go_wp2_with (first | ((with_reducible refine gate_callee (f := 46) rfl ?_); refine goesL_ (some 9) rfl rfl Try.func46 (by kernel_rfl) rfl #[.slice A0 l0.length c0] rfl (by mp_) ?_; (with_reducible refine (spec_DrawAtPowers.calls k _ _ l0 t431 _ ?side1 ?side2 A3.out).mono ?_); (case side1 => repeat (first | exact HR0.out | ca_)); (case side2 => exact HC0.out); rintro e w28 ⟨v432, rfl, ho0, hb⟩; refine ⟨_, rfl, ?_⟩; have n0_ := Aside0.mk (Kd.Q_lower ho0 (below_size (by bw_ HB))); have n1_ := Aside0.mk (below_step (by bw_ HB) hb); clear HB; have HO433 := n0_; have HB := n1_; clear n0_ n1_; (try clear hb); (try clear hb2); (try clear hk); (try clear hi); (try clear ho0); obtain ⟨Ao29, co29, eo29, _⟩ := Kd.Q_slice HO433.out; subst eo29) | ((with_reducible refine gate_callee (f := 47) rfl ?_); refine goesL_ (some 11) rfl rfl Try.func47 (by kernel_rfl) rfl #[.slice Ao29 t431.length co29] rfl (by mp_) ?_; (with_reducible refine (impl_AtPowers.calls k _ _ t431 t434 _ ?side1 ?side2 A4.out).mono ?_); (case side1 => repeat (first | exact (Kd.Q_reads' HO433.out).2.2 | ca_)); (case side2 => exact (Kd.Q_reads' HO433.out).2.1); rintro e w30 ⟨v435, rfl, ho0, hb⟩; refine ⟨_, rfl, ?_⟩; have n0_ := Aside0.mk (Kd.Q_elder' (by qa_; exact HO433.out) (Kd.R_base ho0) hb); have n1_ := Aside0.mk (Kd.R_lower (Kd.R_new' ho0 (Kd.Q_lt (by qa_; exact HO433.out))) (below_size (by bw_ HB))); have n2_ := Aside0.mk (below_step (by bw_ HB) hb); clear HO433; clear HB; have HO433 := n0_; have HO436 := n1_; have HB := n2_; clear n0_ n1_ n2_; (try clear hb); (try clear hb2); (try clear hk); (try clear hi); (try clear ho0)) | ((with_reducible refine gate_callee (f := 48) rfl ?_); refine goesL_ (some 14) rfl rfl Try.func48 (by kernel_rfl) rfl #[.slice Ao29 t431.length co29] rfl (by mp_) ?_; (with_reducible refine (spec_AtPowers.calls k _ _ t431 t437 _ ?side1 ?side2 A5.out).mono ?_); (case side1 => repeat (first | exact (Kd.Q_reads' HO433.out).2.2 | ca_)); (case side2 => exact (Kd.Q_reads' HO433.out).2.1); rintro e w31 ⟨v438, rfl, ho0, hb⟩; refine ⟨_, rfl, ?_⟩; have n0_ := Aside0.mk (Kd.Q_elder' (by qa_; exact HO433.out) (Kd.R_base ho0) hb); have n1_ := Aside0.mk (Kd.R_elder' (by ra_; exact HO436.out) (Kd.R_base ho0) hb); have n2_ := Aside0.mk (Kd.R_lower (Kd.R_new' (Kd.R_new' ho0 (Kd.Q_lt (by qa_; exact HO433.out))) (Kd.R_lt (by ra_; exact HO436.out))) (below_size (by bw_ HB))); have n3_ := Aside0.mk (below_step (by bw_ HB) hb); clear HO433; clear HO436; clear HB; have HO433 := n0_; have HO436 := n1_; have HO439 := n2_; have HB := n3_; clear n0_ n1_ n2_ n3_; (try clear hb); (try clear hb2); (try clear hk); (try clear hi); (try clear ho0); obtain ⟨Ao32, co32, eo32⟩ := Kd.R_slice HO436.out; subst eo32; obtain ⟨Ao33, co33, eo33⟩ := Kd.R_slice HO439.out; subst eo33) | ((with_reducible refine gate_callee (f := 17) rfl ?_); refine goesL_ (some 15) rfl rfl Try.func17 (by kernel_rfl) rfl #[.slice Ao32 t434.length co32, .slice Ao33 t437.length co33] rfl (by mp_) ?_; (with_reducible refine (laws_sameInts.calls k _ _ t434 _ _ t437 true _ ?side1 ?side2 ?side3 ?side4 A6.out).mono ?_); (case side1 => repeat (first | exact (Kd.R_reads' HO436.out).2.2 | ca_)); (case side2 => exact (Kd.R_reads' HO436.out).2.1); (case side3 => repeat (first | exact (Kd.R_reads' HO439.out).2.2 | ca_)); (case side4 => exact (Kd.R_reads' HO439.out).2.1); rintro e w' ⟨rfl, ⟨nd, rfl⟩⟩; refine ⟨_, rfl, ?_⟩) | ((with_reducible refine gate_callee (f := 30) rfl ?_); refine goesL_ (some 17) rfl rfl Try.func30 (by kernel_rfl) rfl #[.int .i64 2] rfl (by mp_) ?_; (with_reducible refine (impl_NamedRow.calls k 2 t441 _ A8.out).mono ?_); rintro e w34 ⟨v442, rfl, ho0, hb⟩; refine ⟨_, rfl, ?_⟩; have n0_ := Aside0.mk (Kd.Q_elder' (by qa_; exact HO433.out) (Kd.R_base ho0) hb); have n1_ := Aside0.mk (Kd.R_elder' (by ra_; exact HO436.out) (Kd.R_base ho0) hb); have n2_ := Aside0.mk (Kd.R_elder' (by ra_; exact HO439.out) (Kd.R_base ho0) hb); have n3_ := Aside0.mk (Kd.R_lower (Kd.R_new' (Kd.R_new' (Kd.R_new' ho0 (Kd.Q_lt (by qa_; exact HO433.out))) (Kd.R_lt (by ra_; exact HO436.out))) (Kd.R_lt (by ra_; exact HO439.out))) (below_size (by bw_ HB))); have n4_ := Aside0.mk (below_step (by bw_ HB) hb); clear HO433; clear HO436; clear HO439; clear HB; have HO433 := n0_; have HO436 := n1_; have HO439 := n2_; have HO443 := n3_; have HB := n4_; clear n0_ n1_ n2_ n3_ n4_; (try clear hb); (try clear hb2); (try clear hk); (try clear hi); (try clear ho0); obtain ⟨Ao35, co35, eo35⟩ := Kd.R_slice HO443.out; subst eo35) | ((with_reducible refine gate_callee (f := 47) rfl ?_); refine goesL_ (some 18) rfl rfl Try.func47 (by kernel_rfl) rfl #[.slice Ao35 t441.length co35] rfl (by mp_) ?_; (with_reducible refine (impl_AtPowers.calls k _ _ t441 t444 _ ?side1 ?side2 A9.out).mono ?_); (case side1 => repeat (first | exact (Kd.R_reads' HO443.out).2.2 | ca_)); (case side2 => exact (Kd.R_reads' HO443.out).2.1); rintro e w36 ⟨v445, rfl, ho0, hb⟩; refine ⟨_, rfl, ?_⟩; have n0_ := Aside0.mk (Kd.Q_elder' (by qa_; exact HO433.out) (Kd.R_base ho0) hb); have n1_ := Aside0.mk (Kd.R_elder' (by ra_; exact HO436.out) (Kd.R_base ho0) hb); have n2_ := Aside0.mk (Kd.R_elder' (by ra_; exact HO439.out) (Kd.R_base ho0) hb); have n3_ := Aside0.mk (Kd.R_elder' (by ra_; exact HO443.out) (Kd.R_base ho0) hb); have n4_ := Aside0.mk (Kd.R_lower (Kd.R_new' (Kd.R_new' (Kd.R_new' (Kd.R_new' ho0 (Kd.Q_lt (by qa_; exact HO433.out))) (Kd.R_lt (by ra_; exact HO436.out))) (Kd.R_lt (by ra_; exact HO439.out))) (Kd.R_lt (by ra_; exact HO443.out))) (below_size (by bw_ HB))); have n5_ := Aside0.mk (below_step (by bw_ HB) hb); clear HO433; clear HO436; clear HO439; clear HO443; clear HB; have HO433 := n0_; have HO436 := n1_; have HO439 := n2_; have HO443 := n3_; have HO446 := n4_; have HB := n5_; clear n0_ n1_ n2_ n3_ n4_ n5_; (try clear hb); (try clear hb2); (try clear hk); (try clear hi); (try clear ho0)) | ((with_reducible refine gate_callee (f := 49) rfl ?_); refine goesL_ (some 19) rfl rfl Try.func49 (by kernel_rfl) rfl #[.int .i64 24] rfl (by mp_) ?_; (with_reducible refine (impl_PrimePowers.calls k 24 t447 _ A10.out).mono ?_); rintro e w37 ⟨v448, rfl, ho0, hb⟩; refine ⟨_, rfl, ?_⟩; have n0_ := Aside0.mk (Kd.Q_elder' (by qa_; exact HO433.out) (Kd.R_base ho0) hb); have n1_ := Aside0.mk (Kd.R_elder' (by ra_; exact HO436.out) (Kd.R_base ho0) hb); have n2_ := Aside0.mk (Kd.R_elder' (by ra_; exact HO439.out) (Kd.R_base ho0) hb); have n3_ := Aside0.mk (Kd.R_elder' (by ra_; exact HO443.out) (Kd.R_base ho0) hb); have n4_ := Aside0.mk (Kd.R_elder' (by ra_; exact HO446.out) (Kd.R_base ho0) hb); have n5_ := Aside0.mk (Kd.R_lower (Kd.R_new' (Kd.R_new' (Kd.R_new' (Kd.R_new' (Kd.R_new' ho0 (Kd.Q_lt (by qa_; exact HO433.out))) (Kd.R_lt (by ra_; exact HO436.out))) (Kd.R_lt (by ra_; exact HO439.out))) (Kd.R_lt (by ra_; exact HO443.out))) (Kd.R_lt (by ra_; exact HO446.out))) (below_size (by bw_ HB))); have n6_ := Aside0.mk (below_step (by bw_ HB) hb); clear HO433; clear HO436; clear HO439; clear HO443; clear HO446; clear HB; have HO433 := n0_; have HO436 := n1_; have HO439 := n2_; have HO443 := n3_; have HO446 := n4_; have HO449 := n5_; have HB := n6_; clear n0_ n1_ n2_ n3_ n4_ n5_ n6_; (try clear hb); (try clear hb2); (try clear hk); (try clear hi); (try clear ho0); obtain ⟨Ao38, co38, eo38⟩ := Kd.R_slice HO446.out; subst eo38; obtain ⟨Ao39, co39, eo39⟩ := Kd.R_slice HO449.out; subst eo39) | ((with_reducible refine gate_callee (f := 17) rfl ?_); refine goesL_ (some 20) rfl rfl Try.func17 (by kernel_rfl) rfl #[.slice Ao38 t444.length co38, .slice Ao39 t447.length co39] rfl (by mp_) ?_; (with_reducible refine (laws_sameInts.calls k _ _ t444 _ _ t447 true _ ?side1 ?side2 ?side3 ?side4 A11.out).mono ?_); (case side1 => repeat (first | exact (Kd.R_reads' HO446.out).2.2 | ca_)); (case side2 => exact (Kd.R_reads' HO446.out).2.1); (case side3 => repeat (first | exact (Kd.R_reads' HO449.out).2.2 | ca_)); (case side4 => exact (Kd.R_reads' HO449.out).2.1); rintro e w' ⟨rfl, ⟨nd, rfl⟩⟩; refine ⟨_, rfl, ?_⟩) | (go_at_call 21; (with_reducible refine (impl_RowOk.calls k _ _ t431 t451 _ ?side1 ?side2 A13.out).mono ?_); (case side1 => repeat (first | exact (Kd.Q_reads' HO433.out).2.2 | ca_)); (case side2 => exact (Kd.Q_reads' HO433.out).2.1); rintro e w' ⟨rfl, ⟨nd, rfl⟩⟩))
     go_ret
     exact ⟨by rf_, by bw_ HB⟩
   ·replace c12 := Bool.eq_false_iff.mpr c12
    subst c12
    have H1 : (some false) = some r := by rw [if_neg (show ¬ (false = true) by decide)] at H; exact H
    clear H
    have H := H1
    clear H1
    obtain rfl := Option.some.inj H
    go_enter Try.func12, Try.ntmps12
    go_wp2_with (first | ((with_reducible refine gate_callee (f := 46) rfl ?_); refine goesL_ (some 9) rfl rfl Try.func46 (by kernel_rfl) rfl #[.slice A0 l0.length c0] rfl (by mp_) ?_; (with_reducible refine (spec_DrawAtPowers.calls k _ _ l0 t431 _ ?side1 ?side2 A3.out).mono ?_); (case side1 => repeat (first | exact HR0.out | ca_)); (case side2 => exact HC0.out); rintro e w40 ⟨v432, rfl, ho0, hb⟩; refine ⟨_, rfl, ?_⟩; have n0_ := Aside0.mk (Kd.Q_lower ho0 (below_size (by bw_ HB))); have n1_ := Aside0.mk (below_step (by bw_ HB) hb); clear HB; have HO433 := n0_; have HB := n1_; clear n0_ n1_; (try clear hb); (try clear hb2); (try clear hk); (try clear hi); (try clear ho0); obtain ⟨Ao41, co41, eo41, _⟩ := Kd.Q_slice HO433.out; subst eo41) | ((with_reducible refine gate_callee (f := 47) rfl ?_); refine goesL_ (some 11) rfl rfl Try.func47 (by kernel_rfl) rfl #[.slice Ao41 t431.length co41] rfl (by mp_) ?_; (with_reducible refine (impl_AtPowers.calls k _ _ t431 t434 _ ?side1 ?side2 A4.out).mono ?_); (case side1 => repeat (first | exact (Kd.Q_reads' HO433.out).2.2 | ca_)); (case side2 => exact (Kd.Q_reads' HO433.out).2.1); rintro e w42 ⟨v435, rfl, ho0, hb⟩; refine ⟨_, rfl, ?_⟩; have n0_ := Aside0.mk (Kd.Q_elder' (by qa_; exact HO433.out) (Kd.R_base ho0) hb); have n1_ := Aside0.mk (Kd.R_lower (Kd.R_new' ho0 (Kd.Q_lt (by qa_; exact HO433.out))) (below_size (by bw_ HB))); have n2_ := Aside0.mk (below_step (by bw_ HB) hb); clear HO433; clear HB; have HO433 := n0_; have HO436 := n1_; have HB := n2_; clear n0_ n1_ n2_; (try clear hb); (try clear hb2); (try clear hk); (try clear hi); (try clear ho0)) | ((with_reducible refine gate_callee (f := 48) rfl ?_); refine goesL_ (some 14) rfl rfl Try.func48 (by kernel_rfl) rfl #[.slice Ao41 t431.length co41] rfl (by mp_) ?_; (with_reducible refine (spec_AtPowers.calls k _ _ t431 t437 _ ?side1 ?side2 A5.out).mono ?_); (case side1 => repeat (first | exact (Kd.Q_reads' HO433.out).2.2 | ca_)); (case side2 => exact (Kd.Q_reads' HO433.out).2.1); rintro e w43 ⟨v438, rfl, ho0, hb⟩; refine ⟨_, rfl, ?_⟩; have n0_ := Aside0.mk (Kd.Q_elder' (by qa_; exact HO433.out) (Kd.R_base ho0) hb); have n1_ := Aside0.mk (Kd.R_elder' (by ra_; exact HO436.out) (Kd.R_base ho0) hb); have n2_ := Aside0.mk (Kd.R_lower (Kd.R_new' (Kd.R_new' ho0 (Kd.Q_lt (by qa_; exact HO433.out))) (Kd.R_lt (by ra_; exact HO436.out))) (below_size (by bw_ HB))); have n3_ := Aside0.mk (below_step (by bw_ HB) hb); clear HO433; clear HO436; clear HB; have HO433 := n0_; have HO436 := n1_; have HO439 := n2_; have HB := n3_; clear n0_ n1_ n2_ n3_; (try clear hb); (try clear hb2); (try clear hk); (try clear hi); (try clear ho0); obtain ⟨Ao44, co44, eo44⟩ := Kd.R_slice HO436.out; subst eo44; obtain ⟨Ao45, co45, eo45⟩ := Kd.R_slice HO439.out; subst eo45) | ((with_reducible refine gate_callee (f := 17) rfl ?_); refine goesL_ (some 15) rfl rfl Try.func17 (by kernel_rfl) rfl #[.slice Ao44 t434.length co44, .slice Ao45 t437.length co45] rfl (by mp_) ?_; (with_reducible refine (laws_sameInts.calls k _ _ t434 _ _ t437 true _ ?side1 ?side2 ?side3 ?side4 A6.out).mono ?_); (case side1 => repeat (first | exact (Kd.R_reads' HO436.out).2.2 | ca_)); (case side2 => exact (Kd.R_reads' HO436.out).2.1); (case side3 => repeat (first | exact (Kd.R_reads' HO439.out).2.2 | ca_)); (case side4 => exact (Kd.R_reads' HO439.out).2.1); rintro e w' ⟨rfl, ⟨nd, rfl⟩⟩; refine ⟨_, rfl, ?_⟩) | ((with_reducible refine gate_callee (f := 30) rfl ?_); refine goesL_ (some 17) rfl rfl Try.func30 (by kernel_rfl) rfl #[.int .i64 2] rfl (by mp_) ?_; (with_reducible refine (impl_NamedRow.calls k 2 t441 _ A8.out).mono ?_); rintro e w46 ⟨v442, rfl, ho0, hb⟩; refine ⟨_, rfl, ?_⟩; have n0_ := Aside0.mk (Kd.Q_elder' (by qa_; exact HO433.out) (Kd.R_base ho0) hb); have n1_ := Aside0.mk (Kd.R_elder' (by ra_; exact HO436.out) (Kd.R_base ho0) hb); have n2_ := Aside0.mk (Kd.R_elder' (by ra_; exact HO439.out) (Kd.R_base ho0) hb); have n3_ := Aside0.mk (Kd.R_lower (Kd.R_new' (Kd.R_new' (Kd.R_new' ho0 (Kd.Q_lt (by qa_; exact HO433.out))) (Kd.R_lt (by ra_; exact HO436.out))) (Kd.R_lt (by ra_; exact HO439.out))) (below_size (by bw_ HB))); have n4_ := Aside0.mk (below_step (by bw_ HB) hb); clear HO433; clear HO436; clear HO439; clear HB; have HO433 := n0_; have HO436 := n1_; have HO439 := n2_; have HO443 := n3_; have HB := n4_; clear n0_ n1_ n2_ n3_ n4_; (try clear hb); (try clear hb2); (try clear hk); (try clear hi); (try clear ho0); obtain ⟨Ao47, co47, eo47⟩ := Kd.R_slice HO443.out; subst eo47) | ((with_reducible refine gate_callee (f := 47) rfl ?_); refine goesL_ (some 18) rfl rfl Try.func47 (by kernel_rfl) rfl #[.slice Ao47 t441.length co47] rfl (by mp_) ?_; (with_reducible refine (impl_AtPowers.calls k _ _ t441 t444 _ ?side1 ?side2 A9.out).mono ?_); (case side1 => repeat (first | exact (Kd.R_reads' HO443.out).2.2 | ca_)); (case side2 => exact (Kd.R_reads' HO443.out).2.1); rintro e w48 ⟨v445, rfl, ho0, hb⟩; refine ⟨_, rfl, ?_⟩; have n0_ := Aside0.mk (Kd.Q_elder' (by qa_; exact HO433.out) (Kd.R_base ho0) hb); have n1_ := Aside0.mk (Kd.R_elder' (by ra_; exact HO436.out) (Kd.R_base ho0) hb); have n2_ := Aside0.mk (Kd.R_elder' (by ra_; exact HO439.out) (Kd.R_base ho0) hb); have n3_ := Aside0.mk (Kd.R_elder' (by ra_; exact HO443.out) (Kd.R_base ho0) hb); have n4_ := Aside0.mk (Kd.R_lower (Kd.R_new' (Kd.R_new' (Kd.R_new' (Kd.R_new' ho0 (Kd.Q_lt (by qa_; exact HO433.out))) (Kd.R_lt (by ra_; exact HO436.out))) (Kd.R_lt (by ra_; exact HO439.out))) (Kd.R_lt (by ra_; exact HO443.out))) (below_size (by bw_ HB))); have n5_ := Aside0.mk (below_step (by bw_ HB) hb); clear HO433; clear HO436; clear HO439; clear HO443; clear HB; have HO433 := n0_; have HO436 := n1_; have HO439 := n2_; have HO443 := n3_; have HO446 := n4_; have HB := n5_; clear n0_ n1_ n2_ n3_ n4_ n5_; (try clear hb); (try clear hb2); (try clear hk); (try clear hi); (try clear ho0)) | ((with_reducible refine gate_callee (f := 49) rfl ?_); refine goesL_ (some 19) rfl rfl Try.func49 (by kernel_rfl) rfl #[.int .i64 24] rfl (by mp_) ?_; (with_reducible refine (impl_PrimePowers.calls k 24 t447 _ A10.out).mono ?_); rintro e w49 ⟨v448, rfl, ho0, hb⟩; refine ⟨_, rfl, ?_⟩; have n0_ := Aside0.mk (Kd.Q_elder' (by qa_; exact HO433.out) (Kd.R_base ho0) hb); have n1_ := Aside0.mk (Kd.R_elder' (by ra_; exact HO436.out) (Kd.R_base ho0) hb); have n2_ := Aside0.mk (Kd.R_elder' (by ra_; exact HO439.out) (Kd.R_base ho0) hb); have n3_ := Aside0.mk (Kd.R_elder' (by ra_; exact HO443.out) (Kd.R_base ho0) hb); have n4_ := Aside0.mk (Kd.R_elder' (by ra_; exact HO446.out) (Kd.R_base ho0) hb); have n5_ := Aside0.mk (Kd.R_lower (Kd.R_new' (Kd.R_new' (Kd.R_new' (Kd.R_new' (Kd.R_new' ho0 (Kd.Q_lt (by qa_; exact HO433.out))) (Kd.R_lt (by ra_; exact HO436.out))) (Kd.R_lt (by ra_; exact HO439.out))) (Kd.R_lt (by ra_; exact HO443.out))) (Kd.R_lt (by ra_; exact HO446.out))) (below_size (by bw_ HB))); have n6_ := Aside0.mk (below_step (by bw_ HB) hb); clear HO433; clear HO436; clear HO439; clear HO443; clear HO446; clear HB; have HO433 := n0_; have HO436 := n1_; have HO439 := n2_; have HO443 := n3_; have HO446 := n4_; have HO449 := n5_; have HB := n6_; clear n0_ n1_ n2_ n3_ n4_ n5_ n6_; (try clear hb); (try clear hb2); (try clear hk); (try clear hi); (try clear ho0); obtain ⟨Ao50, co50, eo50⟩ := Kd.R_slice HO446.out; subst eo50; obtain ⟨Ao51, co51, eo51⟩ := Kd.R_slice HO449.out; subst eo51) | ((with_reducible refine gate_callee (f := 17) rfl ?_); refine goesL_ (some 20) rfl rfl Try.func17 (by kernel_rfl) rfl #[.slice Ao50 t444.length co50, .slice Ao51 t447.length co51] rfl (by mp_) ?_; (with_reducible refine (laws_sameInts.calls k _ _ t444 _ _ t447 false _ ?side1 ?side2 ?side3 ?side4 A11.out).mono ?_); (case side1 => repeat (first | exact (Kd.R_reads' HO446.out).2.2 | ca_)); (case side2 => exact (Kd.R_reads' HO446.out).2.1); (case side3 => repeat (first | exact (Kd.R_reads' HO449.out).2.2 | ca_)); (case side4 => exact (Kd.R_reads' HO449.out).2.1); rintro e w' ⟨rfl, ⟨nd, rfl⟩⟩; refine ⟨_, rfl, ?_⟩))
    go_ret
    exact ⟨by rf_, by bw_ HB⟩
  ·replace c7 := Bool.eq_false_iff.mpr c7
   subst c7
   have H1 : (some false) = some r := by rw [if_neg (show ¬ (false = true) by decide)] at H; exact H
   clear H
   have H := H1
   clear H1
   obtain rfl := Option.some.inj H
   go_enter Try.func12, Try.ntmps12
   go_wp2_with (first | ((with_reducible refine gate_callee (f := 46) rfl ?_); refine goesL_ (some 9) rfl rfl Try.func46 (by kernel_rfl) rfl #[.slice A0 l0.length c0] rfl (by mp_) ?_; (with_reducible refine (spec_DrawAtPowers.calls k _ _ l0 t431 _ ?side1 ?side2 A3.out).mono ?_); (case side1 => repeat (first | exact HR0.out | ca_)); (case side2 => exact HC0.out); rintro e w52 ⟨v432, rfl, ho0, hb⟩; refine ⟨_, rfl, ?_⟩; have n0_ := Aside0.mk (Kd.Q_lower ho0 (below_size (by bw_ HB))); have n1_ := Aside0.mk (below_step (by bw_ HB) hb); clear HB; have HO433 := n0_; have HB := n1_; clear n0_ n1_; (try clear hb); (try clear hb2); (try clear hk); (try clear hi); (try clear ho0); obtain ⟨Ao53, co53, eo53, _⟩ := Kd.Q_slice HO433.out; subst eo53) | ((with_reducible refine gate_callee (f := 47) rfl ?_); refine goesL_ (some 11) rfl rfl Try.func47 (by kernel_rfl) rfl #[.slice Ao53 t431.length co53] rfl (by mp_) ?_; (with_reducible refine (impl_AtPowers.calls k _ _ t431 t434 _ ?side1 ?side2 A4.out).mono ?_); (case side1 => repeat (first | exact (Kd.Q_reads' HO433.out).2.2 | ca_)); (case side2 => exact (Kd.Q_reads' HO433.out).2.1); rintro e w54 ⟨v435, rfl, ho0, hb⟩; refine ⟨_, rfl, ?_⟩; have n0_ := Aside0.mk (Kd.Q_elder' (by qa_; exact HO433.out) (Kd.R_base ho0) hb); have n1_ := Aside0.mk (Kd.R_lower (Kd.R_new' ho0 (Kd.Q_lt (by qa_; exact HO433.out))) (below_size (by bw_ HB))); have n2_ := Aside0.mk (below_step (by bw_ HB) hb); clear HO433; clear HB; have HO433 := n0_; have HO436 := n1_; have HB := n2_; clear n0_ n1_ n2_; (try clear hb); (try clear hb2); (try clear hk); (try clear hi); (try clear ho0)) | ((with_reducible refine gate_callee (f := 48) rfl ?_); refine goesL_ (some 14) rfl rfl Try.func48 (by kernel_rfl) rfl #[.slice Ao53 t431.length co53] rfl (by mp_) ?_; (with_reducible refine (spec_AtPowers.calls k _ _ t431 t437 _ ?side1 ?side2 A5.out).mono ?_); (case side1 => repeat (first | exact (Kd.Q_reads' HO433.out).2.2 | ca_)); (case side2 => exact (Kd.Q_reads' HO433.out).2.1); rintro e w55 ⟨v438, rfl, ho0, hb⟩; refine ⟨_, rfl, ?_⟩; have n0_ := Aside0.mk (Kd.Q_elder' (by qa_; exact HO433.out) (Kd.R_base ho0) hb); have n1_ := Aside0.mk (Kd.R_elder' (by ra_; exact HO436.out) (Kd.R_base ho0) hb); have n2_ := Aside0.mk (Kd.R_lower (Kd.R_new' (Kd.R_new' ho0 (Kd.Q_lt (by qa_; exact HO433.out))) (Kd.R_lt (by ra_; exact HO436.out))) (below_size (by bw_ HB))); have n3_ := Aside0.mk (below_step (by bw_ HB) hb); clear HO433; clear HO436; clear HB; have HO433 := n0_; have HO436 := n1_; have HO439 := n2_; have HB := n3_; clear n0_ n1_ n2_ n3_; (try clear hb); (try clear hb2); (try clear hk); (try clear hi); (try clear ho0); obtain ⟨Ao56, co56, eo56⟩ := Kd.R_slice HO436.out; subst eo56; obtain ⟨Ao57, co57, eo57⟩ := Kd.R_slice HO439.out; subst eo57) | ((with_reducible refine gate_callee (f := 17) rfl ?_); refine goesL_ (some 15) rfl rfl Try.func17 (by kernel_rfl) rfl #[.slice Ao56 t434.length co56, .slice Ao57 t437.length co57] rfl (by mp_) ?_; (with_reducible refine (laws_sameInts.calls k _ _ t434 _ _ t437 false _ ?side1 ?side2 ?side3 ?side4 A6.out).mono ?_); (case side1 => repeat (first | exact (Kd.R_reads' HO436.out).2.2 | ca_)); (case side2 => exact (Kd.R_reads' HO436.out).2.1); (case side3 => repeat (first | exact (Kd.R_reads' HO439.out).2.2 | ca_)); (case side4 => exact (Kd.R_reads' HO439.out).2.1); rintro e w' ⟨rfl, ⟨nd, rfl⟩⟩; refine ⟨_, rfl, ?_⟩))
   go_ret
   exact ⟨by rf_, by bw_ HB⟩

/-- THE ONE PURE STATEMENT of laws_FnAtPowers: yours. -/
def laws_FnAtPowers.Pure : Prop := ∀ (l0 : List Int), l0.length ≤ maxLen → l0.length * 1 ≤ 140737488351232 → (∀ x ∈ l0, (Lit.int .u8 x).wf = true) → ∃ k, laws_FnAtPowers.f k l0 = some true
theorem laws_FnAtPowers.walk (P : laws_FnAtPowers.Pure) (a0 : Option Addr) (len0 cap0 : Nat) (z0 : List Int) (w : World) (w0 : (a0 = none ∧ len0 = 0 ∧ cap0 = 0 ∧ z0 = []) ∨ ∃ x, a0 = some x ∧ len0 ≤ cap0 ∧ cap0 ≤ maxLen ∧ z0.length = cap0 ∧ (∀ i, i < z0.length → w.cell? (x.add i) = some (.int .u8 (z0.getD i 0))) ∧ ∀ n ∈ z0, (Lit.int .u8 n).wf = true) (y0 : len0 * 1 ≤ 140737488351232) :
  Calls Try.prog 12 #[.slice a0 len0 cap0] w fun e w' => e = .returned (.bool true) ∧ Below w.heap.size w w' := by
 obtain ⟨l0, rfl, hr0, hm0, hw0, hc0⟩ := ReadsInt.ofRowC w0
 obtain ⟨k, h⟩ := P l0 hm0 y0 hw0
 refine (laws_FnAtPowers.calls k _ _ l0 true w (Kd.C_of_reads (d := (0 : Int)) (h1 := fun _ => rfl) hr0) hc0 h).mono ?_
 rintro e w' ⟨rfl, hd⟩
 exact ⟨rfl, hd⟩

end Go.Proofs.Yteebmpbhhpmhbaa.PFnAtPowers
