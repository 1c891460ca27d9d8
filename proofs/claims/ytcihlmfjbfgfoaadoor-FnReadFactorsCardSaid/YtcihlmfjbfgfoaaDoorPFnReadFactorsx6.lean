/- The functions that the law reaches, each with the number or list that Go comes to, for all arguments that its Lean function takes. -/
import Derived.Test.YtcihlmfjbfgfoaaDoorPFnReadFactorsx0
import Derived.Test.YtcihlmfjbfgfoaaDoorPFnReadFactorsx1
import Derived.Test.YtcihlmfjbfgfoaaDoorPFnReadFactorsx2
import Derived.Test.YtcihlmfjbfgfoaaDoorPFnReadFactorsx3
import Derived.Test.YtcihlmfjbfgfoaaDoorPFnReadFactorsx5
namespace Go.Proofs.YtcihlmfjbfgfoaaDoor.PFnReadFactors
open Go.Proofs.YtcihlmfjbfgfoaaDoor.Clos
open Go.RowKit Go.Proofs.YtcihlmfjbfgfoaaDoorW.PrintWords Go.Proofs.YtcihlmfjbfgfoaaDoorW.PrintLast Go.Proofs.YtcihlmfjbfgfoaaDoorW.PrintMore
attribute [local go_sem] max2_int min2_int max_two min_two max_three min_three max_four min_four   -- for this text's walks alone
set_option linter.unusedVariables false
set_option linter.unusedSimpArgs false

/-! ### spec_l20Some: function 14 -/
def spec_l20Some.f (k : Nat) (s0_0 : List Int) (s0_1 : Int) : Option (Int × Int) := (spec_l20Rd_pick.f k s0_0 s0_1 12).bind fun bt203 => ((spec_l20Rd_pick.f k s0_0 bt203.2 60).bind fun bt205 => ((spec_l20Rd_pick.f k s0_0 bt205.2 100).bind fun bt207 => ((spec_l20Rd_pick.f k s0_0 bt207.2 100).bind fun bt209 => ((spec_l20Rd_pick.f k s0_0 bt209.2 60).bind fun bt211 => ((some (([wrap64 (1 + bt203.1), wrap64 (1 + bt205.1), wrap64 (1 + (wrap64 (bt207.1 * bt209.1))), wrap64 (12 * (wrap64 (1 + bt211.1))), 9973, 8192, 9240] : List Int) : List Int)).bind fun y213 => ((spec_l20Rd_pick.f k s0_0 bt211.2 13).bind fun bt216 => (if 0 ≤ (wrap64 (Int.tdiv bt216.1 2)) then (if (wrap64 (Int.tdiv bt216.1 2)) < (y213.length : Int) then ((spec_l20Rd_pick.f k s0_0 bt216.2 40).bind fun bt219 => ((spec_l20Rd_pick.f k s0_0 bt219.2 50).bind fun bt221 => (some (wrap64 ((wrap64 ((rd y213 (wrap64 (Int.tdiv bt216.1 2))) + (wrap64 ((wrap64 (Int.tdiv bt219.1 39)) * 10000)))) - (wrap64 ((wrap64 (Int.tdiv bt221.1 49)) * 20000))), bt221.2)))) else (none)) else (none))))))))
theorem spec_l20Some.mono : ∀ a0 a1 k, LeO (spec_l20Some.f k a0 a1) (spec_l20Some.f (k + 1) a0 a1) := by
  intro a0 a1 k
  unfold spec_l20Some.f
  repeat' first
      | (with_reducible exact spec_l20Rd_pick.mono _ _ _ _)
      | (with_reducible exact LeO.refl _)
      | (with_reducible exact LeO.none _)
      | (with_reducible refine LeO.ite ?_ ?_)
      | (with_reducible refine LeO.bind ?_ (fun _ => ?_))
      | exact spec_l20Rd_pick.mono _ _ _ _
      | exact LeO.none _
      | refine LeO.ite ?_ ?_
      | refine LeO.bind ?_ (fun _ => ?_)
set_option maxHeartbeats 8000000 in
set_option maxRecDepth 100000 in
theorem spec_l20Some.calls (k : Nat) (g : Nat) (s0_0 : List Int) (s0_1 : Int) (r1 : Int) (r2 : Int) (w0 w : World) (hI : IsS53 w0 w g s0_0 s0_1) (hB : Below w0.heap.size w0 w) (h : spec_l20Some.f k s0_0 s0_1 = some (r1, r2)) :
    Calls Tryd.prog 14 #[.pointer (some ⟨g, 0, none⟩)] w fun e w' => e = .returned (.int .i64 r1) ∧ IsS53 w0 w' g s0_0 r2 ∧ Below w0.heap.size w0 w' ∧ KeepBut w w' g none := by
  have HI0 := Aside0.mk hI
  have HK := Aside0.mk (KeepBut.refl w g none)
  have HL := Aside0.mk hB.size
  clear hI
  have HW0 := Aside0.mk hB.size
  have HB := Aside0.mk hB
  clear hB
  have H : ((spec_l20Rd_pick.f k s0_0 s0_1 12).bind fun bt203 => ((spec_l20Rd_pick.f k s0_0 bt203.2 60).bind fun bt205 => ((spec_l20Rd_pick.f k s0_0 bt205.2 100).bind fun bt207 => ((spec_l20Rd_pick.f k s0_0 bt207.2 100).bind fun bt209 => ((spec_l20Rd_pick.f k s0_0 bt209.2 60).bind fun bt211 => ((some (([wrap64 (1 + bt203.1), wrap64 (1 + bt205.1), wrap64 (1 + (wrap64 (bt207.1 * bt209.1))), wrap64 (12 * (wrap64 (1 + bt211.1))), 9973, 8192, 9240] : List Int) : List Int)).bind fun y213 => ((spec_l20Rd_pick.f k s0_0 bt211.2 13).bind fun bt216 => (if 0 ≤ (wrap64 (Int.tdiv bt216.1 2)) then (if (wrap64 (Int.tdiv bt216.1 2)) < (y213.length : Int) then ((spec_l20Rd_pick.f k s0_0 bt216.2 40).bind fun bt219 => ((spec_l20Rd_pick.f k s0_0 bt219.2 50).bind fun bt221 => (some (wrap64 ((wrap64 ((rd y213 (wrap64 (Int.tdiv bt216.1 2))) + (wrap64 ((wrap64 (Int.tdiv bt219.1 39)) * 10000)))) - (wrap64 ((wrap64 (Int.tdiv bt221.1 49)) * 20000))), bt221.2)))) else (none)) else (none))))))))) = some (r1, r2) := h
  clear h
  replace H := Option.bind_eq_some_iff.mp H
  obtain ⟨⟨t203, t204⟩, A20, H⟩ := H
  replace H : ((spec_l20Rd_pick.f k s0_0 t204 60).bind fun bt205 => ((spec_l20Rd_pick.f k s0_0 bt205.2 100).bind fun bt207 => ((spec_l20Rd_pick.f k s0_0 bt207.2 100).bind fun bt209 => ((spec_l20Rd_pick.f k s0_0 bt209.2 60).bind fun bt211 => ((some (([wrap64 (1 + t203), wrap64 (1 + bt205.1), wrap64 (1 + (wrap64 (bt207.1 * bt209.1))), wrap64 (12 * (wrap64 (1 + bt211.1))), 9973, 8192, 9240] : List Int) : List Int)).bind fun y213 => ((spec_l20Rd_pick.f k s0_0 bt211.2 13).bind fun bt216 => (if 0 ≤ (wrap64 (Int.tdiv bt216.1 2)) then (if (wrap64 (Int.tdiv bt216.1 2)) < (y213.length : Int) then ((spec_l20Rd_pick.f k s0_0 bt216.2 40).bind fun bt219 => ((spec_l20Rd_pick.f k s0_0 bt219.2 50).bind fun bt221 => (some (wrap64 ((wrap64 ((rd y213 (wrap64 (Int.tdiv bt216.1 2))) + (wrap64 ((wrap64 (Int.tdiv bt219.1 39)) * 10000)))) - (wrap64 ((wrap64 (Int.tdiv bt221.1 49)) * 20000))), bt221.2)))) else (none)) else (none)))))))) = some (r1, r2) := H
  have A2 := Aside0.mk A20
  clear A20
  replace H := Option.bind_eq_some_iff.mp H
  obtain ⟨⟨t205, t206⟩, A30, H⟩ := H
  replace H : ((spec_l20Rd_pick.f k s0_0 t206 100).bind fun bt207 => ((spec_l20Rd_pick.f k s0_0 bt207.2 100).bind fun bt209 => ((spec_l20Rd_pick.f k s0_0 bt209.2 60).bind fun bt211 => ((some (([wrap64 (1 + t203), wrap64 (1 + t205), wrap64 (1 + (wrap64 (bt207.1 * bt209.1))), wrap64 (12 * (wrap64 (1 + bt211.1))), 9973, 8192, 9240] : List Int) : List Int)).bind fun y213 => ((spec_l20Rd_pick.f k s0_0 bt211.2 13).bind fun bt216 => (if 0 ≤ (wrap64 (Int.tdiv bt216.1 2)) then (if (wrap64 (Int.tdiv bt216.1 2)) < (y213.length : Int) then ((spec_l20Rd_pick.f k s0_0 bt216.2 40).bind fun bt219 => ((spec_l20Rd_pick.f k s0_0 bt219.2 50).bind fun bt221 => (some (wrap64 ((wrap64 ((rd y213 (wrap64 (Int.tdiv bt216.1 2))) + (wrap64 ((wrap64 (Int.tdiv bt219.1 39)) * 10000)))) - (wrap64 ((wrap64 (Int.tdiv bt221.1 49)) * 20000))), bt221.2)))) else (none)) else (none))))))) = some (r1, r2) := H
  have A3 := Aside0.mk A30
  clear A30
  replace H := Option.bind_eq_some_iff.mp H
  obtain ⟨⟨t207, t208⟩, A40, H⟩ := H
  replace H : ((spec_l20Rd_pick.f k s0_0 t208 100).bind fun bt209 => ((spec_l20Rd_pick.f k s0_0 bt209.2 60).bind fun bt211 => ((some (([wrap64 (1 + t203), wrap64 (1 + t205), wrap64 (1 + (wrap64 (t207 * bt209.1))), wrap64 (12 * (wrap64 (1 + bt211.1))), 9973, 8192, 9240] : List Int) : List Int)).bind fun y213 => ((spec_l20Rd_pick.f k s0_0 bt211.2 13).bind fun bt216 => (if 0 ≤ (wrap64 (Int.tdiv bt216.1 2)) then (if (wrap64 (Int.tdiv bt216.1 2)) < (y213.length : Int) then ((spec_l20Rd_pick.f k s0_0 bt216.2 40).bind fun bt219 => ((spec_l20Rd_pick.f k s0_0 bt219.2 50).bind fun bt221 => (some (wrap64 ((wrap64 ((rd y213 (wrap64 (Int.tdiv bt216.1 2))) + (wrap64 ((wrap64 (Int.tdiv bt219.1 39)) * 10000)))) - (wrap64 ((wrap64 (Int.tdiv bt221.1 49)) * 20000))), bt221.2)))) else (none)) else (none)))))) = some (r1, r2) := H
  have A4 := Aside0.mk A40
  clear A40
  replace H := Option.bind_eq_some_iff.mp H
  obtain ⟨⟨t209, t210⟩, A50, H⟩ := H
  replace H : ((spec_l20Rd_pick.f k s0_0 t210 60).bind fun bt211 => ((some (([wrap64 (1 + t203), wrap64 (1 + t205), wrap64 (1 + (wrap64 (t207 * t209))), wrap64 (12 * (wrap64 (1 + bt211.1))), 9973, 8192, 9240] : List Int) : List Int)).bind fun y213 => ((spec_l20Rd_pick.f k s0_0 bt211.2 13).bind fun bt216 => (if 0 ≤ (wrap64 (Int.tdiv bt216.1 2)) then (if (wrap64 (Int.tdiv bt216.1 2)) < (y213.length : Int) then ((spec_l20Rd_pick.f k s0_0 bt216.2 40).bind fun bt219 => ((spec_l20Rd_pick.f k s0_0 bt219.2 50).bind fun bt221 => (some (wrap64 ((wrap64 ((rd y213 (wrap64 (Int.tdiv bt216.1 2))) + (wrap64 ((wrap64 (Int.tdiv bt219.1 39)) * 10000)))) - (wrap64 ((wrap64 (Int.tdiv bt221.1 49)) * 20000))), bt221.2)))) else (none)) else (none))))) = some (r1, r2) := H
  have A5 := Aside0.mk A50
  clear A50
  replace H := Option.bind_eq_some_iff.mp H
  obtain ⟨⟨t211, t212⟩, A60, H⟩ := H
  replace H : ((some (([wrap64 (1 + t203), wrap64 (1 + t205), wrap64 (1 + (wrap64 (t207 * t209))), wrap64 (12 * (wrap64 (1 + t211))), 9973, 8192, 9240] : List Int) : List Int)).bind fun y213 => ((spec_l20Rd_pick.f k s0_0 t212 13).bind fun bt216 => (if 0 ≤ (wrap64 (Int.tdiv bt216.1 2)) then (if (wrap64 (Int.tdiv bt216.1 2)) < (y213.length : Int) then ((spec_l20Rd_pick.f k s0_0 bt216.2 40).bind fun bt219 => ((spec_l20Rd_pick.f k s0_0 bt219.2 50).bind fun bt221 => (some (wrap64 ((wrap64 ((rd y213 (wrap64 (Int.tdiv bt216.1 2))) + (wrap64 ((wrap64 (Int.tdiv bt219.1 39)) * 10000)))) - (wrap64 ((wrap64 (Int.tdiv bt221.1 49)) * 20000))), bt221.2)))) else (none)) else (none)))) = some (r1, r2) := H
  have A6 := Aside0.mk A60
  clear A60
  obtain ⟨y213, hy213⟩ : ∃ y_ : List Int, y_ = (([wrap64 (1 + t203), wrap64 (1 + t205), wrap64 (1 + (wrap64 (t207 * t209))), wrap64 (12 * (wrap64 (1 + t211))), 9973, 8192, 9240] : List Int)) := ⟨_, rfl⟩
  replace H : ((spec_l20Rd_pick.f k s0_0 t212 13).bind fun bt216 => (if 0 ≤ (wrap64 (Int.tdiv bt216.1 2)) then (if (wrap64 (Int.tdiv bt216.1 2)) < (y213.length : Int) then ((spec_l20Rd_pick.f k s0_0 bt216.2 40).bind fun bt219 => ((spec_l20Rd_pick.f k s0_0 bt219.2 50).bind fun bt221 => (some (wrap64 ((wrap64 ((rd y213 (wrap64 (Int.tdiv bt216.1 2))) + (wrap64 ((wrap64 (Int.tdiv bt219.1 39)) * 10000)))) - (wrap64 ((wrap64 (Int.tdiv bt221.1 49)) * 20000))), bt221.2)))) else (none)) else (none))) = some (r1, r2) := by first | (rw [hy213]; with_reducible exact H) | (have H2_ := (Option.bind_some _ _).symm.trans H; rw [hy213]; with_reducible exact H2_) | (have H2_ := (Option.bind_some _ _).symm.trans H; with_reducible exact H2_) | with_reducible exact H | (rw [hy213]; exact H) | exact H
  have Ny213 := Aside0.mk hy213
  clear hy213
  replace H := Option.bind_eq_some_iff.mp H
  obtain ⟨⟨t216, t217⟩, A70, H⟩ := H
  replace H : (if 0 ≤ (wrap64 (Int.tdiv t216 2)) then (if (wrap64 (Int.tdiv t216 2)) < (y213.length : Int) then ((spec_l20Rd_pick.f k s0_0 t217 40).bind fun bt219 => ((spec_l20Rd_pick.f k s0_0 bt219.2 50).bind fun bt221 => (some (wrap64 ((wrap64 ((rd y213 (wrap64 (Int.tdiv t216 2))) + (wrap64 ((wrap64 (Int.tdiv bt219.1 39)) * 10000)))) - (wrap64 ((wrap64 (Int.tdiv bt221.1 49)) * 20000))), bt221.2)))) else (none)) else (none)) = some (r1, r2) := H
  have A7 := Aside0.mk A70
  clear A70
  obtain ⟨ji8, hji8⟩ : ∃ j_ : Int, (wrap64 (Int.tdiv t216 2)) = j_ := ⟨_, rfl⟩
  replace H : (if 0 ≤ (ji8) then (if (ji8) < (y213.length : Int) then ((spec_l20Rd_pick.f k s0_0 t217 40).bind fun bt219 => ((spec_l20Rd_pick.f k s0_0 bt219.2 50).bind fun bt221 => (some (wrap64 ((wrap64 ((rd y213 (ji8)) + (wrap64 ((wrap64 (Int.tdiv bt219.1 39)) * 10000)))) - (wrap64 ((wrap64 (Int.tdiv bt221.1 49)) * 20000))), bt221.2)))) else (none)) else (none)) = some (r1, r2) := by first | (rw [hji8] at H; exact H) | (simp only [hji8] at H ⊢; exact H)
  (try rw [hji8] at A2)
  (try rw [hji8] at A3)
  (try rw [hji8] at A4)
  (try rw [hji8] at A5)
  (try rw [hji8] at A6)
  (try rw [hji8] at A7)
  have hji8w : (IntKind.i64.wrap (Int.tdiv t216 2)) = ji8 := (i64_w _).trans hji8
  by_cases c9 : 0 ≤ (ji8)
  · rw [if_pos c9] at H
    have c9b0 : decide (0 ≤ (ji8)) = true := decide_eq_true c9
    clear c9
    by_cases c10 : (ji8) < (y213.length : Int)
    · rw [if_pos c10] at H
      have c10b0 : decide ((ji8) < (y213.length : Int)) = true := decide_eq_true c10
      clear c10
      replace H := Option.bind_eq_some_iff.mp H
      obtain ⟨⟨t219, t220⟩, A110, H⟩ := H
      replace H : ((spec_l20Rd_pick.f k s0_0 t220 50).bind fun bt221 => (some (wrap64 ((wrap64 ((rd y213 (ji8)) + (wrap64 ((wrap64 (Int.tdiv t219 39)) * 10000)))) - (wrap64 ((wrap64 (Int.tdiv bt221.1 49)) * 20000))), bt221.2))) = some (r1, r2) := H
      have A11 := Aside0.mk A110
      clear A110
      replace H := Option.bind_eq_some_iff.mp H
      obtain ⟨⟨t221, t222⟩, A120, H⟩ := H
      replace H : (some (wrap64 ((wrap64 ((rd y213 (ji8)) + (wrap64 ((wrap64 (Int.tdiv t219 39)) * 10000)))) - (wrap64 ((wrap64 (Int.tdiv t221 49)) * 20000))), t222)) = some (r1, r2) := H
      have A12 := Aside0.mk A120
      clear A120
      simp only [Option.some.injEq, Prod.mk.injEq] at H
      obtain ⟨rfl, rfl⟩ := H
      go_enter Tryd.func14, Tryd.ntmps14
      go_wp2_with (first | ((with_reducible refine gate_callee (f := 29) rfl ?_); refine goesL_ (some 5) rfl rfl Tryd.func29 (by kernel_rfl) rfl #[.pointer (some ⟨g, 0, none⟩), .int .i64 12] rfl (by (try simp only [List.map_toArray, List.map_cons, List.map_nil]); first | done | rfl | (simp only [List.length_drop, List.length_take]; rfl)) ?_; (with_reducible refine (spec_l20Rd_pick.calls k g s0_0 s0_1 12 t203 t204 w0 _ ?side1 ?side2 A2.out).mono ?_); (case side1 => repeat (first | (with_reducible first | exact HI0.out | apply IsS53.alloc | apply IsS53.drewN | apply IsS53.drew | apply IsS53.set_1) | exact HI0.out)); (case side2 => repeat (first | (with_reducible first | exact HB.out | apply below_alloc | apply pw_below_drewN | apply below_drew1 | refine below_set ?_ (IsS53.ge HI0.out)) | exact HB.out)); rintro e w13 ⟨rfl, hi, hb, hk⟩; refine ⟨_, rfl, ?_⟩; have n0_ := Aside0.mk (KeepBut.trans (by repeat (first | (with_reducible first | exact HK.out | apply KeepBut.set_ | apply keep_drewN | apply keep_drew | apply keep_alloc) | exact HK.out)) hk (.inl rfl)); have n1_ := Aside0.mk (hb); have n2_ := Aside0.mk (hi); clear HK; clear HB; clear HI0; have HK := n0_; have HB := n1_; have HI0 := n2_; clear n0_ n1_ n2_; (try clear hb); (try clear hb2); (try clear hk); (try clear hi)) | ((with_reducible refine gate_callee (f := 29) rfl ?_); refine goesL_ (some 8) rfl rfl Tryd.func29 (by kernel_rfl) rfl #[.pointer (some ⟨g, 0, none⟩), .int .i64 60] rfl (by (try simp only [List.map_toArray, List.map_cons, List.map_nil]); first | done | rfl | (simp only [List.length_drop, List.length_take]; rfl)) ?_; (with_reducible refine (spec_l20Rd_pick.calls k g s0_0 t204 60 t205 t206 w0 _ ?side1 ?side2 A3.out).mono ?_); (case side1 => repeat (first | (with_reducible first | exact HI0.out | apply IsS53.alloc | apply IsS53.drewN | apply IsS53.drew | apply IsS53.set_1) | exact HI0.out)); (case side2 => repeat (first | (with_reducible first | exact HB.out | apply below_alloc | apply pw_below_drewN | apply below_drew1 | refine below_set ?_ (IsS53.ge HI0.out)) | exact HB.out)); rintro e w14 ⟨rfl, hi, hb, hk⟩; refine ⟨_, rfl, ?_⟩; have n0_ := Aside0.mk (KeepBut.trans (by repeat (first | (with_reducible first | exact HK.out | apply KeepBut.set_ | apply keep_drewN | apply keep_drew | apply keep_alloc) | exact HK.out)) hk (.inl rfl)); have n1_ := Aside0.mk (hb); have n2_ := Aside0.mk (hi); clear HK; clear HB; clear HI0; have HK := n0_; have HB := n1_; have HI0 := n2_; clear n0_ n1_ n2_; (try clear hb); (try clear hb2); (try clear hk); (try clear hi)) | ((with_reducible refine gate_callee (f := 29) rfl ?_); refine goesL_ (some 11) rfl rfl Tryd.func29 (by kernel_rfl) rfl #[.pointer (some ⟨g, 0, none⟩), .int .i64 100] rfl (by (try simp only [List.map_toArray, List.map_cons, List.map_nil]); first | done | rfl | (simp only [List.length_drop, List.length_take]; rfl)) ?_; (with_reducible refine (spec_l20Rd_pick.calls k g s0_0 t206 100 t207 t208 w0 _ ?side1 ?side2 A4.out).mono ?_); (case side1 => repeat (first | (with_reducible first | exact HI0.out | apply IsS53.alloc | apply IsS53.drewN | apply IsS53.drew | apply IsS53.set_1) | exact HI0.out)); (case side2 => repeat (first | (with_reducible first | exact HB.out | apply below_alloc | apply pw_below_drewN | apply below_drew1 | refine below_set ?_ (IsS53.ge HI0.out)) | exact HB.out)); rintro e w15 ⟨rfl, hi, hb, hk⟩; refine ⟨_, rfl, ?_⟩; have n0_ := Aside0.mk (KeepBut.trans (by repeat (first | (with_reducible first | exact HK.out | apply KeepBut.set_ | apply keep_drewN | apply keep_drew | apply keep_alloc) | exact HK.out)) hk (.inl rfl)); have n1_ := Aside0.mk (hb); have n2_ := Aside0.mk (hi); clear HK; clear HB; clear HI0; have HK := n0_; have HB := n1_; have HI0 := n2_; clear n0_ n1_ n2_; (try clear hb); (try clear hb2); (try clear hk); (try clear hi)) | ((with_reducible refine gate_callee (f := 29) rfl ?_); refine goesL_ (some 13) rfl rfl Tryd.func29 (by kernel_rfl) rfl #[.pointer (some ⟨g, 0, none⟩), .int .i64 100] rfl (by (try simp only [List.map_toArray, List.map_cons, List.map_nil]); first | done | rfl | (simp only [List.length_drop, List.length_take]; rfl)) ?_; (with_reducible refine (spec_l20Rd_pick.calls k g s0_0 t208 100 t209 t210 w0 _ ?side1 ?side2 A5.out).mono ?_); (case side1 => repeat (first | (with_reducible first | exact HI0.out | apply IsS53.alloc | apply IsS53.drewN | apply IsS53.drew | apply IsS53.set_1) | exact HI0.out)); (case side2 => repeat (first | (with_reducible first | exact HB.out | apply below_alloc | apply pw_below_drewN | apply below_drew1 | refine below_set ?_ (IsS53.ge HI0.out)) | exact HB.out)); rintro e w16 ⟨rfl, hi, hb, hk⟩; refine ⟨_, rfl, ?_⟩; have n0_ := Aside0.mk (KeepBut.trans (by repeat (first | (with_reducible first | exact HK.out | apply KeepBut.set_ | apply keep_drewN | apply keep_drew | apply keep_alloc) | exact HK.out)) hk (.inl rfl)); have n1_ := Aside0.mk (hb); have n2_ := Aside0.mk (hi); clear HK; clear HB; clear HI0; have HK := n0_; have HB := n1_; have HI0 := n2_; clear n0_ n1_ n2_; (try clear hb); (try clear hb2); (try clear hk); (try clear hi)) | ((with_reducible refine gate_callee (f := 29) rfl ?_); refine goesL_ (some 17) rfl rfl Tryd.func29 (by kernel_rfl) rfl #[.pointer (some ⟨g, 0, none⟩), .int .i64 60] rfl (by (try simp only [List.map_toArray, List.map_cons, List.map_nil]); first | done | rfl | (simp only [List.length_drop, List.length_take]; rfl)) ?_; (with_reducible refine (spec_l20Rd_pick.calls k g s0_0 t210 60 t211 t212 w0 _ ?side1 ?side2 A6.out).mono ?_); (case side1 => repeat (first | (with_reducible first | exact HI0.out | apply IsS53.alloc | apply IsS53.drewN | apply IsS53.drew | apply IsS53.set_1) | exact HI0.out)); (case side2 => repeat (first | (with_reducible first | exact HB.out | apply below_alloc | apply pw_below_drewN | apply below_drew1 | refine below_set ?_ (IsS53.ge HI0.out)) | exact HB.out)); rintro e w17 ⟨rfl, hi, hb, hk⟩; refine ⟨_, rfl, ?_⟩; have n0_ := Aside0.mk (KeepBut.trans (by repeat (first | (with_reducible first | exact HK.out | apply KeepBut.set_ | apply keep_drewN | apply keep_drew | apply keep_alloc) | exact HK.out)) hk (.inl rfl)); have n1_ := Aside0.mk (hb); have n2_ := Aside0.mk (hi); clear HK; clear HB; clear HI0; have HK := n0_; have HB := n1_; have HI0 := n2_; clear n0_ n1_ n2_; (try clear hb); (try clear hb2); (try clear hk); (try clear hi)) | ((with_reducible refine gate_dst (N := 20) rfl ?_); refine Kd.R_lit (Kd.int .i64) _ 3 ?hg (N := 20) ?hd (xs := ([wrap64 (1 + t203), wrap64 (1 + t205), wrap64 (1 + (wrap64 (t207 * t209))), wrap64 (12 * (wrap64 (1 + t211))), 9973, 8192, 9240] : List Int)) (inner := [.int .i64 (wrap64 (1 + t203)), .int .i64 (wrap64 (1 + t205)), .int .i64 (wrap64 (1 + (wrap64 (t207 * t209)))), .int .i64 (wrap64 (12 * (wrap64 (1 + t211)))), .int .i64 9973, .int .i64 8192, .int .i64 9240]) (ok := fun _ => True) (okp := fun _ => True) ?hr ?hp (fun _ hk => hk) trivial (Below.refl _ _) (Nat.le_refl _) (by simp) ?_; (case hd => rfl); (case hg => rfl); (case hr => first | (go_simp; done) | (go_simp; rfl)); (case hp => exact (Reps.one (show Kd.M (Kd.int .i64) _ _ _ (wrap64 (1 + t203)) [.int .i64 (wrap64 (1 + t203))] from rfl) (Reps.one (show Kd.M (Kd.int .i64) _ _ _ (wrap64 (1 + t205)) [.int .i64 (wrap64 (1 + t205))] from rfl) (Reps.one (show Kd.M (Kd.int .i64) _ _ _ (wrap64 (1 + (wrap64 (t207 * t209)))) [.int .i64 (wrap64 (1 + (wrap64 (t207 * t209))))] from rfl) (Reps.one (show Kd.M (Kd.int .i64) _ _ _ (wrap64 (12 * (wrap64 (1 + t211)))) [.int .i64 (wrap64 (12 * (wrap64 (1 + t211))))] from rfl) (Reps.one (show Kd.M (Kd.int .i64) _ _ _ 9973 [.int .i64 9973] from rfl) (Reps.one (show Kd.M (Kd.int .i64) _ _ _ 8192 [.int .i64 8192] from rfl) (Reps.one (show Kd.M (Kd.int .i64) _ _ _ 9240 [.int .i64 9240] from rfl) (Reps.none _ _))))))))); intro v214 w18 ho19 hb hg_ hnew_; clear hg_ hnew_; (first | rw [← Ny213.out] at ho19 | (simp only [Int.reduceToNat] at ho19; rw [← Ny213.out] at ho19)); have n0_ := Aside0.mk (Kd.R_lower ho19 (keep_size (w := w) (g := g) (row := none) (by repeat (first | (with_reducible first | exact HK.out | apply KeepBut.set_ | apply keep_drewN | apply keep_drew | apply keep_alloc) | exact HK.out)))); have n1_ := Aside0.mk (IsS53.below (by repeat (first | (with_reducible first | exact HI0.out | apply IsS53.alloc | apply IsS53.drewN | apply IsS53.drew | apply IsS53.set_1) | exact HI0.out)) hb); have n2_ := Aside0.mk (KeepBut.trans (by repeat (first | (with_reducible first | exact HK.out | apply KeepBut.set_ | apply keep_drewN | apply keep_drew | apply keep_alloc) | exact HK.out)) (KeepBut.of_below hb g none) (.inl rfl)); have n3_ := Aside0.mk (below_step (by repeat (first | (with_reducible first | exact HB.out | apply below_alloc | apply pw_below_drewN | apply below_drew1 | refine below_set ?_ (IsS53.ge HI0.out)) | exact HB.out)) hb); clear HI0; clear HK; clear HB; have HO215 := n0_; have HI0 := n1_; have HK := n2_; have HB := n3_; clear n0_ n1_ n2_ n3_; clear hb ho19) | ((with_reducible refine gate_callee (f := 29) rfl ?_); refine goesL_ (some 22) rfl rfl Tryd.func29 (by kernel_rfl) rfl #[.pointer (some ⟨g, 0, none⟩), .int .i64 13] rfl (by (try simp only [List.map_toArray, List.map_cons, List.map_nil]); first | done | rfl | (simp only [List.length_drop, List.length_take]; rfl)) ?_; (with_reducible refine (spec_l20Rd_pick.calls k g s0_0 t212 13 t216 t217 w0 _ ?side1 ?side2 A7.out).mono ?_); (case side1 => repeat (first | (with_reducible first | exact HI0.out | apply IsS53.alloc | apply IsS53.drewN | apply IsS53.drew | apply IsS53.set_1) | exact HI0.out)); (case side2 => repeat (first | (with_reducible first | exact HB.out | apply below_alloc | apply pw_below_drewN | apply below_drew1 | refine below_set ?_ (IsS53.ge HI0.out)) | exact HB.out)); rintro e w20 ⟨rfl, hi, hb, hk⟩; refine ⟨_, rfl, ?_⟩; have n0_ := Aside0.mk (Kd.R_mono (Kd.R_keep (IsS53.apart (show IsS53 w0 _ g s0_0 t212 from by repeat (first | (with_reducible first | exact HI0.out | apply IsS53.alloc | apply IsS53.drewN | apply IsS53.drew | apply IsS53.set_1) | exact HI0.out)) (by (with_reducible repeat (first | apply Kd.R_alloc | apply Kd.R_drewN | apply Kd.R_drew)); exact HO215.out) (by decide)) hk (fun _ h => h.2)) (fun _ h => h.1)); have n1_ := Aside0.mk (KeepBut.trans (by repeat (first | (with_reducible first | exact HK.out | apply KeepBut.set_ | apply keep_drewN | apply keep_drew | apply keep_alloc) | exact HK.out)) hk (.inl rfl)); have n2_ := Aside0.mk (hb); have n3_ := Aside0.mk (hi); clear HO215; clear HK; clear HB; clear HI0; have HO215 := n0_; have HK := n1_; have HB := n2_; have HI0 := n3_; clear n0_ n1_ n2_ n3_; (try clear hb); (try clear hb2); (try clear hk); (try clear hi); obtain ⟨Ao21, co21, eo21⟩ := Kd.R_slice HO215.out; subst eo21; have p218 : 0 ≤ ((ji8) : Int) := of_decide_eq_true (by first | (with_reducible assumption) | assumption); have q218 : (ji8) < (y213.length : Int) := of_decide_eq_true (by first | (with_reducible assumption) | assumption); obtain ⟨ad218, e218, hx218_0⟩ := Kd.at_int (Kd.R_reads' HO215.out).2.2 (ji8) p218 q218; cases e218; replace p218 := eq_true p218; replace q218 := eq_true q218) | ((with_reducible refine gate_callee (f := 29) rfl ?_); refine goesL_ (some 28) rfl rfl Tryd.func29 (by kernel_rfl) rfl #[.pointer (some ⟨g, 0, none⟩), .int .i64 40] rfl (by (try simp only [List.map_toArray, List.map_cons, List.map_nil]); first | done | rfl | (simp only [List.length_drop, List.length_take]; rfl)) ?_; (with_reducible refine (spec_l20Rd_pick.calls k g s0_0 t217 40 t219 t220 w0 _ ?side1 ?side2 A11.out).mono ?_); (case side1 => repeat (first | (with_reducible first | exact HI0.out | apply IsS53.alloc | apply IsS53.drewN | apply IsS53.drew | apply IsS53.set_1) | exact HI0.out)); (case side2 => repeat (first | (with_reducible first | exact HB.out | apply below_alloc | apply pw_below_drewN | apply below_drew1 | refine below_set ?_ (IsS53.ge HI0.out)) | exact HB.out)); rintro e w22 ⟨rfl, hi, hb, hk⟩; refine ⟨_, rfl, ?_⟩; have n0_ := Aside0.mk (Kd.R_mono (Kd.R_keep (IsS53.apart (show IsS53 w0 _ g s0_0 t217 from by repeat (first | (with_reducible first | exact HI0.out | apply IsS53.alloc | apply IsS53.drewN | apply IsS53.drew | apply IsS53.set_1) | exact HI0.out)) (by (with_reducible repeat (first | apply Kd.R_alloc | apply Kd.R_drewN | apply Kd.R_drew)); exact HO215.out) (by decide)) hk (fun _ h => h.2)) (fun _ h => h.1)); have n1_ := Aside0.mk (KeepBut.trans (by repeat (first | (with_reducible first | exact HK.out | apply KeepBut.set_ | apply keep_drewN | apply keep_drew | apply keep_alloc) | exact HK.out)) hk (.inl rfl)); have n2_ := Aside0.mk (hb); have n3_ := Aside0.mk (hi); clear HO215; clear HK; clear HB; clear HI0; have HO215 := n0_; have HK := n1_; have HB := n2_; have HI0 := n3_; clear n0_ n1_ n2_ n3_; (try clear hb); (try clear hb2); (try clear hk); (try clear hi)) | ((with_reducible refine gate_callee (f := 29) rfl ?_); refine goesL_ (some 33) rfl rfl Tryd.func29 (by kernel_rfl) rfl #[.pointer (some ⟨g, 0, none⟩), .int .i64 50] rfl (by (try simp only [List.map_toArray, List.map_cons, List.map_nil]); first | done | rfl | (simp only [List.length_drop, List.length_take]; rfl)) ?_; (with_reducible refine (spec_l20Rd_pick.calls k g s0_0 t220 50 t221 t222 w0 _ ?side1 ?side2 A12.out).mono ?_); (case side1 => repeat (first | (with_reducible first | exact HI0.out | apply IsS53.alloc | apply IsS53.drewN | apply IsS53.drew | apply IsS53.set_1) | exact HI0.out)); (case side2 => repeat (first | (with_reducible first | exact HB.out | apply below_alloc | apply pw_below_drewN | apply below_drew1 | refine below_set ?_ (IsS53.ge HI0.out)) | exact HB.out)); rintro e w23 ⟨rfl, hi, hb, hk⟩; refine ⟨_, rfl, ?_⟩; have n0_ := Aside0.mk (Kd.R_mono (Kd.R_keep (IsS53.apart (show IsS53 w0 _ g s0_0 t220 from by repeat (first | (with_reducible first | exact HI0.out | apply IsS53.alloc | apply IsS53.drewN | apply IsS53.drew | apply IsS53.set_1) | exact HI0.out)) (by (with_reducible repeat (first | apply Kd.R_alloc | apply Kd.R_drewN | apply Kd.R_drew)); exact HO215.out) (by decide)) hk (fun _ h => h.2)) (fun _ h => h.1)); have n1_ := Aside0.mk (KeepBut.trans (by repeat (first | (with_reducible first | exact HK.out | apply KeepBut.set_ | apply keep_drewN | apply keep_drew | apply keep_alloc) | exact HK.out)) hk (.inl rfl)); have n2_ := Aside0.mk (hb); have n3_ := Aside0.mk (hi); clear HO215; clear HK; clear HB; clear HI0; have HO215 := n0_; have HK := n1_; have HB := n2_; have HI0 := n3_; clear n0_ n1_ n2_ n3_; (try clear hb); (try clear hb2); (try clear hk); (try clear hi)))
      go_ret
      exact ⟨by first | rfl | (simp [errW_none, errW_some] <;> rfl) | (simp only [← hji8]; first | rfl | (simp [errW_none, errW_some] <;> rfl)) | (simp [*, errW_none, errW_some] <;> rfl), by repeat (first | (with_reducible first | exact HI0.out | apply IsS53.alloc | apply IsS53.drewN | apply IsS53.drew | apply IsS53.set_1) | exact HI0.out), by repeat (first | (with_reducible first | exact HB.out | apply below_alloc | apply pw_below_drewN | apply below_drew1 | refine below_set ?_ (IsS53.ge HI0.out)) | exact HB.out), by repeat (first | (with_reducible first | exact HK.out | apply KeepBut.set_ | apply keep_drewN | apply keep_drew | apply keep_alloc) | exact HK.out)⟩
    · rw [if_neg c10] at H
      exact absurd H (by simp)
  · rw [if_neg c9] at H
    exact absurd H (by simp)

/-! ### spec_l20Open: function 15 -/
def spec_l20Open.f (l0 : List Int) : Option (List Int × Int) := if (l0.length : Int) > 2000 then (if 2000 ≤ (l0.length : Int) then (some (l0.take 2000, 0)) else (none)) else (some (l0, 0))
set_option maxHeartbeats 8000000 in
set_option maxRecDepth 100000 in
theorem spec_l20Open.calls (A0 : Option Addr) (c0 : Nat) (l0 : List Int) (r1 : List Int) (r2 : Int) (w0 w : World) (hB : Below w0.heap.size w0 w) (hr0 : Kd.C (Kd.int .u8) w0 A0 l0.length l0) (hc0 : l0.length ≤ c0) (h : spec_l20Open.f l0 = some (r1, r2)) :
    Calls Tryd.prog 15 #[.slice A0 l0.length c0] w fun e w' => ∃ g_ : Nat, e = .returned (.pointer (some ⟨g_, 0, none⟩)) ∧ IsS53 w0 w' g_ r1 r2 ∧ Below w0.heap.size w0 w' ∧ Below w.heap.size w w' := by
  have hu53 := Tryd.underlying53
  have HR0 := Aside0.mk hr0
  have HC0 := Aside0.mk hc0
  clear hr0 hc0
  have HBW := Aside0.mk (Below.refl w.heap.size w)
  have HW0 := Aside0.mk hB.size
  have HB := Aside0.mk hB
  clear hB
  have H : (if (l0.length : Int) > 2000 then (if 2000 ≤ (l0.length : Int) then (some (l0.take 2000, 0)) else (none)) else (some (l0, 0))) = some (r1, r2) := h
  clear h
  by_cases c2 : (l0.length : Int) > 2000
  · rw [if_pos c2] at H
    have c2b0 : decide (2000 < (l0.length : Int)) = true := decide_eq_true c2
    have c2b1 : decide (2000 < l0.length) = true := decide_eq_true (by omega)
    clear c2
    by_cases c3 : 2000 ≤ (l0.length : Int)
    · rw [if_pos c3] at H
      have c3b0 := eq_true c3
      have c3b1 : decide (2000 ≤ (l0.length : Int)) = true := decide_eq_true c3
      clear c3
      simp only [Option.some.injEq, Prod.mk.injEq] at H
      obtain ⟨rfl, rfl⟩ := H
      obtain ⟨i04, hi04, _, hsz4, _⟩ := info_parts info5
      obtain ⟨hcut4, hA4, hC4⟩ := print_take_of (P := Tryd.prog) (Value.int .u8) 0 22 5 .i64 Tryd.underlying22 hi04 hsz4 A0 c0 l0 2000 (by omega) (of_decide_eq_true (by first | (with_reducible assumption) | assumption)) HC0.out
      have HR223 := Aside0.mk (Kd.C_of_reads (h1 := fun _ => rfl) (hA4 _ (Kd.reads_of_C HR0.out)))
      have HC223 := Aside0.mk hC4
      clear hA4 hC4 hi04 hsz4
      go_enter Tryd.func15, Tryd.ntmps15
      go_wp2_with (first | ((with_reducible refine gate_dst (N := 10) rfl ?_); refine box_event ?hg (N := 10) ?hd (cs := #[.slice A0 (l0.take 2000).length c0, .int .i64 0]) (t := 53) ?hr ?_; (case hd => rfl); (case hg => rfl); (case hr => first | (go_simp; done) | (go_simp; rfl)); intro gb224 hg w5 hbox hb; have n0_ := Aside0.mk (below_step HBW.out hb); have n1_ := Aside0.mk (below_step (by repeat (first | (with_reducible first | exact HB.out | apply below_alloc | apply pw_below_drewN | apply below_drew1) | exact HB.out)) hb); have n2_ := Aside0.mk (hbox); have n3_ := Aside0.mk ((by rw [hg]; exact (below_size (by repeat (first | (with_reducible first | exact HBW.out | apply below_alloc | apply pw_below_drewN | apply below_drew1) | exact HBW.out))) : w.heap.size ≤ gb224)); have n4_ := Aside0.mk ((Nat.le_trans HW0.out (by rw [hg]; exact (below_size (by repeat (first | (with_reducible first | exact HBW.out | apply below_alloc | apply pw_below_drewN | apply below_drew1) | exact HBW.out))) : w.heap.size ≤ gb224) : w0.heap.size ≤ gb224)); clear HBW; clear HB; have HBW := n0_; have HB := n1_; have BK224 := n2_; have GW224 := n3_; have GE224 := n4_; clear n0_ n1_ n2_ n3_ n4_; clear hb hbox hg))
      go_ret
      exact ⟨_, rfl, (show IsS53 w0 _ gb224 (l0.take 2000) 0 from ⟨_, _, by (with_reducible repeat (first | refine blk_drewN ?_ _ | refine blk_drew ?_ | refine blk_alloc ?_ _)); exact BK224.out, GE224.out, HR223.out⟩), by repeat (first | (with_reducible first | exact HB.out | apply below_alloc | apply pw_below_drewN | apply below_drew1 | refine below_set ?_ GE224.out) | exact HB.out), by repeat (first | (with_reducible first | exact HBW.out | apply below_alloc | apply pw_below_drewN | apply below_drew1 | refine below_set ?_ GW224.out) | exact HBW.out)⟩
    · rw [if_neg c3] at H
      exact absurd H (by simp)
  · rw [if_neg c2] at H
    have c2b0 : decide (2000 < (l0.length : Int)) = false := decide_eq_false c2
    have c2b1 : decide (2000 < l0.length) = false := decide_eq_false (by omega)
    clear c2
    simp only [Option.some.injEq, Prod.mk.injEq] at H
    obtain ⟨rfl, rfl⟩ := H
    go_enter Tryd.func15, Tryd.ntmps15
    go_wp2_with (first | ((with_reducible refine gate_dst (N := 10) rfl ?_); refine box_event ?hg (N := 10) ?hd (cs := #[.slice A0 l0.length c0, .int .i64 0]) (t := 53) ?hr ?_; (case hd => rfl); (case hg => rfl); (case hr => first | (go_simp; done) | (go_simp; rfl)); intro gb225 hg w6 hbox hb; have n0_ := Aside0.mk (below_step HBW.out hb); have n1_ := Aside0.mk (below_step (by repeat (first | (with_reducible first | exact HB.out | apply below_alloc | apply pw_below_drewN | apply below_drew1) | exact HB.out)) hb); have n2_ := Aside0.mk (hbox); have n3_ := Aside0.mk ((by rw [hg]; exact (below_size (by repeat (first | (with_reducible first | exact HBW.out | apply below_alloc | apply pw_below_drewN | apply below_drew1) | exact HBW.out))) : w.heap.size ≤ gb225)); have n4_ := Aside0.mk ((Nat.le_trans HW0.out (by rw [hg]; exact (below_size (by repeat (first | (with_reducible first | exact HBW.out | apply below_alloc | apply pw_below_drewN | apply below_drew1) | exact HBW.out))) : w.heap.size ≤ gb225) : w0.heap.size ≤ gb225)); clear HBW; clear HB; have HBW := n0_; have HB := n1_; have BK225 := n2_; have GW225 := n3_; have GE225 := n4_; clear n0_ n1_ n2_ n3_ n4_; clear hb hbox hg))
    go_ret
    exact ⟨_, rfl, (show IsS53 w0 _ gb225 l0 0 from ⟨_, _, by (with_reducible repeat (first | refine blk_drewN ?_ _ | refine blk_drew ?_ | refine blk_alloc ?_ _)); exact BK225.out, GE225.out, HR0.out⟩), by repeat (first | (with_reducible first | exact HB.out | apply below_alloc | apply pw_below_drewN | apply below_drew1 | refine below_set ?_ GE225.out) | exact HB.out), by repeat (first | (with_reducible first | exact HBW.out | apply below_alloc | apply pw_below_drewN | apply below_drew1 | refine below_set ?_ GW225.out) | exact HBW.out)⟩

/-! ### spec_DrawReadFactors: function 13 -/
def spec_DrawReadFactors.j0 : Nat → ByteArray → List Int → Int → Option (ByteArray)
  | 0, _, _, _ => none
  | k + 1, x5, x229000, x229001 => (spec_l20Rd_pick.f k x229000 x229001 3).bind fun bt232 => (if bt232.1 = 0 then ((spec_l20Rd_pick.f k x229000 bt232.2 (x5.size : Int)).bind fun bt234 => (if 0 ≤ bt234.1 then (if bt234.1 ≤ (x5.size : Int) then ((some (([(⟨#[]⟩ : ByteArray), (⟨#[48]⟩ : ByteArray), (⟨#[46]⟩ : ByteArray), (⟨#[94]⟩ : ByteArray), (⟨#[49]⟩ : ByteArray), (⟨#[52]⟩ : ByteArray)] : List ByteArray) : List ByteArray)).bind fun y236 => ((spec_l20Rd_pick.f k x229000 bt234.2 6).bind fun bt239 => (if 0 ≤ bt239.1 then (if bt239.1 < (y236.length : Int) then (if (x5.extract 0 (bt234.1 : Int).toNat).size + (rdOf ByteArray.empty y236 bt239.1).size ≤ 9223372036854775807 then (if 0 ≤ (wrap64 (bt234.1 + 1)) then (if (wrap64 (bt234.1 + 1)) ≤ (x5.size : Int) then (if ((x5.extract 0 (bt234.1 : Int).toNat) ++ (rdOf ByteArray.empty y236 bt239.1)).size + (x5.extract ((wrap64 (bt234.1 + 1)) : Int).toNat x5.size).size ≤ 9223372036854775807 then (some (((x5.extract 0 (bt234.1 : Int).toNat) ++ (rdOf ByteArray.empty y236 bt239.1)) ++ (x5.extract ((wrap64 (bt234.1 + 1)) : Int).toNat x5.size))) else (none)) else (none)) else (none)) else (none)) else (none)) else (none)))) else (none)) else (none))) else (some x5))
def spec_DrawReadFactors.f (k : Nat) (l0 : List Int) : Option (ByteArray) := (spec_l20Open.f l0).bind fun bt226 => ((spec_l20Some.f k bt226.1 bt226.2).bind fun bt229 => ((spec_FactorText.f k bt229.1).bind fun t231 => (if t231.toList = ([] : List UInt8) then (spec_DrawReadFactors.j0 k (⟨#[50, 94, 50, 46, 51]⟩ : ByteArray) bt226.1 bt229.2) else (spec_DrawReadFactors.j0 k t231 bt226.1 bt229.2))))
theorem spec_DrawReadFactors.mono_l : ∀ k, (∀ y0 y1 y2, LeO (spec_DrawReadFactors.j0 k y0 y1 y2) (spec_DrawReadFactors.j0 (k + 1) y0 y1 y2))
  | 0 => fun _ _ _ r h => by simp [spec_DrawReadFactors.j0] at h
  | k + 1 => by
    have ih0 := spec_DrawReadFactors.mono_l k
    · intro y0 y1 y2
      unfold spec_DrawReadFactors.j0
      repeat' first
      | (with_reducible exact ih0 _ _ _)
      | (with_reducible exact spec_FactorText.mono _ _)
      | (with_reducible exact spec_l20Rd_pick.mono _ _ _ _)
      | (with_reducible exact spec_l20Some.mono _ _ _)
      | (with_reducible exact LeO.refl _)
      | (with_reducible exact LeO.none _)
      | (with_reducible refine LeO.ite ?_ ?_)
      | (with_reducible refine LeO.bind ?_ (fun _ => ?_))
      | exact ih0 _ _ _
      | exact spec_FactorText.mono _ _
      | exact spec_l20Rd_pick.mono _ _ _ _
      | exact spec_l20Some.mono _ _ _
      | exact LeO.none _
      | refine LeO.ite ?_ ?_
      | refine LeO.bind ?_ (fun _ => ?_)
theorem spec_DrawReadFactors.mono : ∀ a0 k, LeO (spec_DrawReadFactors.f k a0) (spec_DrawReadFactors.f (k + 1) a0) := by
  intro a0 k
  have ih0 := spec_DrawReadFactors.mono_l k
  unfold spec_DrawReadFactors.f
  repeat' first
      | (with_reducible exact ih0 _ _ _)
      | (with_reducible exact spec_FactorText.mono _ _)
      | (with_reducible exact spec_l20Rd_pick.mono _ _ _ _)
      | (with_reducible exact spec_l20Some.mono _ _ _)
      | (with_reducible exact LeO.refl _)
      | (with_reducible exact LeO.none _)
      | (with_reducible refine LeO.ite ?_ ?_)
      | (with_reducible refine LeO.bind ?_ (fun _ => ?_))
      | exact ih0 _ _ _
      | exact spec_FactorText.mono _ _
      | exact spec_l20Rd_pick.mono _ _ _ _
      | exact spec_l20Some.mono _ _ _
      | exact LeO.none _
      | refine LeO.ite ?_ ?_
      | refine LeO.bind ?_ (fun _ => ?_)
def spec_DrawReadFactors.T8 : Bool × List (List Nat × List Nat) := (true, [([], []), ([], []), ([0, 1], [0, 1]), ([], []), ([], []), ([4], [4]), ([3, 5], [3, 5]), ([6], [6]), ([2, 7], [2, 7]), ([], []), ([], []), ([10], [10]), ([9, 11], [9, 11]), ([8, 12], [8, 12]), ([13, 5, 0, 1, 2, 3, 4, 5, 6, 7, 8, 9, 10, 11, 12, 13], [13])])
def spec_DrawReadFactors.B8 : List Nat := [0, 0, 3, 0, 0, 16, 56, 120, 255, 0, 0, 1024, 3584, 8191, 16383]
theorem spec_DrawReadFactors.tab8 : rtab .any (opsOf Tryd.f13 8) = spec_DrawReadFactors.T8 := by kernel_rfl
theorem spec_DrawReadFactors.bits8 : waitsOk spec_DrawReadFactors.T8.2 spec_DrawReadFactors.B8 = true := by kernel_rfl
set_option maxHeartbeats 8000000 in
set_option maxRecDepth 100000 in
theorem spec_DrawReadFactors.calls (k : Nat) (A0 : Option Addr) (c0 : Nat) (l0 : List Int) (r : ByteArray) (w : World) (hr0 : Kd.C (Kd.int .u8) w A0 l0.length l0) (hc0 : l0.length ≤ c0) (h : spec_DrawReadFactors.f k l0 = some r) :
    Calls Tryd.prog 13 #[.slice A0 l0.length c0] w fun e w' => e = .returned (.string r) ∧ Below w.heap.size w w' := by
  have HR0 := Aside0.mk hr0
  have HC0 := Aside0.mk hc0
  clear hr0 hc0
  have HB := Aside0.mk (Below.refl w.heap.size w)
  have H : ((spec_l20Open.f l0).bind fun bt226 => ((spec_l20Some.f k bt226.1 bt226.2).bind fun bt229 => ((spec_FactorText.f k bt229.1).bind fun t231 => (if t231.toList = ([] : List UInt8) then (spec_DrawReadFactors.j0 k (⟨#[50, 94, 50, 46, 51]⟩ : ByteArray) bt226.1 bt229.2) else (spec_DrawReadFactors.j0 k t231 bt226.1 bt229.2))))) = some r := h
  clear h
  replace H := Option.bind_eq_some_iff.mp H
  obtain ⟨⟨t226, t227⟩, A20, H⟩ := H
  replace H : ((spec_l20Some.f k t226 t227).bind fun bt229 => ((spec_FactorText.f k bt229.1).bind fun t231 => (if t231.toList = ([] : List UInt8) then (spec_DrawReadFactors.j0 k (⟨#[50, 94, 50, 46, 51]⟩ : ByteArray) t226 bt229.2) else (spec_DrawReadFactors.j0 k t231 t226 bt229.2)))) = some r := H
  have A2 := Aside0.mk A20
  clear A20
  replace H := Option.bind_eq_some_iff.mp H
  obtain ⟨⟨t229, t230⟩, A30, H⟩ := H
  replace H : ((spec_FactorText.f k t229).bind fun t231 => (if t231.toList = ([] : List UInt8) then (spec_DrawReadFactors.j0 k (⟨#[50, 94, 50, 46, 51]⟩ : ByteArray) t226 t230) else (spec_DrawReadFactors.j0 k t231 t226 t230))) = some r := H
  have A3 := Aside0.mk A30
  clear A30
  replace H := Option.bind_eq_some_iff.mp H
  obtain ⟨t231, A40, H⟩ := H
  replace H : (if t231.toList = ([] : List UInt8) then (spec_DrawReadFactors.j0 k (⟨#[50, 94, 50, 46, 51]⟩ : ByteArray) t226 t230) else (spec_DrawReadFactors.j0 k t231 t226 t230)) = some r := H
  have A4 := Aside0.mk A40
  clear A40
  have HC5 := Aside0.mk H
  clear H
  go_enter Tryd.func13, Tryd.ntmps13
  go_upto_if 14 with (first | ((with_reducible refine gate_callee (f := 15) rfl ?_); refine goesL_ (some 8) rfl rfl Tryd.func15 (by kernel_rfl) rfl #[.slice A0 l0.length c0] rfl (by (try simp only [List.map_toArray, List.map_cons, List.map_nil]); first | done | rfl | (simp only [List.length_drop, List.length_take]; rfl)) ?_; (with_reducible refine (spec_l20Open.calls _ _ l0 t226 t227 w _ ?side1 ?side2 ?side3 A2.out).mono ?_); (case side1 => repeat (first | (with_reducible first | exact HB.out | apply below_alloc | apply pw_below_drewN | apply below_drew1) | exact HB.out)); (case side2 => exact HR0.out); (case side3 => exact HC0.out); rintro e w6 ⟨g228, rfl, hi, hb, hb2⟩; refine ⟨_, rfl, ?_⟩; have n0_ := Aside0.mk (hb); have n1_ := Aside0.mk (hi); clear HB; have HB := n0_; have HI228 := n1_; clear n0_ n1_; (try clear hb); (try clear hb2); (try clear hk); (try clear hi)) | ((with_reducible refine gate_callee (f := 14) rfl ?_); refine goesL_ (some 10) rfl rfl Tryd.func14 (by kernel_rfl) rfl #[.pointer (some ⟨g228, 0, none⟩)] rfl (by (try simp only [List.map_toArray, List.map_cons, List.map_nil]); first | done | rfl | (simp only [List.length_drop, List.length_take]; rfl)) ?_; (with_reducible refine (spec_l20Some.calls k g228 t226 t227 t229 t230 w _ ?side1 ?side2 A3.out).mono ?_); (case side1 => repeat (first | (with_reducible first | exact HI228.out | apply IsS53.alloc | apply IsS53.drewN | apply IsS53.drew | apply IsS53.set_1) | exact HI228.out)); (case side2 => repeat (first | (with_reducible first | exact HB.out | apply below_alloc | apply pw_below_drewN | apply below_drew1 | refine below_set ?_ (IsS53.ge HI228.out)) | exact HB.out)); rintro e w7 ⟨rfl, hi, hb, hk⟩; refine ⟨_, rfl, ?_⟩; have n0_ := Aside0.mk (hb); have n1_ := Aside0.mk (hi); clear HB; clear HI228; have HB := n0_; have HI228 := n1_; clear n0_ n1_; (try clear hb); (try clear hb2); (try clear hk); (try clear hi)) | ((with_reducible refine gate_callee (f := 9) rfl ?_); refine goesL_ (some 12) rfl rfl Tryd.func9 (by kernel_rfl) rfl #[.int .i64 t229] rfl (by (try simp only [List.map_toArray, List.map_cons, List.map_nil]); first | done | rfl | (simp only [List.length_drop, List.length_take]; rfl)) ?_; (with_reducible refine (spec_FactorText.calls k t229 t231 _ A4.out).mono ?_); rintro e w8 ⟨rfl, hb⟩; refine ⟨_, rfl, ?_⟩; have n0_ := Aside0.mk (IsS53.below (by repeat (first | (with_reducible first | exact HI228.out | apply IsS53.alloc | apply IsS53.drewN | apply IsS53.drew | apply IsS53.set_1) | exact HI228.out)) hb); have n1_ := Aside0.mk (below_step (by repeat (first | (with_reducible first | exact HB.out | apply below_alloc | apply pw_below_drewN | apply below_drew1 | refine below_set ?_ (IsS53.ge HI228.out)) | exact HB.out)) hb); clear HI228; clear HB; have HI228 := n0_; have HB := n1_; clear n0_ n1_; (try clear hb); (try clear hb2); (try clear hk); (try clear hi)))
  (try simp only [Act.put, List.setIfInBounds_toArray, List.set_cons_zero, List.set_cons_succ])
  go_cut [5] (fun v5 wc => ∃ (kq : Nat) (x5_4 : ByteArray), v5 = .string x5_4 ∧ Aside0 (spec_DrawReadFactors.j0 kq x5_4 t226 t230 = some r) ∧ Aside0 (kq ≤ k) ∧ Aside0 (IsS53 w wc g228 t226 t230) ∧ Aside0 (Below w.heap.size w wc))
  case first =>
    have H := HC5.out
    clear HC5
    by_cases c9 : t231.toList = ([] : List UInt8)
    · rw [if_pos c9] at H
      have c9b0 : (t231.toList == ([] : List UInt8)) = true := beq_iff_eq.mpr c9
      have c9b2 : t231.toList.isEmpty = true := by cases e : t231.toList with | nil => rfl | cons a_ l_ => simp [e] at c9b0
      have c9b1 : (t231.toList != ([] : List UInt8)) = false := bne_eq_false_iff_eq.mpr c9
      clear c9
      (first | rw [c9b0] | (simp only [i64_w, i32_w]; rw [c9b0]) | skip)
      (first | rw [c9b2] | skip)
      have H' := Aside0.mk H
      clear H
      go_wp2
      go_meet
      case rel => exact ⟨_, ((⟨#[50, 94, 50, 46, 51]⟩ : ByteArray)), (by first | rfl | (simp; done) | (simp [*]; done)), H', ⟨by first | omega | exact Nat.le_refl _⟩, ⟨by repeat (first | (with_reducible first | exact HI228.out | apply IsS53.alloc | apply IsS53.drewN | apply IsS53.drew | apply IsS53.set_1) | exact HI228.out)⟩, ⟨by repeat (first | (with_reducible first | exact HB.out | apply below_alloc | apply pw_below_drewN | apply below_drew1 | refine below_set ?_ (IsS53.ge HI228.out)) | exact HB.out)⟩⟩
    · rw [if_neg c9] at H
      have c9b0 : (t231.toList == ([] : List UInt8)) = false := beq_eq_false_iff_ne.mpr c9
      have c9b2 : t231.toList.isEmpty = false := by cases e : t231.toList with | nil => simp [e] at c9b0 | cons a_ l_ => rfl
      have c9b1 : (t231.toList != ([] : List UInt8)) = true := bne_iff_ne.mpr c9
      (first | rw [c9b0] | (simp only [i64_w, i32_w]; rw [c9b0]) | skip)
      (first | rw [c9b2] | skip)
      have H' := Aside0.mk H
      clear H
      go_wp2
      go_meet
      case rel => exact ⟨_, (t231), (by first | rfl | (simp; done) | (simp [*]; done)), H', ⟨by first | omega | exact Nat.le_refl _⟩, ⟨by repeat (first | (with_reducible first | exact HI228.out | apply IsS53.alloc | apply IsS53.drewN | apply IsS53.drew | apply IsS53.set_1) | exact HI228.out)⟩, ⟨by repeat (first | (with_reducible first | exact HB.out | apply below_alloc | apply pw_below_drewN | apply below_drew1 | refine below_set ?_ (IsS53.ge HI228.out)) | exact HB.out)⟩⟩
  case rest =>
    clear HC5
    try clear c1
    try clear p2
    try clear c9
    try clear c9b0
    try clear c9b1
    obtain ⟨kq, x5_4, rfl, HA, HJ4, HI228, HB⟩ := hcut
    cases kq with
    | zero => exact absurd HA.out (by simp [spec_DrawReadFactors.j0])
    | succ kj4 =>
      have H := HA.out
      clear HA
      simp only [spec_DrawReadFactors.j0] at H
      replace H := Option.bind_eq_some_iff.mp H
      obtain ⟨⟨t232, t233⟩, A100, H⟩ := H
      replace H : (if t232 = 0 then ((spec_l20Rd_pick.f kj4 t226 t233 (x5_4.size : Int)).bind fun bt234 => (if 0 ≤ bt234.1 then (if bt234.1 ≤ (x5_4.size : Int) then ((some (([(⟨#[]⟩ : ByteArray), (⟨#[48]⟩ : ByteArray), (⟨#[46]⟩ : ByteArray), (⟨#[94]⟩ : ByteArray), (⟨#[49]⟩ : ByteArray), (⟨#[52]⟩ : ByteArray)] : List ByteArray) : List ByteArray)).bind fun y236 => ((spec_l20Rd_pick.f kj4 t226 bt234.2 6).bind fun bt239 => (if 0 ≤ bt239.1 then (if bt239.1 < (y236.length : Int) then (if (x5_4.extract 0 (bt234.1 : Int).toNat).size + (rdOf ByteArray.empty y236 bt239.1).size ≤ 9223372036854775807 then (if 0 ≤ (wrap64 (bt234.1 + 1)) then (if (wrap64 (bt234.1 + 1)) ≤ (x5_4.size : Int) then (if ((x5_4.extract 0 (bt234.1 : Int).toNat) ++ (rdOf ByteArray.empty y236 bt239.1)).size + (x5_4.extract ((wrap64 (bt234.1 + 1)) : Int).toNat x5_4.size).size ≤ 9223372036854775807 then (some (((x5_4.extract 0 (bt234.1 : Int).toNat) ++ (rdOf ByteArray.empty y236 bt239.1)) ++ (x5_4.extract ((wrap64 (bt234.1 + 1)) : Int).toNat x5_4.size))) else (none)) else (none)) else (none)) else (none)) else (none)) else (none)))) else (none)) else (none))) else (some x5_4)) = some r := H
      have A10 := Aside0.mk A100
      clear A100
      by_cases c11 : t232 = 0
      · rw [if_pos c11] at H
        have c11b0 : (t232 == 0) = true := beq_iff_eq.mpr c11
        have c11b1 : (t232 != 0) = false := bne_eq_false_iff_eq.mpr c11
        clear c11
        replace H := Option.bind_eq_some_iff.mp H
        obtain ⟨⟨t234, t235⟩, A120, H⟩ := H
        replace H : (if 0 ≤ t234 then (if t234 ≤ (x5_4.size : Int) then ((some (([(⟨#[]⟩ : ByteArray), (⟨#[48]⟩ : ByteArray), (⟨#[46]⟩ : ByteArray), (⟨#[94]⟩ : ByteArray), (⟨#[49]⟩ : ByteArray), (⟨#[52]⟩ : ByteArray)] : List ByteArray) : List ByteArray)).bind fun y236 => ((spec_l20Rd_pick.f kj4 t226 t235 6).bind fun bt239 => (if 0 ≤ bt239.1 then (if bt239.1 < (y236.length : Int) then (if (x5_4.extract 0 (t234 : Int).toNat).size + (rdOf ByteArray.empty y236 bt239.1).size ≤ 9223372036854775807 then (if 0 ≤ (wrap64 (t234 + 1)) then (if (wrap64 (t234 + 1)) ≤ (x5_4.size : Int) then (if ((x5_4.extract 0 (t234 : Int).toNat) ++ (rdOf ByteArray.empty y236 bt239.1)).size + (x5_4.extract ((wrap64 (t234 + 1)) : Int).toNat x5_4.size).size ≤ 9223372036854775807 then (some (((x5_4.extract 0 (t234 : Int).toNat) ++ (rdOf ByteArray.empty y236 bt239.1)) ++ (x5_4.extract ((wrap64 (t234 + 1)) : Int).toNat x5_4.size))) else (none)) else (none)) else (none)) else (none)) else (none)) else (none)))) else (none)) else (none)) = some r := H
        have A12 := Aside0.mk A120
        clear A120
        by_cases c13 : 0 ≤ t234
        · rw [if_pos c13] at H
          have c13b0 := eq_true c13
          have c13b1 : decide (0 ≤ t234) = true := decide_eq_true c13
          clear c13
          by_cases c14 : t234 ≤ (x5_4.size : Int)
          · rw [if_pos c14] at H
            have c14b0 := eq_true c14
            have c14b1 : decide (t234 ≤ (x5_4.size : Int)) = true := decide_eq_true c14
            clear c14
            obtain ⟨y236, hy236⟩ : ∃ y_ : List ByteArray, y_ = (([(⟨#[]⟩ : ByteArray), (⟨#[48]⟩ : ByteArray), (⟨#[46]⟩ : ByteArray), (⟨#[94]⟩ : ByteArray), (⟨#[49]⟩ : ByteArray), (⟨#[52]⟩ : ByteArray)] : List ByteArray)) := ⟨_, rfl⟩
            replace H : ((spec_l20Rd_pick.f kj4 t226 t235 6).bind fun bt239 => (if 0 ≤ bt239.1 then (if bt239.1 < (y236.length : Int) then (if (x5_4.extract 0 (t234 : Int).toNat).size + (rdOf ByteArray.empty y236 bt239.1).size ≤ 9223372036854775807 then (if 0 ≤ (wrap64 (t234 + 1)) then (if (wrap64 (t234 + 1)) ≤ (x5_4.size : Int) then (if ((x5_4.extract 0 (t234 : Int).toNat) ++ (rdOf ByteArray.empty y236 bt239.1)).size + (x5_4.extract ((wrap64 (t234 + 1)) : Int).toNat x5_4.size).size ≤ 9223372036854775807 then (some (((x5_4.extract 0 (t234 : Int).toNat) ++ (rdOf ByteArray.empty y236 bt239.1)) ++ (x5_4.extract ((wrap64 (t234 + 1)) : Int).toNat x5_4.size))) else (none)) else (none)) else (none)) else (none)) else (none)) else (none))) = some r := by first | (rw [hy236]; with_reducible exact H) | (have H2_ := (Option.bind_some _ _).symm.trans H; rw [hy236]; with_reducible exact H2_) | (have H2_ := (Option.bind_some _ _).symm.trans H; with_reducible exact H2_) | with_reducible exact H | (rw [hy236]; exact H) | exact H
            have Ny236 := Aside0.mk hy236
            clear hy236
            replace H := Option.bind_eq_some_iff.mp H
            obtain ⟨⟨t239, t240⟩, A150, H⟩ := H
            replace H : (if 0 ≤ t239 then (if t239 < (y236.length : Int) then (if (x5_4.extract 0 (t234 : Int).toNat).size + (rdOf ByteArray.empty y236 t239).size ≤ 9223372036854775807 then (if 0 ≤ (wrap64 (t234 + 1)) then (if (wrap64 (t234 + 1)) ≤ (x5_4.size : Int) then (if ((x5_4.extract 0 (t234 : Int).toNat) ++ (rdOf ByteArray.empty y236 t239)).size + (x5_4.extract ((wrap64 (t234 + 1)) : Int).toNat x5_4.size).size ≤ 9223372036854775807 then (some (((x5_4.extract 0 (t234 : Int).toNat) ++ (rdOf ByteArray.empty y236 t239)) ++ (x5_4.extract ((wrap64 (t234 + 1)) : Int).toNat x5_4.size))) else (none)) else (none)) else (none)) else (none)) else (none)) else (none)) = some r := H
            have A15 := Aside0.mk A150
            clear A150
            by_cases c16 : 0 ≤ t239
            · rw [if_pos c16] at H
              have c16b0 : decide (0 ≤ t239) = true := decide_eq_true c16
              clear c16
              by_cases c17 : t239 < (y236.length : Int)
              · rw [if_pos c17] at H
                have c17b0 : decide (t239 < (y236.length : Int)) = true := decide_eq_true c17
                clear c17
                by_cases c18 : (x5_4.extract 0 (t234 : Int).toNat).size + (rdOf ByteArray.empty y236 t239).size ≤ 9223372036854775807
                · rw [if_pos c18] at H
                  have c18b0 := eq_true c18
                  have c18b1 : decide ((x5_4.extract 0 (t234 : Int).toNat).size + (rdOf ByteArray.empty y236 t239).size ≤ 9223372036854775807) = true := decide_eq_true c18
                  try have c18b2 : (9223372036854775807 < (x5_4.extract 0 (t234 : Int).toNat).size + (rdOf ByteArray.empty y236 t239).size) = False := eq_false (Nat.not_lt.2 c18)
                  obtain ⟨ji19, hji19⟩ : ∃ j_ : Int, (wrap64 (t234 + 1)) = j_ := ⟨_, rfl⟩
                  replace H : (if 0 ≤ (ji19) then (if (ji19) ≤ (x5_4.size : Int) then (if ((x5_4.extract 0 (t234 : Int).toNat) ++ (rdOf ByteArray.empty y236 t239)).size + (x5_4.extract ((ji19) : Int).toNat x5_4.size).size ≤ 9223372036854775807 then (some (((x5_4.extract 0 (t234 : Int).toNat) ++ (rdOf ByteArray.empty y236 t239)) ++ (x5_4.extract ((ji19) : Int).toNat x5_4.size))) else (none)) else (none)) else (none)) = some r := by first | (rw [hji19] at H; exact H) | (simp only [hji19] at H ⊢; exact H)
                  (try rw [hji19] at A10)
                  (try rw [hji19] at A12)
                  (try rw [hji19] at A15)
                  have hji19w : (IntKind.i64.wrap (t234 + 1)) = ji19 := (i64_w _).trans hji19
                  by_cases c20 : 0 ≤ (ji19)
                  · rw [if_pos c20] at H
                    have c20b0 := eq_true c20
                    have c20b1 : decide (0 ≤ (ji19)) = true := decide_eq_true c20
                    clear c20
                    by_cases c21 : (ji19) ≤ (x5_4.size : Int)
                    · rw [if_pos c21] at H
                      have c21b0 := eq_true c21
                      have c21b1 : decide ((ji19) ≤ (x5_4.size : Int)) = true := decide_eq_true c21
                      clear c21
                      by_cases c22 : ((x5_4.extract 0 (t234 : Int).toNat) ++ (rdOf ByteArray.empty y236 t239)).size + (x5_4.extract ((ji19) : Int).toNat x5_4.size).size ≤ 9223372036854775807
                      · rw [if_pos c22] at H
                        have c22b0 := eq_true c22
                        have c22b1 : decide (((x5_4.extract 0 (t234 : Int).toNat) ++ (rdOf ByteArray.empty y236 t239)).size + (x5_4.extract ((ji19) : Int).toNat x5_4.size).size ≤ 9223372036854775807) = true := decide_eq_true c22
                        try have c22b2 : (9223372036854775807 < ((x5_4.extract 0 (t234 : Int).toNat) ++ (rdOf ByteArray.empty y236 t239)).size + (x5_4.extract ((ji19) : Int).toNat x5_4.size).size) = False := eq_false (Nat.not_lt.2 c22)
                        obtain rfl := Option.some.inj H
                        try go_wp2_with (first | ((with_reducible refine gate_callee (f := 29) rfl ?_); refine goesL_ (some 16) rfl rfl Tryd.func29 (by kernel_rfl) rfl #[.pointer (some ⟨g228, 0, none⟩), .int .i64 3] rfl (by (try simp only [List.map_toArray, List.map_cons, List.map_nil]); first | done | rfl | (simp only [List.length_drop, List.length_take]; rfl)) ?_; (with_reducible refine (spec_l20Rd_pick.calls kj4 g228 t226 t230 3 t232 t233 w _ ?side1 ?side2 A10.out).mono ?_); (case side1 => repeat (first | (with_reducible first | exact HI228.out | apply IsS53.alloc | apply IsS53.drewN | apply IsS53.drew | apply IsS53.set_1) | exact HI228.out)); (case side2 => repeat (first | (with_reducible first | exact HB.out | apply below_alloc | apply pw_below_drewN | apply below_drew1 | refine below_set ?_ (IsS53.ge HI228.out)) | exact HB.out)); rintro e w23 ⟨rfl, hi, hb, hk⟩; refine ⟨_, rfl, ?_⟩; have n0_ := Aside0.mk (hb); have n1_ := Aside0.mk (hi); clear HB; clear HI228; have HB := n0_; have HI228 := n1_; clear n0_ n1_; (try clear hb); (try clear hb2); (try clear hk); (try clear hi)) | ((with_reducible refine gate_callee (f := 29) rfl ?_); refine goesL_ (some 21) rfl rfl Tryd.func29 (by kernel_rfl) rfl #[.pointer (some ⟨g228, 0, none⟩), .int .i64 (x5_4.size : Int)] rfl (by (try simp only [List.map_toArray, List.map_cons, List.map_nil]); first | done | rfl | (simp only [List.length_drop, List.length_take]; rfl)) ?_; (with_reducible refine (spec_l20Rd_pick.calls kj4 g228 t226 t233 (x5_4.size : Int) t234 t235 w _ ?side1 ?side2 A12.out).mono ?_); (case side1 => repeat (first | (with_reducible first | exact HI228.out | apply IsS53.alloc | apply IsS53.drewN | apply IsS53.drew | apply IsS53.set_1) | exact HI228.out)); (case side2 => repeat (first | (with_reducible first | exact HB.out | apply below_alloc | apply pw_below_drewN | apply below_drew1 | refine below_set ?_ (IsS53.ge HI228.out)) | exact HB.out)); rintro e w24 ⟨rfl, hi, hb, hk⟩; refine ⟨_, rfl, ?_⟩; have n0_ := Aside0.mk (hb); have n1_ := Aside0.mk (hi); clear HB; clear HI228; have HB := n0_; have HI228 := n1_; clear n0_ n1_; (try clear hb); (try clear hb2); (try clear hk); (try clear hi)))
                        have pi241 : (0 ≤ (t239 : Int)) = True := eq_true (of_decide_eq_true (by first | (with_reducible assumption) | assumption))
                        have qi241 : (t239 < (y236.length : Int)) = True := eq_true (of_decide_eq_true (by first | (with_reducible assumption) | assumption))
                        have n0_ := Aside0.mk (IsS53.drew HI228.out)
                        have n1_ := Aside0.mk (below_drew1 HB.out)
                        clear HI228
                        clear HB
                        have HI228 := n0_
                        have HB := n1_
                        clear n0_ n1_
                        refine start_ (n := 15) (S := fun w' => True) (ds := []) #[false, false, false, false, false, false, false, false, false, false, false, false, false, false, false] (by kernel_rfl) rfl rfl trivial (fun hHeld => ?_); refine with_tabW spec_DrawReadFactors.tab8 spec_DrawReadFactors.bits8 (fun HT_ HW_ => ?_)
                        generalize w24.drew = w25 at HI228 HB hHeld ⊢
                        refine pure_ (i := 0) (N := some 22) (v := ?_) (a' := ?_) #[true, false, false, false, false, false, false, false, false, false, false, false, false, false, false] rfl rfl (any_of HT_.out (by kernel_rfl)) (fun _ _ _ h => h) (Or.inl ⟨by rfl, ?_⟩) ?_ ?_
                        rotate_left
                        · intro w'
                          go_simp
                          with_reducible rfl
                        rotate_left
                        · simp only [Act.put, List.setIfInBounds_toArray, List.set_cons_zero, List.set_cons_succ, i64_w, i32_w]
                          rfl
                        refine pure_ (i := 1) (N := some 23) (v := ?_) (a' := ?_) #[true, true, false, false, false, false, false, false, false, false, false, false, false, false, false] rfl rfl (any_of HT_.out (by kernel_rfl)) (fun _ _ _ h => h) (Or.inl ⟨by rfl, ?_⟩) ?_ ?_
                        rotate_left
                        · intro w'
                          go_simp
                          with_reducible rfl
                        rotate_left
                        · simp only [Act.put, List.setIfInBounds_toArray, List.set_cons_zero, List.set_cons_succ, i64_w, i32_w]
                          rfl
                        refine pure_ (i := 4) (N := some 26) (v := ?_) (a' := ?_) #[true, true, false, false, true, false, false, false, false, false, false, false, false, false, false] rfl rfl (any_of HT_.out (by kernel_rfl)) (fun _ _ _ h => h) (Or.inl ⟨by rfl, ?_⟩) ?_ ?_
                        rotate_left
                        · intro w'
                          go_simp
                          with_reducible rfl
                        rotate_left
                        · simp only [Act.put, List.setIfInBounds_toArray, List.set_cons_zero, List.set_cons_succ, i64_w, i32_w]
                          rfl
                        refine pure_ (i := 9) (N := some 31) (v := ?_) (a' := ?_) #[true, true, false, false, true, false, false, false, false, true, false, false, false, false, false] rfl rfl (any_of HT_.out (by kernel_rfl)) (fun _ _ _ h => h) (Or.inl ⟨by rfl, ?_⟩) ?_ ?_
                        rotate_left
                        · intro w'
                          go_simp
                          with_reducible rfl
                        rotate_left
                        · simp only [Act.put, List.setIfInBounds_toArray, List.set_cons_zero, List.set_cons_succ, i64_w, i32_w]
                          rfl
                        refine pure_ (i := 10) (N := some 32) (v := ?_) (a' := ?_) #[true, true, false, false, true, false, false, false, false, true, true, false, false, false, false] rfl rfl (any_of HT_.out (by kernel_rfl)) (fun _ _ _ h => h) (Or.inl ⟨by rfl, ?_⟩) ?_ ?_
                        rotate_left
                        · intro w'
                          go_simp
                          with_reducible rfl
                        rotate_left
                        · simp only [Act.put, List.setIfInBounds_toArray, List.set_cons_zero, List.set_cons_succ, i64_w, i32_w]
                          rfl
                        refine inv_at [2, 3, 5, 6, 7, 8, 11, 12, 13, 14] (fun a0_ b a w' => ∃ (v237 : Value) (adz_v237 : Addr) (m6_ : Value), a = putSel a0_ b [(2, 24, .string (x5_4.extract 0 (t234 : Int).toNat)), (3, 25, v237), (5, 27, .int .i64 t239), (6, 28, m6_), (7, 29, .string (rdOf ByteArray.empty y236 t239)), (8, 30, .string ((x5_4.extract 0 (t234 : Int).toNat) ++ (rdOf ByteArray.empty y236 t239))), (11, 33, .int .i64 ji19), (12, 34, .string (x5_4.extract ((ji19) : Int).toNat x5_4.size)), (13, 35, .string (((x5_4.extract 0 (t234 : Int).toNat) ++ (rdOf ByteArray.empty y236 t239)) ++ (x5_4.extract ((ji19) : Int).toNat x5_4.size))), (14, 2, .string (((x5_4.extract 0 (t234 : Int).toNat) ++ (rdOf ByteArray.empty y236 t239)) ++ (x5_4.extract ((ji19) : Int).toNat x5_4.size)))] ∧ (b 5 = false → IsS53 w w' g228 t226 t235) ∧ (Below w.heap.size w w') ∧ (b 3 = true → Kd.R Kd.string 9 w' w.heap.size (fun _ => True) v237 y236) ∧ (b 3 = true → ∃ c_, (v237 : Value) = .slice (some adz_v237) y236.length c_) ∧ (b 5 = true → IsS53 w w' g228 t226 t240) ∧ (b 6 = true → (m6_ : Value) = .pointer (some (adz_v237.add (t239).toNat)))) HT_.out HW_.out (by kernel_rfl) (by kernel_rfl) ?_ ?_ ?_
                        · exact ⟨.bool false, ⟨0, 0, none⟩, .bool false, by simp only [putSel, Bool.false_eq_true, if_false], fun _ => HI228.out, HB.out, fun h_ => absurd h_ (by decide), fun h_ => absurd h_ (by decide), fun h_ => absurd h_ (by decide), fun h_ => absurd h_ (by decide)⟩
                        · skip
                          clear HB HI228
                          refine steps_cons ?_ ?_
                          · rintro b a w' ⟨v237, adz_v237, m6_, ha, Q_HI228, Q_HB, Q_HO238, Q_HA_HO238, Q_HI228_e5, Q_X6_⟩ hb_ hon hoff
                            refine ⟨_, rfl, fun K hK => ?_⟩
                            have e22 : a.tmps[22]? = some (.string x5_4) := by rw [ha]; exact (putSel_off rfl).trans rfl
                            have e23 : a.tmps[23]? = some (.int .i64 t234) := by rw [ha]; exact (putSel_off rfl).trans rfl
                            replace ha := Aside0.mk ha
                            have HB := Aside0.mk Q_HB
                            refine value_ (w1 := w') (v := .string (x5_4.extract 0 (t234 : Int).toNat)) (by rfl) rfl ?_ ?_
                            · go_simp
                              (try simp only [i64_w])
                              try rfl
                            refine hK.out _ _ ⟨v237, adz_v237, m6_, (by rw [ha.out]; exact putSel_upk 0 hb_ rfl rfl rfl), Q_HI228, Q_HB, Q_HO238, Q_HA_HO238, Q_HI228_e5, Q_X6_⟩
                          refine steps_cons ?_ ?_
                          · rintro b a w' ⟨v237, adz_v237, m6_, ha, Q_HI228, Q_HB, Q_HO238, Q_HA_HO238, Q_HI228_e5, Q_X6_⟩ hb_ hon hoff
                            refine ⟨_, rfl, fun K hK => ?_⟩
                            replace ha := Aside0.mk ha
                            have HB := Aside0.mk Q_HB
                            refine Kd.R_lit_step Kd.string _ 9 ?hg (N := 25) ?hd (xs := ([(⟨#[]⟩ : ByteArray), (⟨#[48]⟩ : ByteArray), (⟨#[46]⟩ : ByteArray), (⟨#[94]⟩ : ByteArray), (⟨#[49]⟩ : ByteArray), (⟨#[52]⟩ : ByteArray)] : List ByteArray)) (inner := [.string (⟨#[]⟩ : ByteArray), .string (⟨#[48]⟩ : ByteArray), .string (⟨#[46]⟩ : ByteArray), .string (⟨#[94]⟩ : ByteArray), .string (⟨#[49]⟩ : ByteArray), .string (⟨#[52]⟩ : ByteArray)]) (ok := fun _ => True) (okp := fun _ => True) ?hr ?hp (fun _ hk => hk) trivial (Below.refl _ _) (Nat.le_refl _) (by simp) ?_; (case hd => rfl); (case hg => rfl); (case hr => first | (go_simp; done) | (go_simp; rfl)); (case hp => exact (Reps.one (show Kd.M Kd.string _ _ _ (⟨#[]⟩ : ByteArray) [.string (⟨#[]⟩ : ByteArray)] from rfl) (Reps.one (show Kd.M Kd.string _ _ _ (⟨#[48]⟩ : ByteArray) [.string (⟨#[48]⟩ : ByteArray)] from rfl) (Reps.one (show Kd.M Kd.string _ _ _ (⟨#[46]⟩ : ByteArray) [.string (⟨#[46]⟩ : ByteArray)] from rfl) (Reps.one (show Kd.M Kd.string _ _ _ (⟨#[94]⟩ : ByteArray) [.string (⟨#[94]⟩ : ByteArray)] from rfl) (Reps.one (show Kd.M Kd.string _ _ _ (⟨#[49]⟩ : ByteArray) [.string (⟨#[49]⟩ : ByteArray)] from rfl) (Reps.one (show Kd.M Kd.string _ _ _ (⟨#[52]⟩ : ByteArray) [.string (⟨#[52]⟩ : ByteArray)] from rfl) (Reps.none _ _))))))))
                            intro v237 w26 ho27 hb hg_ hnew_
                            clear hg_ hnew_
                            (first | rw [← Ny236.out] at ho27 | (simp only [Int.reduceToNat] at ho27; rw [← Ny236.out] at ho27))
                            have n0_ := Aside0.mk (Kd.R_lower ho27 (below_size (by repeat (first | (with_reducible first | exact HB.out | apply below_alloc | apply pw_below_drewN | apply below_drew1) | exact HB.out))))
                            have n2_ := Aside0.mk (below_step (by repeat (first | (with_reducible first | exact HB.out | apply below_alloc | apply pw_below_drewN | apply below_drew1) | exact HB.out)) hb)
                            have z_HI228 := fun (h0_ : b 5 = false) => (show IsS53 w w26 g228 t226 t235 from by first | exact (IsS53.below (by repeat (first | (with_reducible first | exact (Q_HI228 h0_) | apply IsS53.alloc | apply IsS53.drewN | apply IsS53.drew | apply IsS53.set_1) | exact (Q_HI228 h0_))) hb))
                            have z_HI228_e5 := fun (h0_ : b 5 = true) => (show IsS53 w w26 g228 t226 t240 from by first | exact (IsS53.below (by repeat (first | (with_reducible first | exact (Q_HI228_e5 h0_) | apply IsS53.alloc | apply IsS53.drewN | apply IsS53.drew | apply IsS53.set_1) | exact (Q_HI228_e5 h0_))) hb))
                            clear HB
                            have HO238 := n0_
                            have HB := n2_
                            clear n0_ n2_
                            clear hb ho27
                            obtain ⟨Ao28, co28, eo28⟩ := Kd.R_slice HO238.out
                            subst eo28
                            obtain ⟨ado28, fo28, _⟩ := Kd.at_string (Kd.R_reads' HO238.out).2.2 0 (by decide) (by rw [Ny236.out]; simp)
                            cases fo28
                            refine hK.out _ _ ⟨.slice (some ado28) y236.length co28, ado28, m6_, (by rw [ha.out]; exact putSel_upk 1 hb_ rfl rfl rfl), z_HI228, (by repeat (first | (with_reducible first | exact HB.out | apply below_alloc | apply pw_below_drewN | apply below_drew1) | exact HB.out)), fun _ => (by (with_reducible repeat (first | apply Kd.R_alloc | apply Kd.R_drewN | apply Kd.R_drew)); exact HO238.out), fun _ => ⟨_, rfl⟩, z_HI228_e5, fun h0_ => absurd ((hoff 6 (by kernel_rfl)).symm.trans h0_) (by decide)⟩
                          refine steps_cons ?_ ?_
                          · rintro b a w' ⟨v237, adz_v237, m6_, ha, Q_HI228, Q_HB, Q_HO238, Q_HA_HO238, Q_HI228_e5, Q_X6_⟩ hb_ hon hoff
                            refine ⟨_, rfl, fun K hK => ?_⟩
                            have e26 : a.tmps[26]? = some (.pointer (some ⟨g228, 0, none⟩)) := by rw [ha]; exact (putSel_off rfl).trans rfl
                            replace ha := Aside0.mk ha
                            have HI228 := Aside0.mk (Q_HI228 hb_)
                            have HB := Aside0.mk Q_HB
                            refine goes_ Tryd.func29 (by kernel_rfl) rfl #[.pointer (some ⟨g228, 0, none⟩), .int .i64 6] (by rfl) rfl rfl (by first | (simp only [List.map_toArray, List.map_cons, List.map_nil, Act.eval, Array.getD_eq_getD_getElem?, Option.getD_some, e26]; done) | (simp only [List.map_toArray, List.map_cons, List.map_nil, Act.eval, Array.getD_eq_getD_getElem?, Option.getD_some, e26]; rfl)) ?_
                            with_reducible refine (spec_l20Rd_pick.calls kj4 g228 t226 t235 6 t239 t240 w _ ?side1 ?side2 A15.out).mono ?_
                            (case side1 => repeat (first | (with_reducible first | exact HI228.out | apply IsS53.alloc | apply IsS53.drewN | apply IsS53.drew | apply IsS53.set_1) | exact HI228.out))
                            (case side2 => repeat (first | (with_reducible first | exact HB.out | apply below_alloc | apply pw_below_drewN | apply below_drew1 | refine below_set ?_ (IsS53.ge HI228.out)) | exact HB.out))
                            rintro e w26 ⟨rfl, hi, hb, hk⟩
                            refine ⟨_, rfl, ?_⟩
                            have n0_ := Aside0.mk (hb)
                            have n1_ := Aside0.mk (hi)
                            have z_HO238 := fun (h0_ : b 3 = true) => (show Kd.R Kd.string 9 w26 w.heap.size (fun _ => True) v237 y236 from by first | exact (Kd.R_mono (Kd.R_keep (IsS53.apart (show IsS53 w _ g228 t226 t235 from by repeat (first | (with_reducible first | exact HI228.out | apply IsS53.alloc | apply IsS53.drewN | apply IsS53.drew | apply IsS53.set_1) | exact HI228.out)) (by (with_reducible repeat (first | apply Kd.R_alloc | apply Kd.R_drewN | apply Kd.R_drew)); exact (Q_HO238 h0_)) (by decide)) hk (fun _ h => h.2)) (fun _ h => h.1)) | exact Kd.R_mono (Kd.R_mono (Kd.R_keep (IsS53.apart (show IsS53 w _ g228 t226 t235 from by repeat (first | (with_reducible first | exact HI228.out | apply IsS53.alloc | apply IsS53.drewN | apply IsS53.drew | apply IsS53.set_1) | exact HI228.out)) (by (with_reducible repeat (first | apply Kd.R_alloc | apply Kd.R_drewN | apply Kd.R_drew)); exact (Q_HO238 h0_)) (by decide)) hk (fun _ h => h.2)) (fun _ h => h.1)) (fun _ h_ => by first | trivial | exact h_ | exact h_.1))
                            clear HB
                            clear HI228
                            have HB := n0_
                            have HI228 := n1_
                            clear n0_ n1_
                            (try clear hb)
                            (try clear hb2)
                            (try clear hk)
                            (try clear hi)
                            refine hK.out _ _ ⟨v237, adz_v237, m6_, (by rw [ha.out]; exact putSel_upk 2 hb_ rfl rfl rfl), fun h0_ => absurd ((up_self b 5).symm.trans h0_) (by decide), (by repeat (first | (with_reducible first | exact HB.out | apply below_alloc | apply pw_below_drewN | apply below_drew1 | refine below_set ?_ (IsS53.ge HI228.out)) | exact HB.out)), z_HO238, Q_HA_HO238, fun _ => (by repeat (first | (with_reducible first | exact HI228.out | apply IsS53.alloc | apply IsS53.drewN | apply IsS53.drew | apply IsS53.set_1) | exact HI228.out)), fun h0_ => absurd ((hoff 6 (by kernel_rfl)).symm.trans h0_) (by decide)⟩
                          refine steps_cons ?_ ?_
                          · rintro b a w' ⟨v237, adz_v237, m6_, ha, Q_HI228, Q_HB, Q_HO238, Q_HA_HO238, Q_HI228_e5, Q_X6_⟩ hb_ hon hoff
                            refine ⟨_, rfl, fun K hK => ?_⟩
                            have e25 : a.tmps[25]? = some (v237) := by rw [ha]; exact putSel_on (e := (3, 25, v237)) 1 rfl rfl (hon 3 (by kernel_rfl)) rfl
                            have e27 : a.tmps[27]? = some (.int .i64 t239) := by rw [ha]; exact putSel_on (e := (5, 27, .int .i64 t239)) 2 rfl rfl (hon 5 (by kernel_rfl)) rfl
                            replace ha := Aside0.mk ha
                            have HB := Aside0.mk Q_HB
                            have HO238 := Aside0.mk (Q_HO238 (hon 3 (by kernel_rfl)))
                            have HA_HO238 := Aside0.mk (Q_HA_HO238 (hon 3 (by kernel_rfl)))
                            have HI228 := Aside0.mk (Q_HI228_e5 (hon 5 (by kernel_rfl)))
                            obtain ⟨c_, hv_⟩ := HA_HO238.out
                            rw [hv_] at e25
                            refine value_ (w1 := w') (v := .pointer (some (adz_v237.add (t239).toNat))) (by rfl) rfl ?_ ?_
                            · go_simp
                              (try simp only [i64_w])
                              try rfl
                            refine hK.out _ _ ⟨v237, adz_v237, (.pointer (some (adz_v237.add (t239).toNat))), (by rw [ha.out]; exact putSel_upk 3 hb_ rfl rfl rfl), fun h0_ => absurd ((hon 5 (by kernel_rfl)).symm.trans h0_) (by decide), Q_HB, Q_HO238, Q_HA_HO238, Q_HI228_e5, fun _ => rfl⟩
                          refine steps_cons ?_ ?_
                          · rintro b a w' ⟨v237, adz_v237, m6_, ha, Q_HI228, Q_HB, Q_HO238, Q_HA_HO238, Q_HI228_e5, Q_X6_⟩ hb_ hon hoff
                            refine ⟨_, rfl, fun K hK => ?_⟩
                            have e28 : a.tmps[28]? = some (m6_) := by rw [ha]; exact putSel_on (e := (6, 28, m6_)) 3 rfl rfl (hon 6 (by kernel_rfl)) rfl
                            rw [Q_X6_ (hon 6 (by kernel_rfl))] at e28
                            replace ha := Aside0.mk ha
                            have HB := Aside0.mk Q_HB
                            have HO238 := Aside0.mk (Q_HO238 (hon 3 (by kernel_rfl)))
                            have HA_HO238 := Aside0.mk (Q_HA_HO238 (hon 3 (by kernel_rfl)))
                            have HI228 := Aside0.mk (Q_HI228_e5 (hon 5 (by kernel_rfl)))
                            obtain ⟨c_, hv_⟩ := HA_HO238.out
                            have hF_ := HO238.out
                            rw [hv_] at hF_
                            obtain ⟨ad_, ea_, hx_⟩ := Kd.at_string (Kd.R_reads' hF_).2.2 t239 (of_eq_true pi241) (of_eq_true qi241)
                            cases ea_
                            refine value_ (w1 := w') (v := .string (rdOf ByteArray.empty y236 t239)) (by rfl) rfl ?_ ?_
                            · go_simp
                              (try simp only [i64_w])
                              try rfl
                            refine hK.out _ _ ⟨v237, adz_v237, m6_, (by rw [ha.out]; exact putSel_upk 4 hb_ rfl rfl rfl), fun h0_ => absurd ((hon 5 (by kernel_rfl)).symm.trans h0_) (by decide), Q_HB, Q_HO238, Q_HA_HO238, Q_HI228_e5, Q_X6_⟩
                          refine steps_cons ?_ ?_
                          · rintro b a w' ⟨v237, adz_v237, m6_, ha, Q_HI228, Q_HB, Q_HO238, Q_HA_HO238, Q_HI228_e5, Q_X6_⟩ hb_ hon hoff
                            refine ⟨_, rfl, fun K hK => ?_⟩
                            have e24 : a.tmps[24]? = some (.string (x5_4.extract 0 (t234 : Int).toNat)) := by rw [ha]; exact putSel_on (e := (2, 24, .string (x5_4.extract 0 (t234 : Int).toNat))) 0 rfl rfl (hon 2 (by kernel_rfl)) rfl
                            have e29 : a.tmps[29]? = some (.string (rdOf ByteArray.empty y236 t239)) := by rw [ha]; exact putSel_on (e := (7, 29, .string (rdOf ByteArray.empty y236 t239))) 4 rfl rfl (hon 7 (by kernel_rfl)) rfl
                            replace ha := Aside0.mk ha
                            have HB := Aside0.mk Q_HB
                            have HO238 := Aside0.mk (Q_HO238 (hon 3 (by kernel_rfl)))
                            have HA_HO238 := Aside0.mk (Q_HA_HO238 (hon 3 (by kernel_rfl)))
                            have HI228 := Aside0.mk (Q_HI228_e5 (hon 5 (by kernel_rfl)))
                            refine value_ (w1 := w') (v := .string ((x5_4.extract 0 (t234 : Int).toNat) ++ (rdOf ByteArray.empty y236 t239))) (by rfl) rfl ?_ ?_
                            · go_simp
                              (try simp only [i64_w])
                              try rfl
                              try (have q14_ := of_eq_true c14b0; simp only [ByteArray.size_append, ByteArray.size_extract] at c18 c22; omega)
                            refine hK.out _ _ ⟨v237, adz_v237, m6_, (by rw [ha.out]; exact putSel_upk 5 hb_ rfl rfl rfl), fun h0_ => absurd ((hon 5 (by kernel_rfl)).symm.trans h0_) (by decide), Q_HB, Q_HO238, Q_HA_HO238, Q_HI228_e5, Q_X6_⟩
                          refine steps_cons ?_ ?_
                          · rintro b a w' ⟨v237, adz_v237, m6_, ha, Q_HI228, Q_HB, Q_HO238, Q_HA_HO238, Q_HI228_e5, Q_X6_⟩ hb_ hon hoff
                            refine ⟨_, rfl, fun K hK => ?_⟩
                            have e32 : a.tmps[32]? = some (.int .i64 t234) := by rw [ha]; exact (putSel_off rfl).trans rfl
                            replace ha := Aside0.mk ha
                            have HB := Aside0.mk Q_HB
                            refine value_ (w1 := w') (v := .int .i64 ji19) (by rfl) rfl ?_ ?_
                            · go_simp
                              (try simp only [i64_w])
                              try rfl
                            refine hK.out _ _ ⟨v237, adz_v237, m6_, (by rw [ha.out]; exact putSel_upk 6 hb_ rfl rfl rfl), Q_HI228, Q_HB, Q_HO238, Q_HA_HO238, Q_HI228_e5, Q_X6_⟩
                          refine steps_cons ?_ ?_
                          · rintro b a w' ⟨v237, adz_v237, m6_, ha, Q_HI228, Q_HB, Q_HO238, Q_HA_HO238, Q_HI228_e5, Q_X6_⟩ hb_ hon hoff
                            refine ⟨_, rfl, fun K hK => ?_⟩
                            have e31 : a.tmps[31]? = some (.string x5_4) := by rw [ha]; exact (putSel_off rfl).trans rfl
                            have e33 : a.tmps[33]? = some (.int .i64 ji19) := by rw [ha]; exact putSel_on (e := (11, 33, .int .i64 ji19)) 6 rfl rfl (hon 11 (by kernel_rfl)) rfl
                            replace ha := Aside0.mk ha
                            have HB := Aside0.mk Q_HB
                            refine value_ (w1 := w') (v := .string (x5_4.extract ((ji19) : Int).toNat x5_4.size)) (by rfl) rfl ?_ ?_
                            · go_simp
                              (try simp only [i64_w])
                              try rfl
                            refine hK.out _ _ ⟨v237, adz_v237, m6_, (by rw [ha.out]; exact putSel_upk 7 hb_ rfl rfl rfl), Q_HI228, Q_HB, Q_HO238, Q_HA_HO238, Q_HI228_e5, Q_X6_⟩
                          refine steps_cons ?_ ?_
                          · rintro b a w' ⟨v237, adz_v237, m6_, ha, Q_HI228, Q_HB, Q_HO238, Q_HA_HO238, Q_HI228_e5, Q_X6_⟩ hb_ hon hoff
                            refine ⟨_, rfl, fun K hK => ?_⟩
                            have e30 : a.tmps[30]? = some (.string ((x5_4.extract 0 (t234 : Int).toNat) ++ (rdOf ByteArray.empty y236 t239))) := by rw [ha]; exact putSel_on (e := (8, 30, .string ((x5_4.extract 0 (t234 : Int).toNat) ++ (rdOf ByteArray.empty y236 t239)))) 5 rfl rfl (hon 8 (by kernel_rfl)) rfl
                            have e34 : a.tmps[34]? = some (.string (x5_4.extract ((ji19) : Int).toNat x5_4.size)) := by rw [ha]; exact putSel_on (e := (12, 34, .string (x5_4.extract ((ji19) : Int).toNat x5_4.size))) 7 rfl rfl (hon 12 (by kernel_rfl)) rfl
                            replace ha := Aside0.mk ha
                            have HB := Aside0.mk Q_HB
                            have HO238 := Aside0.mk (Q_HO238 (hon 3 (by kernel_rfl)))
                            have HA_HO238 := Aside0.mk (Q_HA_HO238 (hon 3 (by kernel_rfl)))
                            have HI228 := Aside0.mk (Q_HI228_e5 (hon 5 (by kernel_rfl)))
                            refine value_ (w1 := w') (v := .string (((x5_4.extract 0 (t234 : Int).toNat) ++ (rdOf ByteArray.empty y236 t239)) ++ (x5_4.extract ((ji19) : Int).toNat x5_4.size))) (by rfl) rfl ?_ ?_
                            · go_simp
                              (try simp only [i64_w])
                              try rfl
                              try (have q14_ := of_eq_true c14b0; simp only [ByteArray.size_append, ByteArray.size_extract] at c18 c22; omega)
                            refine hK.out _ _ ⟨v237, adz_v237, m6_, (by rw [ha.out]; exact putSel_upk 8 hb_ rfl rfl rfl), fun h0_ => absurd ((hon 5 (by kernel_rfl)).symm.trans h0_) (by decide), Q_HB, Q_HO238, Q_HA_HO238, Q_HI228_e5, Q_X6_⟩
                          refine steps_cons ?_ ?_
                          · rintro b a w' ⟨v237, adz_v237, m6_, ha, Q_HI228, Q_HB, Q_HO238, Q_HA_HO238, Q_HI228_e5, Q_X6_⟩ hb_ hon hoff
                            refine ⟨_, rfl, fun K hK => ?_⟩
                            have e35 : a.tmps[35]? = some (.string (((x5_4.extract 0 (t234 : Int).toNat) ++ (rdOf ByteArray.empty y236 t239)) ++ (x5_4.extract ((ji19) : Int).toNat x5_4.size))) := by rw [ha]; exact putSel_on (e := (13, 35, .string (((x5_4.extract 0 (t234 : Int).toNat) ++ (rdOf ByteArray.empty y236 t239)) ++ (x5_4.extract ((ji19) : Int).toNat x5_4.size)))) 8 rfl rfl (hon 13 (by kernel_rfl)) rfl
                            replace ha := Aside0.mk ha
                            have HB := Aside0.mk Q_HB
                            have HO238 := Aside0.mk (Q_HO238 (hon 3 (by kernel_rfl)))
                            have HA_HO238 := Aside0.mk (Q_HA_HO238 (hon 3 (by kernel_rfl)))
                            have HI228 := Aside0.mk (Q_HI228_e5 (hon 5 (by kernel_rfl)))
                            refine value_ (w1 := w') (v := .string (((x5_4.extract 0 (t234 : Int).toNat) ++ (rdOf ByteArray.empty y236 t239)) ++ (x5_4.extract ((ji19) : Int).toNat x5_4.size))) (by rfl) rfl ?_ ?_
                            · go_simp
                              (try simp only [i64_w])
                              try rfl
                              try (have q14_ := of_eq_true c14b0; simp only [ByteArray.size_append, ByteArray.size_extract] at c18 c22; omega)
                            refine hK.out _ _ ⟨v237, adz_v237, m6_, (by rw [ha.out]; exact putSel_upk 9 hb_ rfl rfl rfl), fun h0_ => absurd ((hon 5 (by kernel_rfl)).symm.trans h0_) (by decide), Q_HB, Q_HO238, Q_HA_HO238, Q_HI228_e5, Q_X6_⟩
                          exact steps_nil
                        rintro b a w30 hall ⟨v237, adz_v237, m6_, ha, Q_HI228, Q_HB, Q_HO238, Q_HA_HO238, Q_HI228_e5, Q_X6_⟩
                        clear HB HI228
                        have hb2_ := hall 2 (by kernel_rfl)
                        have hb3_ := hall 3 (by kernel_rfl)
                        have hb5_ := hall 5 (by kernel_rfl)
                        have hb6_ := hall 6 (by kernel_rfl)
                        have hb7_ := hall 7 (by kernel_rfl)
                        have hb8_ := hall 8 (by kernel_rfl)
                        have hb11_ := hall 11 (by kernel_rfl)
                        have hb12_ := hall 12 (by kernel_rfl)
                        have hb13_ := hall 13 (by kernel_rfl)
                        have hb14_ := hall 14 (by kernel_rfl)
                        subst ha
                        obtain rfl := Q_X6_ hb6_
                        simp only [putSel, hb2_, hb3_, hb5_, hb6_, hb7_, hb8_, hb11_, hb12_, hb13_, hb14_, if_true, Act.put, List.setIfInBounds_toArray, List.set_cons_zero, List.set_cons_succ]
                        clear Q_HI228
                        have HB := Aside0.mk Q_HB
                        clear Q_HB
                        have HO238 := Aside0.mk (Q_HO238 hb3_)
                        clear Q_HO238
                        have HA_HO238 := Aside0.mk (Q_HA_HO238 hb3_)
                        clear Q_HA_HO238
                        have HI228 := Aside0.mk (Q_HI228_e5 hb5_)
                        clear Q_HI228_e5
                        clear hall hb2_ hb3_ hb5_ hb6_ hb7_ hb8_ hb11_ hb12_ hb13_ hb14_
                        obtain ⟨co31, eo31⟩ := HA_HO238.out
                        clear HA_HO238
                        subst eo31
                        try go_wp2
                        go_ret
                        exact ⟨by first | rfl | (simp [errW_none, errW_some] <;> rfl) | (simp only [← hji19]; first | rfl | (simp [errW_none, errW_some] <;> rfl)) | (simp [*, errW_none, errW_some] <;> rfl), by repeat (first | (with_reducible first | exact HB.out | apply below_alloc | apply pw_below_drewN | apply below_drew1 | refine below_set ?_ (IsS53.ge HI228.out)) | exact HB.out)⟩
                      · rw [if_neg c22] at H
                        exact absurd H (by simp)
                    · rw [if_neg c21] at H
                      exact absurd H (by simp)
                  · rw [if_neg c20] at H
                    exact absurd H (by simp)
                · rw [if_neg c18] at H
                  exact absurd H (by simp)
              · rw [if_neg c17] at H
                exact absurd H (by simp)
            · rw [if_neg c16] at H
              exact absurd H (by simp)
          · rw [if_neg c14] at H
            exact absurd H (by simp)
        · rw [if_neg c13] at H
          exact absurd H (by simp)
      · rw [if_neg c11] at H
        have c11b0 : (t232 == 0) = false := beq_eq_false_iff_ne.mpr c11
        have c11b1 : (t232 != 0) = true := bne_iff_ne.mpr c11
        obtain rfl := Option.some.inj H
        go_wp2_with (first | ((with_reducible refine gate_callee (f := 29) rfl ?_); refine goesL_ (some 16) rfl rfl Tryd.func29 (by kernel_rfl) rfl #[.pointer (some ⟨g228, 0, none⟩), .int .i64 3] rfl (by (try simp only [List.map_toArray, List.map_cons, List.map_nil]); first | done | rfl | (simp only [List.length_drop, List.length_take]; rfl)) ?_; (with_reducible refine (spec_l20Rd_pick.calls kj4 g228 t226 t230 3 t232 t233 w _ ?side1 ?side2 A10.out).mono ?_); (case side1 => repeat (first | (with_reducible first | exact HI228.out | apply IsS53.alloc | apply IsS53.drewN | apply IsS53.drew | apply IsS53.set_1) | exact HI228.out)); (case side2 => repeat (first | (with_reducible first | exact HB.out | apply below_alloc | apply pw_below_drewN | apply below_drew1 | refine below_set ?_ (IsS53.ge HI228.out)) | exact HB.out)); rintro e w32 ⟨rfl, hi, hb, hk⟩; refine ⟨_, rfl, ?_⟩; have n0_ := Aside0.mk (hb); have n1_ := Aside0.mk (hi); clear HB; clear HI228; have HB := n0_; have HI228 := n1_; clear n0_ n1_; (try clear hb); (try clear hb2); (try clear hk); (try clear hi)))
        go_ret
        exact ⟨by first | rfl | (simp [errW_none, errW_some] <;> rfl) | (simp [*, errW_none, errW_some] <;> rfl), by repeat (first | (with_reducible first | exact HB.out | apply below_alloc | apply pw_below_drewN | apply below_drew1 | refine below_set ?_ (IsS53.ge HI228.out)) | exact HB.out)⟩

/-! ### laws_FnReadFactors: function 5 -/
def laws_FnReadFactors.j0 : Nat → ByteArray → Int → Bool → Bool → Option (Bool)
  | 0, _, _, _, _ => none
  | k + 1, x3, x4, x5, x32 => if x32 = true then (some false) else (if x5 = true then (if x3.size + 1 ≤ 9223372036854775807 then ((impl_ReadFactors.f k (x3 ++ (⟨#[46]⟩ : ByteArray))).bind fun bt247 => ((impl_FactorText.f k x4).bind fun t249 => (if t249.toList = x3.toList then (some (!bt247.2)) else (some false)))) else (none)) else (if x4 = (-1) then ((laws_alive.f).bind fun t250 => (some t250)) else (some false)))
def laws_FnReadFactors.f (k : Nat) (l0 : List Int) : Option (Bool) := if (l0.length : Int) > 1048576 then (some true) else ((spec_DrawReadFactors.f k l0).bind fun t242 => ((impl_ReadFactors.f k t242).bind fun bt243 => ((spec_ReadFactors.f k t242).bind fun bt245 => (if bt243.1 = bt245.1 then (laws_FnReadFactors.j0 k t242 bt243.1 bt243.2 (bt243.2 != bt245.2)) else (laws_FnReadFactors.j0 k t242 bt243.1 bt243.2 true)))))
theorem laws_FnReadFactors.mono_l : ∀ k, (∀ y0 y1 y2 y3, LeO (laws_FnReadFactors.j0 k y0 y1 y2 y3) (laws_FnReadFactors.j0 (k + 1) y0 y1 y2 y3))
  | 0 => fun _ _ _ _ r h => by simp [laws_FnReadFactors.j0] at h
  | k + 1 => by
    have ih0 := laws_FnReadFactors.mono_l k
    · intro y0 y1 y2 y3
      unfold laws_FnReadFactors.j0
      repeat' first
      | (with_reducible exact ih0 _ _ _ _)
      | (with_reducible exact impl_FactorText.mono _ _)
      | (with_reducible exact impl_ReadFactors.mono _ _)
      | (with_reducible exact spec_DrawReadFactors.mono _ _)
      | (with_reducible exact spec_ReadFactors.mono _ _)
      | (with_reducible exact LeO.refl _)
      | (with_reducible exact LeO.none _)
      | (with_reducible refine LeO.ite ?_ ?_)
      | (with_reducible refine LeO.bind ?_ (fun _ => ?_))
      | exact ih0 _ _ _ _
      | exact impl_FactorText.mono _ _
      | exact impl_ReadFactors.mono _ _
      | exact spec_DrawReadFactors.mono _ _
      | exact spec_ReadFactors.mono _ _
      | exact LeO.none _
      | refine LeO.ite ?_ ?_
      | refine LeO.bind ?_ (fun _ => ?_)
theorem laws_FnReadFactors.mono : ∀ a0 k, LeO (laws_FnReadFactors.f k a0) (laws_FnReadFactors.f (k + 1) a0) := by
  intro a0 k
  have ih0 := laws_FnReadFactors.mono_l k
  unfold laws_FnReadFactors.f
  repeat' first
      | (with_reducible exact ih0 _ _ _ _)
      | (with_reducible exact impl_FactorText.mono _ _)
      | (with_reducible exact impl_ReadFactors.mono _ _)
      | (with_reducible exact spec_DrawReadFactors.mono _ _)
      | (with_reducible exact spec_ReadFactors.mono _ _)
      | (with_reducible exact LeO.refl _)
      | (with_reducible exact LeO.none _)
      | (with_reducible refine LeO.ite ?_ ?_)
      | (with_reducible refine LeO.bind ?_ (fun _ => ?_))
      | exact ih0 _ _ _ _
      | exact impl_FactorText.mono _ _
      | exact impl_ReadFactors.mono _ _
      | exact spec_DrawReadFactors.mono _ _
      | exact spec_ReadFactors.mono _ _
      | exact LeO.none _
      | refine LeO.ite ?_ ?_
      | refine LeO.bind ?_ (fun _ => ?_)
set_option maxHeartbeats 8000000 in
set_option maxRecDepth 100000 in
theorem laws_FnReadFactors.calls (k : Nat) (A0 : Option Addr) (c0 : Nat) (l0 : List Int) (r : Bool) (w : World) (hr0 : Kd.C (Kd.int .u8) w A0 l0.length l0) (hc0 : l0.length ≤ c0) (h : laws_FnReadFactors.f k l0 = some r) (hT : TabW w) :
    Calls Tryd.prog 5 #[.slice A0 l0.length c0] w fun e w' => e = .returned (.bool r) ∧ Below w.heap.size w w' := by
  have HT := Aside0.mk hT
  clear hT
  have HR0 := Aside0.mk hr0
  have HC0 := Aside0.mk hc0
  clear hr0 hc0
  have HB := Aside0.mk (Below.refl w.heap.size w)
  have H : (if (l0.length : Int) > 1048576 then (some true) else ((spec_DrawReadFactors.f k l0).bind fun t242 => ((impl_ReadFactors.f k t242).bind fun bt243 => ((spec_ReadFactors.f k t242).bind fun bt245 => (if bt243.1 = bt245.1 then (laws_FnReadFactors.j0 k t242 bt243.1 bt243.2 (bt243.2 != bt245.2)) else (laws_FnReadFactors.j0 k t242 bt243.1 bt243.2 true)))))) = some r := h
  clear h
  by_cases c2 : (l0.length : Int) > 1048576
  · rw [if_pos c2] at H
    have c2b0 : decide (1048576 < (l0.length : Int)) = true := decide_eq_true c2
    have c2b1 : decide (1048576 < l0.length) = true := decide_eq_true (by omega)
    clear c2
    obtain rfl := Option.some.inj H
    go_enter Tryd.func5, Tryd.ntmps5
    go_wp2
    go_ret
    exact ⟨by first | rfl | (simp [errW_none, errW_some] <;> rfl) | (simp [*, errW_none, errW_some] <;> rfl), by repeat (first | (with_reducible first | exact HB.out | apply below_alloc | apply pw_below_drewN | apply below_drew1) | exact HB.out)⟩
  · rw [if_neg c2] at H
    have c2b0 : decide (1048576 < (l0.length : Int)) = false := decide_eq_false c2
    have c2b1 : decide (1048576 < l0.length) = false := decide_eq_false (by omega)
    clear c2
    replace H := Option.bind_eq_some_iff.mp H
    obtain ⟨t242, A30, H⟩ := H
    replace H : ((impl_ReadFactors.f k t242).bind fun bt243 => ((spec_ReadFactors.f k t242).bind fun bt245 => (if bt243.1 = bt245.1 then (laws_FnReadFactors.j0 k t242 bt243.1 bt243.2 (bt243.2 != bt245.2)) else (laws_FnReadFactors.j0 k t242 bt243.1 bt243.2 true)))) = some r := H
    have A3 := Aside0.mk A30
    clear A30
    replace H := Option.bind_eq_some_iff.mp H
    obtain ⟨⟨t243, t244⟩, A40, H⟩ := H
    replace H : ((spec_ReadFactors.f k t242).bind fun bt245 => (if t243 = bt245.1 then (laws_FnReadFactors.j0 k t242 t243 t244 (t244 != bt245.2)) else (laws_FnReadFactors.j0 k t242 t243 t244 true))) = some r := H
    have A4 := Aside0.mk A40
    clear A40
    replace H := Option.bind_eq_some_iff.mp H
    obtain ⟨⟨t245, t246⟩, A50, H⟩ := H
    replace H : (if t243 = t245 then (laws_FnReadFactors.j0 k t242 t243 t244 (t244 != t246)) else (laws_FnReadFactors.j0 k t242 t243 t244 true)) = some r := H
    have A5 := Aside0.mk A50
    clear A50
    have HC6 := Aside0.mk H
    clear H
    go_enter Tryd.func5, Tryd.ntmps5
    go_upto_region 6 with (first | ((with_reducible refine gate_callee (f := 13) rfl ?_); refine goesL_ (some 14) rfl rfl Tryd.func13 (by kernel_rfl) rfl #[.slice A0 l0.length c0] rfl (by (try simp only [List.map_toArray, List.map_cons, List.map_nil]); first | done | rfl | (simp only [List.length_drop, List.length_take]; rfl)) ?_; (with_reducible refine (spec_DrawReadFactors.calls k _ _ l0 t242 _ ?side1 ?side2 A3.out).mono ?_); (case side1 => repeat (first | exact HR0.out | (with_reducible refine Kd.C_alloc ?_ _) | (with_reducible refine Kd.C_drewN ?_ _) | (with_reducible refine Kd.C_drew ?_))); (case side2 => exact HC0.out); rintro e w7 ⟨rfl, hb⟩; refine ⟨_, rfl, ?_⟩; have n0_ := Aside0.mk (below_step (by repeat (first | (with_reducible first | exact HB.out | apply below_alloc | apply pw_below_drewN | apply below_drew1) | exact HB.out)) hb); clear HB; have HB := n0_; clear n0_; (try clear hb); (try clear hb2); (try clear hk); (try clear hi)) | ((with_reducible refine gate_callee (f := 11) rfl ?_); refine goesL_ (some 17) rfl rfl Tryd.func11 (by kernel_rfl) rfl #[.string t242] rfl (by (try simp only [List.map_toArray, List.map_cons, List.map_nil]); first | done | rfl | (simp only [List.length_drop, List.length_take]; rfl)) ?_; (with_reducible refine (impl_ReadFactors.calls k t242 t243 t244 _ A4.out (TabW.below HT.out (by repeat (first | (with_reducible first | exact HB.out | apply below_alloc | apply pw_below_drewN | apply below_drew1) | exact HB.out)))).mono ?_); rintro e w8 ⟨rfl, hb⟩; refine ⟨_, rfl, ?_⟩; have n0_ := Aside0.mk (below_step (by repeat (first | (with_reducible first | exact HB.out | apply below_alloc | apply pw_below_drewN | apply below_drew1) | exact HB.out)) hb); clear HB; have HB := n0_; clear n0_; (try clear hb); (try clear hb2); (try clear hk); (try clear hi)) | ((with_reducible refine gate_callee (f := 12) rfl ?_); refine goesL_ (some 22) rfl rfl Tryd.func12 (by kernel_rfl) rfl #[.string t242] rfl (by (try simp only [List.map_toArray, List.map_cons, List.map_nil]); first | done | rfl | (simp only [List.length_drop, List.length_take]; rfl)) ?_; (with_reducible refine (spec_ReadFactors.calls k t242 t245 t246 _ A5.out).mono ?_); rintro e w9 ⟨rfl, hb⟩; refine ⟨_, rfl, ?_⟩; have n0_ := Aside0.mk (below_step (by repeat (first | (with_reducible first | exact HB.out | apply below_alloc | apply pw_below_drewN | apply below_drew1) | exact HB.out)) hb); clear HB; have HB := n0_; clear n0_; (try clear hb); (try clear hb2); (try clear hk); (try clear hi)))
    (try simp only [Act.put, List.setIfInBounds_toArray, List.set_cons_zero, List.set_cons_succ])
    go_cut [32] (fun v32 wc => ∃ (kq : Nat) (x32_5 : Bool), v32 = .bool x32_5 ∧ Aside0 (laws_FnReadFactors.j0 kq t242 t243 t244 x32_5 = some r) ∧ Aside0 (kq ≤ k) ∧ Aside0 (Below w.heap.size w wc))
    case first =>
      have H := HC6.out
      clear HC6
      by_cases c10 : t243 = t245
      · rw [if_pos c10] at H
        have c10b0 : (t243 == t245) = true := beq_iff_eq.mpr c10
        have c10b1 : (t243 != t245) = false := bne_eq_false_iff_eq.mpr c10
        clear c10
        (first | rw [c10b0] | (simp only [i64_w, i32_w]; rw [c10b0]) | skip)
        have H' := Aside0.mk H
        clear H
        go_wp2
        go_meet
        case rel => exact ⟨_, ((t244 != t246)), (by first | rfl | (simp; done) | (simp [*]; done)), H', ⟨by first | omega | exact Nat.le_refl _⟩, ⟨by repeat (first | (with_reducible first | exact HB.out | apply below_alloc | apply pw_below_drewN | apply below_drew1) | exact HB.out)⟩⟩
      · rw [if_neg c10] at H
        have c10b0 : (t243 == t245) = false := beq_eq_false_iff_ne.mpr c10
        have c10b1 : (t243 != t245) = true := bne_iff_ne.mpr c10
        (first | rw [c10b0] | (simp only [i64_w, i32_w]; rw [c10b0]) | skip)
        have H' := Aside0.mk H
        clear H
        go_wp2
        go_meet
        case rel => exact ⟨_, (true), (by first | rfl | (simp; done) | (simp [*]; done)), H', ⟨by first | omega | exact Nat.le_refl _⟩, ⟨by repeat (first | (with_reducible first | exact HB.out | apply below_alloc | apply pw_below_drewN | apply below_drew1) | exact HB.out)⟩⟩
    case rest =>
      clear HC6
      try clear c1
      try clear c2
      try clear c2b0
      try clear c2b1
      try clear p2
      try clear c5
      try clear c10
      try clear c10b0
      try clear c10b1
      obtain ⟨kq, x32_5, rfl, HA, HJ5, HB⟩ := hcut
      cases kq with
      | zero => exact absurd HA.out (by simp [laws_FnReadFactors.j0])
      | succ kj5 =>
        have H := HA.out
        clear HA
        simp only [laws_FnReadFactors.j0] at H
        by_cases c11 : x32_5 = true
        · subst c11
          have H1 : (some false) = some r := by rw [if_pos rfl] at H; exact H
          clear H
          have H := H1
          clear H1
          obtain rfl := Option.some.inj H
          go_wp2
          go_ret
          exact ⟨by first | rfl | (simp [errW_none, errW_some] <;> rfl) | (simp [*, errW_none, errW_some] <;> rfl), by repeat (first | (with_reducible first | exact HB.out | apply below_alloc | apply pw_below_drewN | apply below_drew1) | exact HB.out)⟩
        · replace c11 := Bool.eq_false_iff.mpr c11
          subst c11
          have H1 : (if t244 = true then (if t242.size + 1 ≤ 9223372036854775807 then ((impl_ReadFactors.f kj5 (t242 ++ (⟨#[46]⟩ : ByteArray))).bind fun bt247 => ((impl_FactorText.f kj5 t243).bind fun t249 => (if t249.toList = t242.toList then (some (!bt247.2)) else (some false)))) else (none)) else (if t243 = (-1) then ((laws_alive.f).bind fun t250 => (some t250)) else (some false))) = some r := by rw [if_neg (show ¬ (false = true) by decide)] at H; exact H
          clear H
          have H := H1
          clear H1
          by_cases c12 : t244 = true
          · subst c12
            have H1 : (if t242.size + 1 ≤ 9223372036854775807 then ((impl_ReadFactors.f kj5 (t242 ++ (⟨#[46]⟩ : ByteArray))).bind fun bt247 => ((impl_FactorText.f kj5 t243).bind fun t249 => (if t249.toList = t242.toList then (some (!bt247.2)) else (some false)))) else (none)) = some r := by rw [if_pos rfl] at H; exact H
            clear H
            have H := H1
            clear H1
            by_cases c13 : t242.size + 1 ≤ 9223372036854775807
            · rw [if_pos c13] at H
              have c13b0 := eq_true c13
              have c13b1 : decide (t242.size + 1 ≤ 9223372036854775807) = true := decide_eq_true c13
              try have c13b2 : (9223372036854775807 < t242.size + 1) = False := eq_false (Nat.not_lt.2 c13)
              replace H := Option.bind_eq_some_iff.mp H
              obtain ⟨⟨t247, t248⟩, A140, H⟩ := H
              replace H : ((impl_FactorText.f kj5 t243).bind fun t249 => (if t249.toList = t242.toList then (some (!t248)) else (some false))) = some r := H
              have A14 := Aside0.mk A140
              clear A140
              replace H := Option.bind_eq_some_iff.mp H
              obtain ⟨t249, A150, H⟩ := H
              replace H : (if t249.toList = t242.toList then (some (!t248)) else (some false)) = some r := H
              have A15 := Aside0.mk A150
              clear A150
              by_cases c16 : t249.toList = t242.toList
              · rw [if_pos c16] at H
                have c16b0 : (t249.toList == t242.toList) = true := beq_iff_eq.mpr c16
                have c16b1 : (t249.toList != t242.toList) = false := bne_eq_false_iff_eq.mpr c16
                clear c16
                obtain rfl := Option.some.inj H
                go_wp2_with (first | ((with_reducible refine gate_callee (f := 11) rfl ?_); refine goesL_ (some 43) rfl rfl Tryd.func11 (by kernel_rfl) rfl #[.string (t242 ++ (⟨#[46]⟩ : ByteArray))] rfl (by (try simp only [List.map_toArray, List.map_cons, List.map_nil]); first | done | rfl | (simp only [List.length_drop, List.length_take]; rfl)) ?_; (with_reducible refine (impl_ReadFactors.calls kj5 (t242 ++ (⟨#[46]⟩ : ByteArray)) t247 t248 _ A14.out (TabW.below HT.out (by repeat (first | (with_reducible first | exact HB.out | apply below_alloc | apply pw_below_drewN | apply below_drew1) | exact HB.out)))).mono ?_); rintro e w17 ⟨rfl, hb⟩; refine ⟨_, rfl, ?_⟩; have n0_ := Aside0.mk (below_step (by repeat (first | (with_reducible first | exact HB.out | apply below_alloc | apply pw_below_drewN | apply below_drew1) | exact HB.out)) hb); clear HB; have HB := n0_; clear n0_; (try clear hb); (try clear hb2); (try clear hk); (try clear hi)) | ((with_reducible refine gate_callee (f := 8) rfl ?_); refine goesL_ (some 47) rfl rfl Tryd.func8 (by kernel_rfl) rfl #[.int .i64 t243] rfl (by (try simp only [List.map_toArray, List.map_cons, List.map_nil]); first | done | rfl | (simp only [List.length_drop, List.length_take]; rfl)) ?_; (with_reducible refine (impl_FactorText.calls kj5 t243 t249 _ A15.out (TabW.below HT.out (by repeat (first | (with_reducible first | exact HB.out | apply below_alloc | apply pw_below_drewN | apply below_drew1) | exact HB.out)))).mono ?_); rintro e w18 ⟨rfl, hb⟩; refine ⟨_, rfl, ?_⟩; have n0_ := Aside0.mk (below_step (by repeat (first | (with_reducible first | exact HB.out | apply below_alloc | apply pw_below_drewN | apply below_drew1) | exact HB.out)) hb); clear HB; have HB := n0_; clear n0_; (try clear hb); (try clear hb2); (try clear hk); (try clear hi)))
                go_ret
                exact ⟨by first | rfl | (simp [errW_none, errW_some] <;> rfl) | (simp [*, errW_none, errW_some] <;> rfl), by repeat (first | (with_reducible first | exact HB.out | apply below_alloc | apply pw_below_drewN | apply below_drew1) | exact HB.out)⟩
              · rw [if_neg c16] at H
                have c16b0 : (t249.toList == t242.toList) = false := beq_eq_false_iff_ne.mpr c16
                have c16b1 : (t249.toList != t242.toList) = true := bne_iff_ne.mpr c16
                obtain rfl := Option.some.inj H
                go_wp2_with (first | ((with_reducible refine gate_callee (f := 11) rfl ?_); refine goesL_ (some 43) rfl rfl Tryd.func11 (by kernel_rfl) rfl #[.string (t242 ++ (⟨#[46]⟩ : ByteArray))] rfl (by (try simp only [List.map_toArray, List.map_cons, List.map_nil]); first | done | rfl | (simp only [List.length_drop, List.length_take]; rfl)) ?_; (with_reducible refine (impl_ReadFactors.calls kj5 (t242 ++ (⟨#[46]⟩ : ByteArray)) t247 t248 _ A14.out (TabW.below HT.out (by repeat (first | (with_reducible first | exact HB.out | apply below_alloc | apply pw_below_drewN | apply below_drew1) | exact HB.out)))).mono ?_); rintro e w19 ⟨rfl, hb⟩; refine ⟨_, rfl, ?_⟩; have n0_ := Aside0.mk (below_step (by repeat (first | (with_reducible first | exact HB.out | apply below_alloc | apply pw_below_drewN | apply below_drew1) | exact HB.out)) hb); clear HB; have HB := n0_; clear n0_; (try clear hb); (try clear hb2); (try clear hk); (try clear hi)) | ((with_reducible refine gate_callee (f := 8) rfl ?_); refine goesL_ (some 47) rfl rfl Tryd.func8 (by kernel_rfl) rfl #[.int .i64 t243] rfl (by (try simp only [List.map_toArray, List.map_cons, List.map_nil]); first | done | rfl | (simp only [List.length_drop, List.length_take]; rfl)) ?_; (with_reducible refine (impl_FactorText.calls kj5 t243 t249 _ A15.out (TabW.below HT.out (by repeat (first | (with_reducible first | exact HB.out | apply below_alloc | apply pw_below_drewN | apply below_drew1) | exact HB.out)))).mono ?_); rintro e w20 ⟨rfl, hb⟩; refine ⟨_, rfl, ?_⟩; have n0_ := Aside0.mk (below_step (by repeat (first | (with_reducible first | exact HB.out | apply below_alloc | apply pw_below_drewN | apply below_drew1) | exact HB.out)) hb); clear HB; have HB := n0_; clear n0_; (try clear hb); (try clear hb2); (try clear hk); (try clear hi)))
                go_ret
                exact ⟨by first | rfl | (simp [errW_none, errW_some] <;> rfl) | (simp [*, errW_none, errW_some] <;> rfl), by repeat (first | (with_reducible first | exact HB.out | apply below_alloc | apply pw_below_drewN | apply below_drew1) | exact HB.out)⟩
            · rw [if_neg c13] at H
              exact absurd H (by simp)
          · replace c12 := Bool.eq_false_iff.mpr c12
            subst c12
            have H1 : (if t243 = (-1) then ((laws_alive.f).bind fun t250 => (some t250)) else (some false)) = some r := by rw [if_neg (show ¬ (false = true) by decide)] at H; exact H
            clear H
            have H := H1
            clear H1
            by_cases c21 : t243 = (-1)
            · rw [if_pos c21] at H
              have c21b0 : (t243 == (-1)) = true := beq_iff_eq.mpr c21
              have c21b1 : (t243 != (-1)) = false := bne_eq_false_iff_eq.mpr c21
              clear c21
              replace H := Option.bind_eq_some_iff.mp H
              obtain ⟨t250, A220, H⟩ := H
              replace H : (some t250) = some r := H
              have A22 := Aside0.mk A220
              clear A220
              obtain rfl := Option.some.inj H
              go_wp2_with (first | (go_at_call 10; (with_reducible refine (laws_alive.calls  t250 _ A22.out).mono ?_); rintro e w' ⟨rfl, ⟨nd, rfl⟩⟩))
              go_ret
              exact ⟨by first | rfl | (simp [errW_none, errW_some] <;> rfl) | (simp [*, errW_none, errW_some] <;> rfl), by repeat (first | (with_reducible first | exact HB.out | apply below_alloc | apply pw_below_drewN | apply below_drew1) | exact HB.out)⟩
            · rw [if_neg c21] at H
              have c21b0 : (t243 == (-1)) = false := beq_eq_false_iff_ne.mpr c21
              have c21b1 : (t243 != (-1)) = true := bne_iff_ne.mpr c21
              obtain rfl := Option.some.inj H
              go_wp2
              go_ret
              exact ⟨by first | rfl | (simp [errW_none, errW_some] <;> rfl) | (simp [*, errW_none, errW_some] <;> rfl), by repeat (first | (with_reducible first | exact HB.out | apply below_alloc | apply pw_below_drewN | apply below_drew1) | exact HB.out)⟩

/-- THE ONE PURE STATEMENT of laws_FnReadFactors: yours. -/
def laws_FnReadFactors.Pure : Prop := ∀ (l0 : List Int), l0.length ≤ maxLen → l0.length * 1 ≤ 140737488351232 → (∀ x ∈ l0, (Lit.int .u8 x).wf = true) → ∃ k, laws_FnReadFactors.f k l0 = some true
theorem laws_FnReadFactors.walk (P : laws_FnReadFactors.Pure) (a0 : Option Addr) (len0 cap0 : Nat) (z0 : List Int) (w : World) (w0 : (a0 = none ∧ len0 = 0 ∧ cap0 = 0 ∧ z0 = []) ∨ ∃ x, a0 = some x ∧ len0 ≤ cap0 ∧ cap0 ≤ maxLen ∧ z0.length = cap0 ∧ (∀ i, i < z0.length → w.cell? (x.add i) = some (.int .u8 (z0.getD i 0))) ∧ ∀ n ∈ z0, (Lit.int .u8 n).wf = true) (y0 : len0 * 1 ≤ 140737488351232) (hT : TabW w) :
    Calls Tryd.prog 5 #[.slice a0 len0 cap0] w fun e w' => e = .returned (.bool true) ∧ Below w.heap.size w w' := by
  obtain ⟨l0, rfl, hr0, hm0, hw0, hc0⟩ := ReadsInt.ofRowC w0
  obtain ⟨k, h⟩ := P l0 hm0 y0 hw0
  refine (laws_FnReadFactors.calls k _ _ l0 true w (Kd.C_of_reads (d := (0 : Int)) (h1 := fun _ => rfl) hr0) hc0 h hT).mono ?_
  rintro e w' ⟨rfl, hd⟩
  exact ⟨rfl, hd⟩

end Go.Proofs.YtcihlmfjbfgfoaaDoor.PFnReadFactors
