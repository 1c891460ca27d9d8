/- Short words for what the walks of this seat say most often. -/
import Derived.Test.YteebmpbhhpmhbaaWWords
import Derived.Test.YteebmpbhhpmhbaaWLast
import Derived.Test.YteebmpbhhpmhbaaWMore
open Go.RowKit Go.Proofs.YteebmpbhhpmhbaaW.PrintWords Go.Proofs.YteebmpbhhpmhbaaW.PrintLast Go.Proofs.YteebmpbhhpmhbaaW.PrintMore
namespace Go.Proofs.Yteebmpbhhpmhbaa.Z
macro "bw_ " h:ident : tactic => `(tactic| repeat (first | (with_reducible first | exact ($h).out | apply below_alloc | apply pw_below_drewN | apply below_drew1) | exact ($h).out))
macro "mp_" : tactic => `(tactic| ((try simp only [List.map_toArray, List.map_cons, List.map_nil]); first | done | rfl | (simp only [List.length_drop, List.length_take]; rfl)))
macro "ra_" : tactic => `(tactic| (with_reducible repeat (first | apply Kd.R_alloc | apply Kd.R_drewN | apply Kd.R_drew)))
macro "qa_" : tactic => `(tactic| (with_reducible repeat (first | apply Kd.Q_alloc | apply Kd.Q_drewN | apply Kd.Q_drew)))
macro "ca_" : tactic => `(tactic| first | (with_reducible refine Kd.C_alloc ?_ _) | (with_reducible refine Kd.C_drewN ?_ _) | (with_reducible refine Kd.C_drew ?_))
macro "hk_ " h:ident : tactic => `(tactic| first | (with_reducible first | exact ($h).out | apply KeepBut.set_ | apply keep_drewN | apply keep_drew | apply keep_alloc) | exact ($h).out)
macro "rf_" : tactic => `(tactic| first | rfl | (simp [errW_none, errW_some] <;> rfl) | (simp [*, errW_none, errW_some] <;> rfl))
macro "rg_" : tactic => `(tactic| first | rfl | (simp; done) | (simp [*]; done))
macro "dr_" : tactic => `(tactic| repeat (first | exact Drawn0.refl _ | apply Drawn0.step))
macro "as_" : tactic => `(tactic| first | (with_reducible assumption) | assumption)
end Go.Proofs.Yteebmpbhhpmhbaa.Z
