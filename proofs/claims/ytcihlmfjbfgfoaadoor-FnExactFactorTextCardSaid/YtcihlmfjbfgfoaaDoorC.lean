/- The library's functions that the texts of numbers call, each as a plain function on bytes, by the shelf's contracts. -/
import Derived.Test.YtcihlmfjbfgfoaaDoorShelf
import Derived.Test.YtcihlmfjbfgfoaaDoorWWords
import Derived.Test.YtcihlmfjbfgfoaaDoorWLast
import Derived.Test.YtcihlmfjbfgfoaaDoorWMore
namespace Go.Proofs.YtcihlmfjbfgfoaaDoor.Clos
open Go.RowKit Go.Proofs.YtcihlmfjbfgfoaaDoorW.PrintWords Go.Proofs.YtcihlmfjbfgfoaaDoorW.PrintLast Go.Proofs.YtcihlmfjbfgfoaaDoorW.PrintMore
set_option linter.unusedVariables false
/-- The library's table is as its text lays it. -/
def TabW (w : World) : Prop := Lib.TabIs Tryd.prog w "internal/strconv.uint64pow10" .u64 Lib.pow10Tab
theorem TabW.below {w w' : World} (h : TabW w) (hb : Below w.heap.size w w') : TabW w' := by
  unfold TabW Lib.TabIs World.var? at *
  cases hg : Tryd.prog.globalNamed "internal/strconv.uint64pow10" with
  | none => rw [hg] at h; cases h
  | some g =>
    rw [hg] at h
    simp only [Option.bind_some] at h ⊢
    by_cases c : g < w.heap.size
    · rw [hb.block g c]; exact h
    · have e : w.heap[g]? = none := by simp; omega
      rw [e] at h; cases h
/-- What Itoa writes. -/
def itB (n : Int) : ByteArray := ⟨(Lib.itoa n).toArray⟩
def strconv_Itoa_18.f (a0 : Int) : Option ByteArray := if 0 ≤ a0 ∧ a0 ≤ 1000000 then some (itB a0) else none
theorem grow_below (w : World) (k : Nat) (os : Array Obj) : Below w.heap.size w (Go.Sort.grow (w.drewN k) os) := by
  have h : (Go.Sort.grow (w.drewN k) os).heap = w.heap ++ os := rfl
  refine ⟨rfl, rfl, rfl, ?_, fun i hi => ?_⟩
  · rw [h, Array.size_append]; omega
  · rw [h, Array.getElem?_append_left hi]
theorem strconv_Itoa_18.calls (a0 : Int) (r : ByteArray) (w : World) (h : strconv_Itoa_18.f a0 = some r) (hT : TabW w) :
    Calls Tryd.prog 18 #[.int .i64 a0] w fun e w' => e = .returned (.string r) ∧ Below w.heap.size w w' := by
  unfold strconv_Itoa_18.f at h
  by_cases c : 0 ≤ a0 ∧ a0 ≤ 1000000
  · rw [if_pos c] at h
    obtain rfl := Option.some.inj h
    refine (Tryd.strconv_Itoa a0 (by omega) (by omega) w hT).mono ?_
    rintro e w' ⟨rfl, k, os, rfl⟩
    exact ⟨rfl, grow_below w k os⟩
  · rw [if_neg c] at h; cases h
/-- What Join writes. -/
def jnB (l : List ByteArray) (s : ByteArray) : ByteArray := ⟨(Lib.join (l.map (·.data.toList)) s.data.toList).toArray⟩
def strings_Join.f (l0 : List ByteArray) (a1 : ByteArray) : Option ByteArray := if l0 ≠ [] ∧ l0.length ≤ 1000000 ∧ (Lib.join (l0.map (·.data.toList)) a1.data.toList).length ≤ 100000000000 then some (jnB l0 a1) else none
theorem strings_Join.calls (A0 : Option Addr) (c0 : Nat) (l0 : List ByteArray) (a1 : ByteArray) (r : ByteArray) (w : World) (hr0 : Kd.C Kd.string w A0 l0.length l0) (hc0 : l0.length ≤ c0) (h : strings_Join.f l0 a1 = some r) :
    Calls Tryd.prog 19 #[.slice A0 l0.length c0, .string a1] w fun e w' => e = .returned (.string r) ∧ Below w.heap.size w w' := by
  unfold strings_Join.f at h
  by_cases c : l0 ≠ [] ∧ l0.length ≤ 1000000 ∧ (Lib.join (l0.map (·.data.toList)) a1.data.toList).length ≤ 100000000000
  · rw [if_pos c] at h
    obtain rfl := Option.some.inj h
    have hp : 0 < l0.length := List.length_pos_iff.2 c.1
    obtain ⟨_, _, h3⟩ := hr0
    obtain ⟨ad, rfl, hc⟩ := h3 hp
    have cell : ∀ (j : Nat) x, l0[j]? = some x → w.cell? (ad.add j) = some (.string x) := fun j x hx => by
      obtain ⟨cs, _, hK, hcc⟩ := hc j x hx
      have e : cs = [Value.string x] := hK
      subst e
      have := hcc 0 _ rfl
      rwa [show Kd.string.sz = 1 from rfl, Nat.mul_one, Nat.add_zero] at this
    have c00 := cell 0 (l0.getD 0 ⟨#[]⟩) (by rw [List.getD_eq_getElem?_getD, List.getElem?_eq_getElem hp]; rfl)
    obtain ⟨b, o, sp⟩ := ad
    have e0 : (Addr.mk b o sp).add 0 = ⟨b, o, sp⟩ := rfl
    rw [e0] at c00
    have hs : sp = none := by
      unfold World.cell? at c00
      cases hh : w.heap[b]? with
      | none => simp [hh] at c00
      | some ob =>
        cases ob <;> simp [hh] at c00
        exact c00.1
    subst hs
    have hb : b < w.heap.size := by
      unfold World.cell? at c00
      by_cases q : b < w.heap.size
      · exact q
      · rw [show w.heap[b]? = none by simp; omega] at c00; cases c00
    refine (Tryd.strings_Join b o c0 l0 a1 w (fun j x hx => ?_) hb (by omega) hc0 (by omega)).mono ?_
    · have := cell j x hx
      unfold Addr.add at this
      by_cases q : j = 0
      · subst q; exact this
      · rw [if_neg q] at this; exact this
    · rintro e w' ⟨rfl, hb⟩
      exact ⟨rfl, hb⟩
  · rw [if_neg c] at h; cases h
end Go.Proofs.YtcihlmfjbfgfoaaDoor.Clos
