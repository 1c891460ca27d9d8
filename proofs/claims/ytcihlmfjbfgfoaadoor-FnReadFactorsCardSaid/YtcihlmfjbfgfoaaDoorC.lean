/- The library's functions that the texts of numbers call, each as a plain function on bytes, by the shelf's contracts. -/
import Derived.Test.YtcihlmfjbfgfoaaDoorShelf
import Derived.Test.YtcihlmfjbfgfoaaDoorWWords
import Derived.Test.YtcihlmfjbfgfoaaDoorWLast
import Derived.Test.YtcihlmfjbfgfoaaDoorWMore
namespace Go.Proofs.YtcihlmfjbfgfoaaDoor.Clos
open Go.RowKit Go.Proofs.YtcihlmfjbfgfoaaDoorW.PrintWords Go.Proofs.YtcihlmfjbfgfoaaDoorW.PrintLast Go.Proofs.YtcihlmfjbfgfoaaDoorW.PrintMore
set_option linter.unusedVariables false
/-- What the library reads of its own variables: the table as its text lays it, the length of short texts, the two errors. -/
structure TabW (w : World) : Prop where
  tab : Lib.TabIs Tryd.prog w "internal/strconv.uint64pow10" .u64 Lib.pow10Tab
  len : ∃ m, w.cell? ⟨0, 0, none⟩ = some (.int .i64 m)
  syn : ∃ tp p, w.var? Tryd.prog "strconv.ErrSyntax" = some #[.iface tp p]
  rng : ∃ tp p, w.var? Tryd.prog "strconv.ErrRange" = some #[.iface tp p]
theorem var_below {w w' : World} {s : String} {cs : Array Value} (h : w.var? Tryd.prog s = some cs) (hb : Below w.heap.size w w') : w'.var? Tryd.prog s = some cs := by
  unfold World.var? at *
  cases hg : Tryd.prog.globalNamed s with
  | none => rw [hg] at h; cases h
  | some g =>
    rw [hg] at h
    simp only [Option.bind_some] at h ⊢
    by_cases c : g < w.heap.size
    · rw [hb.block g c]; exact h
    · have e : w.heap[g]? = none := by simp; omega
      rw [e] at h; cases h
theorem TabW.below {w w' : World} (h : TabW w) (hb : Below w.heap.size w w') : TabW w' := by
  obtain ⟨h1, ⟨m, h2⟩, ⟨t3, p3, h3⟩, ⟨t4, p4, h4⟩⟩ := h
  refine ⟨?_, ⟨m, ?_⟩, ⟨t3, p3, var_below h3 hb⟩, ⟨t4, p4, var_below h4 hb⟩⟩
  · unfold Lib.TabIs at *
    exact var_below h1 hb
  · exact (hb.cell (World.block_lt_of_cell? w _ h2)).trans h2
/-- What Itoa writes. -/
def itB (n : Int) : ByteArray := ⟨(Lib.itoa n).toArray⟩
def strconv_Itoa_18.f (a0 : Int) : Option ByteArray := if 0 ≤ a0 ∧ a0 ≤ 1000000 then some (itB a0) else none
theorem grow_below (w : World) (k : Nat) (os : Array Obj) : Below w.heap.size w (Go.Sort.grow (w.drewN k) os) := by
  have h : (Go.Sort.grow (w.drewN k) os).heap = w.heap ++ os := rfl
  refine ⟨rfl, rfl, rfl, ?_, fun i hi => ?_⟩
  · rw [h, Array.size_append]; omega
  · rw [h, Array.getElem?_append_left hi]
theorem strconv_Itoa_18.calls (a0 : Int) (r : ByteArray) (w : World) (h : strconv_Itoa_18.f a0 = some r) (hT : TabW w) :
    Calls Tryd.prog 18 #[.int .i64 a0] w fun e w' => e = .returned (.string r) ∧ Below w.heap.size w w' := by
  unfold strconv_Itoa_18.f at h
  by_cases c : 0 ≤ a0 ∧ a0 ≤ 1000000
  · rw [if_pos c] at h
    obtain rfl := Option.some.inj h
    refine (Tryd.strconv_Itoa a0 (by omega) (by omega) w hT.tab).mono ?_
    rintro e w' ⟨rfl, k, os, rfl⟩
    exact ⟨rfl, grow_below w k os⟩
  · rw [if_neg c] at h; cases h
/-- What Join writes. -/
def jnB (l : List ByteArray) (s : ByteArray) : ByteArray := ⟨(Lib.join (l.map (·.data.toList)) s.data.toList).toArray⟩
def strings_Join.f (l0 : List ByteArray) (a1 : ByteArray) : Option ByteArray := if l0 ≠ [] ∧ l0.length ≤ 1000000 ∧ (Lib.join (l0.map (·.data.toList)) a1.data.toList).length ≤ 100000000000 then some (jnB l0 a1) else none
theorem strings_Join.calls (A0 : Option Addr) (c0 : Nat) (l0 : List ByteArray) (a1 : ByteArray) (r : ByteArray) (w : World) (hr0 : Kd.C Kd.string w A0 l0.length l0) (hc0 : l0.length ≤ c0) (h : strings_Join.f l0 a1 = some r) :
    Calls Tryd.prog 19 #[.slice A0 l0.length c0, .string a1] w fun e w' => e = .returned (.string r) ∧ Below w.heap.size w w' := by
  unfold strings_Join.f at h
  by_cases c : l0 ≠ [] ∧ l0.length ≤ 1000000 ∧ (Lib.join (l0.map (·.data.toList)) a1.data.toList).length ≤ 100000000000
  · rw [if_pos c] at h
    obtain rfl := Option.some.inj h
    have hp : 0 < l0.length := List.length_pos_iff.2 c.1
    obtain ⟨_, _, h3⟩ := hr0
    obtain ⟨ad, rfl, hc⟩ := h3 hp
    have cell : ∀ (j : Nat) x, l0[j]? = some x → w.cell? (ad.add j) = some (.string x) := fun j x hx => by
      obtain ⟨cs, _, hK, hcc⟩ := hc j x hx
      have e : cs = [Value.string x] := hK
      subst e
      have := hcc 0 _ rfl
      rwa [show Kd.string.sz = 1 from rfl, Nat.mul_one, Nat.add_zero] at this
    have c00 := cell 0 (l0.getD 0 ⟨#[]⟩) (by rw [List.getD_eq_getElem?_getD, List.getElem?_eq_getElem hp]; rfl)
    obtain ⟨b, o, sp⟩ := ad
    have e0 : (Addr.mk b o sp).add 0 = ⟨b, o, sp⟩ := rfl
    rw [e0] at c00
    have hs : sp = none := by
      unfold World.cell? at c00
      cases hh : w.heap[b]? with
      | none => simp [hh] at c00
      | some ob =>
        cases ob <;> simp [hh] at c00
        exact c00.1
    subst hs
    have hb : b < w.heap.size := by
      unfold World.cell? at c00
      by_cases q : b < w.heap.size
      · exact q
      · rw [show w.heap[b]? = none by simp; omega] at c00; cases c00
    refine (Tryd.strings_Join b o c0 l0 a1 w (fun j x hx => ?_) hb (by omega) hc0 (by omega)).mono ?_
    · have := cell j x hx
      unfold Addr.add at this
      by_cases q : j = 0
      · subst q; exact this
      · rw [if_neg q] at this; exact this
    · rintro e w' ⟨rfl, hb⟩
      exact ⟨rfl, hb⟩
  · rw [if_neg c] at h; cases h
/-- What Split tells. -/
def strings_Split.f (a0 a1 : ByteArray) : Option (List ByteArray) := if a0.size ≤ 1000000 ∧ 1 ≤ a1.size then some (Lib.splitB a1 0 (Lib.countB a0 a1) a0) else none
theorem strings_Split.calls (a0 a1 : ByteArray) (r : List ByteArray) (w : World) (h : strings_Split.f a0 a1 = some r) (hT : TabW w) :
    Calls Tryd.prog 24 #[.string a0, .string a1] w fun e w' => ∃ v0_ : Value, e = .returned (v0_) ∧ Kd.R Kd.string 9 w' w.heap.size (fun _ => True) v0_ r ∧ Below w.heap.size w w' := by
  unfold strings_Split.f at h
  by_cases c : a0.size ≤ 1000000 ∧ 1 ≤ a1.size
  · rw [if_pos c] at h
    obtain rfl := Option.some.inj h
    obtain ⟨m, hm⟩ := hT.len
    refine (Tryd.strings_Split a0 a1 m w (by omega) hm c.2).mono ?_
    rintro e w' ⟨rfl, rfl⟩
    have hl : (Lib.splitB a1 0 (Lib.countB a0 a1) a0).length = Lib.countB a0 a1 + 1 := Lib.splitB_all a1 c.2 0 _ a0 rfl
    have hle := Lib.countB_le a1 c.2 a0.size a0 (Nat.le_refl _)
    refine ⟨_, rfl, ?_, below_alloc (Below.refl _ _) _⟩
    have hO := World.ownsRow_lit (base := w.heap.size) (e := 9) (size := 1) w ((Lib.splitB a1 0 (Lib.countB a0 a1) a0).map Value.string).toArray (Lib.countB a0 a1 + 1) (Nat.le_refl _) (by simp only [maxLen]; omega) (by simp [hl])
    refine Kd.R_of_own (enc := Value.string) (h1 := fun _ => rfl) ?_ (fun _ _ => trivial)
    rw [hl]
    exact hO
  · rw [if_neg c] at h; cases h
/-- What Cut tells. -/
def strings_Cut.f (a0 a1 : ByteArray) : Option (ByteArray × ByteArray × Bool) := if a0.size ≤ 1000000 then some (⟨(Lib.cut a0.data.toList a1.data.toList).1.toArray⟩, ⟨(Lib.cut a0.data.toList a1.data.toList).2.1.toArray⟩, (Lib.cut a0.data.toList a1.data.toList).2.2) else none
theorem strings_Cut.calls (a0 a1 : ByteArray) (r1 r2 : ByteArray) (r3 : Bool) (w : World) (h : strings_Cut.f a0 a1 = some (r1, r2, r3)) (hT : TabW w) :
    Calls Tryd.prog 25 #[.string a0, .string a1] w fun e w' => e = .returned (.tuple #[.string r1, .string r2, .bool r3]) ∧ Below w.heap.size w w' := by
  unfold strings_Cut.f at h
  by_cases c : a0.size ≤ 1000000
  · rw [if_pos c] at h
    simp only [Option.some.injEq, Prod.mk.injEq] at h
    obtain ⟨rfl, rfl, rfl⟩ := h
    obtain ⟨m, hm⟩ := hT.len
    refine (Tryd.strings_Cut a0 a1 m w (by omega) hm).mono ?_
    rintro e w' ⟨rfl, n, rfl⟩
    exact ⟨rfl, pw_below_drewN (Below.refl _ _) n⟩
  · rw [if_neg c] at h; cases h
/-- An error that the library tells: nil, or a pointer to what it wrote. -/
def errW : Option Int → Value
  | none => .nilIface
  | some c => .iface 68 (.pointer (some ⟨c.toNat, 0, none⟩))
theorem errW_none : errW none = .nilIface := rfl
theorem errW_some (c : Int) : errW (some c) = .iface 68 (.pointer (some ⟨c.toNat, 0, none⟩)) := rfl
/-- What Atoi tells: the number, and none where it tells no error. -/
def strconv_Atoi_26.f (a0 : ByteArray) : Option (Int × Option Int) := if a0.size ≤ 1000000 then (match Lib.atoiAll a0.data.toList with
  | .ok v => some (v, none)
  | .range => some (Lib.atoiSat a0.data.toList, some 0)
  | _ => some (0, some 0)) else none
theorem strconv_Atoi_26.calls (a0 : ByteArray) (r1 : Int) (r2 : Option Int) (w : World) (h : strconv_Atoi_26.f a0 = some (r1, r2)) (hT : TabW w) :
    Calls Tryd.prog 26 #[.string a0] w fun e w' => ∃ q : Option Int, q.isNone = r2.isNone ∧ e = .returned (.tuple #[.int .i64 r1, errW q]) ∧ Below w.heap.size w w' := by
  unfold strconv_Atoi_26.f at h
  by_cases c : a0.size ≤ 1000000
  · rw [if_pos c] at h
    cases hh : Lib.atoiAll a0.data.toList with
    | ok v =>
      rw [hh] at h
      simp only [Option.some.injEq, Prod.mk.injEq] at h
      obtain ⟨rfl, rfl⟩ := h
      refine (Any.strconv_Atoi_ok Tryd.laysC172 a0 (by omega) v hh w).mono ?_
      rintro e w' ⟨rfl, hw⟩
      refine ⟨none, rfl, rfl, ?_⟩
      rcases hw with rfl | ⟨t, rfl⟩
      · exact Below.refl _ _
      · exact Lib.bytesWorld_below _ _ _
    | range =>
      rw [hh] at h
      simp only [Option.some.injEq, Prod.mk.injEq] at h
      obtain ⟨rfl, rfl⟩ := h
      obtain ⟨tp, p, hv⟩ := hT.rng
      refine (Any.strconv_Atoi_range_var Tryd.laysC172 a0 (by omega) hh tp p w hv).mono ?_
      rintro e w' ⟨N, rfl, _, _, hb⟩
      exact ⟨some (N : Int), rfl, rfl, hb⟩
    | _ =>
      rw [hh] at h
      simp only [Option.some.injEq, Prod.mk.injEq] at h
      obtain ⟨rfl, rfl⟩ := h
      obtain ⟨tp, p, hv⟩ := hT.syn
      refine (Any.strconv_Atoi_syntax_var Tryd.laysC172 a0 (by omega) hh tp p w hv).mono ?_
      rintro e w' ⟨N, rfl, _, _, hb⟩
      exact ⟨some (N : Int), rfl, rfl, hb⟩
  · rw [if_neg c] at h; cases h
end Go.Proofs.YtcihlmfjbfgfoaaDoor.Clos
