/- Plain facts about numbers and lists, used by the proofs of this seat. -/
namespace Go.Proofs.YtcihlmfjbfgfoaaDoor.Math
/-- All divisors of a number, ascending. -/
def divs (n : Nat) : List Nat := (List.range' 1 n).filter (fun d => n % d == 0)

theorem mem_divs {n d : Nat} : d ∈ divs n ↔ 1 ≤ d ∧ d ≤ n ∧ n % d = 0 := by
  unfold divs
  simp only [List.mem_filter, List.mem_range'_1, beq_iff_eq]
  constructor
  · rintro ⟨⟨a, b⟩, c⟩; exact ⟨a, by omega, c⟩
  · rintro ⟨a, b, c⟩; exact ⟨⟨a, by omega⟩, c⟩

theorem divs_sorted (n : Nat) : (divs n).Pairwise (· < ·) := List.Pairwise.filter _ List.pairwise_lt_range'

theorem sorted_ext {l m : List Nat} (hl : l.Pairwise (· < ·)) (hm : m.Pairwise (· < ·)) (h : ∀ a, a ∈ l ↔ a ∈ m) : l = m := by
  have dl : l.Nodup := hl.imp (fun h e => by omega)
  have dm : m.Nodup := hm.imp (fun h e => by omega)
  exact List.Perm.eq_of_pairwise (le := (· < ·)) (fun a b _ _ h1 h2 => by omega) hl hm ((List.perm_ext_iff_of_nodup dl dm).2 h)

theorem length_divs_le (n : Nat) : (divs n).length ≤ n := by
  unfold divs; exact Nat.le_trans (List.length_filter_le _ _) (by simp)

theorem divs_nodup (n : Nat) : (divs n).Nodup := (divs_sorted n).imp (fun h e => by omega)

/-- The divisors below a bound. -/
def lowD (n d : Nat) : List Nat := (List.range' 1 (d - 1)).filter (fun x => n % x == 0)
/-- Those whose square is below the number, below a bound. -/
def lowS (n d : Nat) : List Nat := (lowD n d).filter (fun x => decide (x * x < n))

theorem mem_lowD {n d x : Nat} : x ∈ lowD n d ↔ 1 ≤ x ∧ x < d ∧ n % x = 0 := by
  unfold lowD
  simp only [List.mem_filter, List.mem_range'_1, beq_iff_eq]
  constructor
  · rintro ⟨⟨a, b⟩, c⟩; exact ⟨a, by omega, c⟩
  · rintro ⟨a, b, c⟩; exact ⟨⟨a, by omega⟩, c⟩
theorem mem_lowS {n d x : Nat} : x ∈ lowS n d ↔ (1 ≤ x ∧ x < d ∧ n % x = 0) ∧ x * x < n := by
  unfold lowS; simp only [List.mem_filter, mem_lowD, decide_eq_true_eq]
theorem lowD_succ (n d : Nat) (h : 1 ≤ d) : lowD n (d + 1) = if n % d = 0 then lowD n d ++ [d] else lowD n d := by
  unfold lowD
  obtain ⟨c, rfl⟩ : ∃ c, d = c + 1 := ⟨d - 1, by omega⟩
  simp only [Nat.add_sub_cancel, List.range'_1_concat, List.filter_append, List.filter_cons, List.filter_nil, beq_iff_eq, Nat.add_comm 1 c]
  split <;> simp
theorem lowS_succ (n d : Nat) (h : 1 ≤ d) : lowS n (d + 1) = if n % d = 0 ∧ d * d < n then lowS n d ++ [d] else lowS n d := by
  unfold lowS
  rw [lowD_succ n d h]
  by_cases h1 : n % d = 0
  · by_cases h2 : d * d < n <;> simp [h1, h2, List.filter_append]
  · simp [h1]
theorem lowD_sorted (n d : Nat) : (lowD n d).Pairwise (· < ·) := List.Pairwise.filter _ List.pairwise_lt_range'
theorem lowS_sorted (n d : Nat) : (lowS n d).Pairwise (· < ·) := List.Pairwise.filter _ (lowD_sorted n d)
theorem length_lowD (n d : Nat) : (lowD n d).length ≤ d := by
  unfold lowD; exact Nat.le_trans (List.length_filter_le _ _) (by simp)
theorem length_lowS (n d : Nat) : (lowS n d).length ≤ d := by
  unfold lowS; exact Nat.le_trans (List.length_filter_le _ _) (length_lowD n d)

theorem div_lt_div_of {n x y : Nat} (hn : 1 ≤ n) (hx : n % x = 0) (hy : n % y = 0) (h : x < y) : n / y < n / x := by
  have ex := Nat.div_add_mod n x
  have ey := Nat.div_add_mod n y
  rw [hx] at ex; rw [hy] at ey
  refine Nat.lt_of_not_le (fun hle => ?_)
  have h0 : 1 ≤ n / y := by
    refine Nat.pos_of_ne_zero (fun e => ?_); rw [e] at ey; omega
  have h1 : x * (n / x) ≤ x * (n / y) := Nat.mul_le_mul_left _ hle
  have h2 : x * (n / y) < y * (n / y) := Nat.mul_lt_mul_of_pos_right h (by omega)
  omega

/-- The divisors are those up to the root, then the others. -/
theorem divs_parts (n d : Nat) (hn : 1 ≤ n) (hd : n < d * d) (hlow : ∀ x, x < d → x * x ≤ n) :
    lowD n d ++ ((lowS n d).map (fun x => n / x)).reverse = divs n := by
  refine sorted_ext ?_ (divs_sorted n) ?_
  · rw [List.pairwise_append]
    refine ⟨lowD_sorted n d, ?_, ?_⟩
    · rw [List.pairwise_reverse, List.pairwise_map]
      refine List.Pairwise.imp_of_mem ?_ (lowS_sorted n d)
      intro x y hx hy h
      exact div_lt_div_of hn (mem_lowS.1 hx).1.2.2 (mem_lowS.1 hy).1.2.2 h
    · intro a ha b hb
      rw [List.mem_reverse, List.mem_map] at hb
      obtain ⟨x, hx, rfl⟩ := hb
      obtain ⟨⟨x1, xd, xm⟩, xs⟩ := mem_lowS.1 hx
      obtain ⟨a1, ad, am⟩ := mem_lowD.1 ha
      have ex := Nat.div_add_mod n x
      rw [xm] at ex
      refine Nat.lt_of_not_le (fun hle => ?_)
      have hxy : x < n / x := by
        refine Nat.lt_of_not_le (fun h => ?_)
        have := Nat.mul_le_mul_left x h
        omega
      have h3 : n < (n / x) * (n / x) := by
        have := Nat.mul_lt_mul_of_pos_right hxy (show 0 < n / x by omega)
        omega
      have h4 := Nat.mul_le_mul hle hle
      have h5 := hlow a ad
      omega
  · intro e
    rw [List.mem_append, List.mem_reverse, List.mem_map, mem_lowD, mem_divs]
    constructor
    · rintro (⟨h1, h2, h3⟩ | ⟨x, hx, rfl⟩)
      · exact ⟨h1, Nat.le_of_dvd (by omega) (Nat.dvd_of_mod_eq_zero h3), h3⟩
      · obtain ⟨⟨x1, xd, xm⟩, xs⟩ := mem_lowS.1 hx
        have dv : n / x ∣ n := Nat.div_dvd_of_dvd (Nat.dvd_of_mod_eq_zero xm)
        exact ⟨Nat.div_pos (Nat.le_of_dvd (by omega) (Nat.dvd_of_mod_eq_zero xm)) (by omega), Nat.le_of_dvd (by omega) dv, Nat.mod_eq_zero_of_dvd dv⟩
    · rintro ⟨h1, h2, h3⟩
      by_cases hed : e < d
      · exact Or.inl ⟨h1, hed, h3⟩
      · right
        have ee := Nat.div_add_mod n e
        rw [h3] at ee
        have hee : d * d ≤ e * e := Nat.mul_le_mul (by omega) (by omega)
        have hx : n / e < e := by
          refine Nat.lt_of_not_le (fun h => ?_)
          have := Nat.mul_le_mul_left e h
          omega
        have h0 : 1 ≤ n / e := by
          refine Nat.pos_of_ne_zero (fun e0 => ?_); rw [e0] at ee; omega
        have hxx : (n / e) * (n / e) < n := by
          have := Nat.mul_lt_mul_of_pos_right hx (show 0 < n / e by omega)
          omega
        have dv : e ∣ n := Nat.dvd_of_mod_eq_zero h3
        have dv2 : n / e ∣ n := Nat.div_dvd_of_dvd dv
        refine ⟨n / e, mem_lowS.2 ⟨⟨h0, ?_, Nat.mod_eq_zero_of_dvd dv2⟩, hxx⟩, ?_⟩
        · refine Nat.lt_of_not_le (fun h => ?_)
          have := Nat.mul_le_mul h h
          omega
        · rw [Nat.div_div_self dv (by omega)]

/-- A prime number. -/
def Pr (p : Nat) : Prop := 2 ≤ p ∧ ∀ d, d ∣ p → d = 1 ∨ d = p

theorem divs_one : divs 1 = [1] := by decide
theorem one_mem_divs {n : Nat} (h : 1 ≤ n) : 1 ∈ divs n := mem_divs.2 ⟨by omega, h, Nat.mod_one n⟩
theorem self_mem_divs {n : Nat} (h : 1 ≤ n) : n ∈ divs n := mem_divs.2 ⟨h, by omega, Nat.mod_self n⟩

theorem two_le_length_of {l : List Nat} {a b : Nat} (ha : a ∈ l) (hb : b ∈ l) (h : a ≠ b) : 2 ≤ l.length := by
  match l, ha, hb with
  | [x], ha, hb => simp at ha hb; omega
  | x :: y :: t, _, _ => simp

/-- A number has two divisors just if it is prime. -/
theorem length_divs_two (n : Nat) : (divs n).length = 2 ↔ Pr n := by
  constructor
  · intro h
    have h1 : 1 ≤ n := by
      have := length_divs_le n; omega
    have h2 : 2 ≤ n := by
      refine Nat.lt_of_not_le (fun h3 => ?_)
      have : n = 1 := by omega
      subst this; rw [divs_one] at h; simp at h
    refine ⟨h2, fun d hd => ?_⟩
    have hm : d ∈ divs n := mem_divs.2 ⟨Nat.pos_of_dvd_of_pos hd (by omega), Nat.le_of_dvd (by omega) hd, Nat.mod_eq_zero_of_dvd hd⟩
    match hl : divs n, h with
    | [x, y], _ =>
      have a := one_mem_divs h1; have b := self_mem_divs h1
      rw [hl] at a b hm
      simp at a b hm; omega
  · rintro ⟨h2, h⟩
    have e : divs n = [1, n] := by
      refine sorted_ext (divs_sorted n) (by simp; omega) (fun a => ?_)
      rw [mem_divs]; simp
      constructor
      · rintro ⟨_, _, hm⟩; exact h a (Nat.dvd_of_mod_eq_zero hm)
      · rintro (rfl | rfl)
        · exact ⟨by omega, by omega, Nat.mod_one n⟩
        · exact ⟨by omega, by omega, Nat.mod_self _⟩
    rw [e]; rfl

/-- A number from 2 on that no number up to its root divides is prime. -/
theorem pr_of_root {n d : Nat} (h2 : 2 ≤ n) (hd : n < d * d) (h : ∀ x, 2 ≤ x → x < d → n % x ≠ 0) : Pr n := by
  refine ⟨h2, fun e he => ?_⟩
  by_cases e1 : e = 1
  · exact Or.inl e1
  right
  have e0 : 1 ≤ e := Nat.pos_of_dvd_of_pos he (by omega)
  have hm : n % e = 0 := Nat.mod_eq_zero_of_dvd he
  have ed : d ≤ e := by
    refine Nat.le_of_not_lt (fun hlt => h e (by omega) hlt hm)
  by_cases en : e = n
  · exact en
  exfalso
  have ee := Nat.div_add_mod n e
  rw [hm] at ee
  have hee : d * d ≤ e * e := Nat.mul_le_mul ed ed
  have hx : n / e < e := by
    refine Nat.lt_of_not_le (fun h => ?_)
    have := Nat.mul_le_mul_left e h
    omega
  have hxd : n / e < d := by
    refine Nat.lt_of_not_le (fun h => ?_)
    have h1 := Nat.mul_le_mul h ed
    have h3 : (n / e) * e = n := by rw [Nat.mul_comm]; omega
    omega
  have hx2 : 2 ≤ n / e := by
    refine Nat.lt_of_not_le (fun h => ?_)
    generalize n / e = q at *
    have : q = 0 ∨ q = 1 := by omega
    rcases this with h0 | h0 <;> subst h0 <;> omega
  exact h (n / e) hx2 hxd (Nat.mod_eq_zero_of_dvd (Nat.div_dvd_of_dvd he))

theorem not_pr_of_dvd {n x : Nat} (h2 : 2 ≤ x) (hx : x < n) (hm : n % x = 0) : ¬ Pr n := by
  rintro ⟨_, h⟩
  rcases h x (Nat.dvd_of_mod_eq_zero hm) with h | h <;> omega

theorem not_pr_one : ¬ Pr 1 := fun h => by have := h.1; omega

theorem pairs_divs (n : Nat) (hn : 1 ≤ n) : ((divs n).map (fun x => n / x)).reverse = divs n := by
  refine sorted_ext ?_ (divs_sorted n) ?_
  · rw [List.pairwise_reverse, List.pairwise_map]
    refine List.Pairwise.imp_of_mem ?_ (divs_sorted n)
    intro x y hx hy h
    exact div_lt_div_of hn (mem_divs.1 hx).2.2 (mem_divs.1 hy).2.2 h
  · intro e
    rw [List.mem_reverse, List.mem_map, mem_divs]
    constructor
    · rintro ⟨x, hx, rfl⟩
      obtain ⟨x1, xd, xm⟩ := mem_divs.1 hx
      have dv : n / x ∣ n := Nat.div_dvd_of_dvd (Nat.dvd_of_mod_eq_zero xm)
      exact ⟨Nat.div_pos xd (by omega), Nat.le_of_dvd (by omega) dv, Nat.mod_eq_zero_of_dvd dv⟩
    · rintro ⟨h1, h2, h3⟩
      have dv : e ∣ n := Nat.dvd_of_mod_eq_zero h3
      have dv2 : n / e ∣ n := Nat.div_dvd_of_dvd dv
      exact ⟨n / e, mem_divs.2 ⟨Nat.div_pos h2 (by omega), Nat.le_of_dvd (by omega) dv2, Nat.mod_eq_zero_of_dvd dv2⟩, Nat.div_div_self dv (by omega)⟩

end Go.Proofs.YtcihlmfjbfgfoaaDoor.Math
