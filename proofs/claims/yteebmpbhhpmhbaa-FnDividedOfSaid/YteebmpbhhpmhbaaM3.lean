/- Plain facts about numbers and lists, used by the proofs of this seat. -/
import Derived.Test.YteebmpbhhpmhbaaM2
namespace Go.Proofs.Yteebmpbhhpmhbaa.Math
/-- A sum of integers. -/
def isum : List Int → Int
  | [] => 0
  | x :: t => x + isum t
theorem isum_append (a b : List Int) : isum (a ++ b) = isum a + isum b := by
  induction a with
  | nil => simp [isum]
  | cons x t ih => simp only [List.cons_append, isum, ih]; omega
theorem isum_perm {a b : List Int} (h : a.Perm b) : isum a = isum b := by
  induction h with
  | nil => rfl
  | cons x _ ih => simp only [isum, ih]
  | swap x y l => simp only [isum]; omega
  | trans _ _ h1 h2 => rw [h1, h2]
theorem isum_zero {l : List Int} (h : ∀ x ∈ l, x = 0) : isum l = 0 := by
  induction l with
  | nil => rfl
  | cons x t ih => simp only [isum]; rw [h x (by simp), ih (fun y hy => h y (List.mem_cons_of_mem _ hy))]; rfl
theorem isum_map_neg {α : Type} (l : List α) (g : α → Int) : isum (l.map (fun x => - g x)) = - isum (l.map g) := by
  induction l with
  | nil => rfl
  | cons x t ih => simp only [List.map_cons, isum, ih]; omega
theorem isum_flatMap {α : Type} (l : List α) (f : α → List Int) : isum (l.flatMap f) = isum (l.map (fun x => isum (f x))) := by
  induction l with
  | nil => rfl
  | cons x t ih => simp only [List.flatMap_cons, isum_append, List.map_cons, isum, ih]
theorem isum_congr {α : Type} {l : List α} {f g : α → Int} (h : ∀ x ∈ l, f x = g x) : isum (l.map f) = isum (l.map g) := by
  rw [List.map_congr_left h]

/-- The sign of a product of powers of primes. -/
def muL : List (Nat × Nat) → Int
  | [] => 1
  | (_, j) :: t => if 1 < j then 0 else - muL t
def mu (n : Nat) : Int := muL (fac 2 n)
theorem muL_bd (L : List (Nat × Nat)) : muL L = 0 ∨ muL L = 1 ∨ muL L = -1 := by
  induction L with
  | nil => simp [muL]
  | cons x t ih =>
    obtain ⟨p, j⟩ := x
    simp only [muL]
    split <;> omega
theorem mu_bd (n : Nat) : mu n = 0 ∨ mu n = 1 ∨ mu n = -1 := muL_bd _
theorem mu_one : mu 1 = 1 := rfl

/-- All numbers whose c-th power divides a number. -/
def dvc (c n : Nat) : List Nat := (List.range' 1 n).filter (fun d => n % (d ^ c) == 0)
theorem dvc_one (n : Nat) : dvc 1 n = divs n := by unfold dvc divs; simp only [Nat.pow_one]
theorem mem_dvc {c n d : Nat} : d ∈ dvc c n ↔ 1 ≤ d ∧ d ≤ n ∧ d ^ c ∣ n := by
  unfold dvc
  simp only [List.mem_filter, List.mem_range'_1, beq_iff_eq]
  constructor
  · rintro ⟨⟨a, b⟩, e⟩; exact ⟨a, by omega, Nat.dvd_of_mod_eq_zero e⟩
  · rintro ⟨a, b, e⟩; exact ⟨⟨a, by omega⟩, Nat.mod_eq_zero_of_dvd e⟩
theorem mem_dvc' {c n d : Nat} (hc : 1 ≤ c) (hn : 1 ≤ n) : d ∈ dvc c n ↔ d ^ c ∣ n := by
  rw [mem_dvc]
  constructor
  · exact fun h => h.2.2
  · intro h
    have h0 : 1 ≤ d := by
      refine Nat.pos_of_ne_zero (fun e => ?_)
      subst e; rw [Nat.zero_pow (by omega)] at h; have := Nat.eq_zero_of_zero_dvd h; omega
    have h1 := Nat.le_of_dvd (by omega) h
    have h2 : d ^ 1 ≤ d ^ c := Nat.pow_le_pow_right h0 hc
    rw [Nat.pow_one] at h2
    exact ⟨h0, by omega, h⟩
theorem dvc_nodup (c n : Nat) : (dvc c n).Nodup := List.Pairwise.filter _ List.nodup_range'

theorem pow_dvd_cancel {p t m i : Nat} (hp : Pr p) (hm : m % p ≠ 0) (h : p ^ i ∣ p ^ t * m) : i ≤ t := by
  refine Nat.le_of_not_lt (fun hlt => ?_)
  obtain ⟨k, rfl⟩ : ∃ k, i = t + 1 + k := ⟨i - (t + 1), by omega⟩
  have h2 : p ^ (t + 1) ∣ p ^ t * m := Nat.dvd_trans (Nat.pow_dvd_pow p (by omega)) h
  rw [Nat.pow_succ] at h2
  have h3 : p ∣ m := Nat.dvd_of_mul_dvd_mul_left (Nat.pow_pos (by have := hp.1; omega)) h2
  exact hm (Nat.mod_eq_zero_of_dvd h3)
theorem Pr.coprime_pow {p d i : Nat} (hp : Pr p) (hd : d % p ≠ 0) : Nat.Coprime (p ^ i) d := Nat.Coprime.pow_left i (hp.coprime hd).symm
theorem Pr.pow_mod {p d c : Nat} (hp : Pr p) (hd : d % p ≠ 0) : d ^ c % p ≠ 0 := by
  induction c with
  | zero => rw [Nat.pow_zero, Nat.mod_eq_of_lt (by have := hp.1; omega)]; omega
  | succ c ih =>
    intro h
    rw [Nat.pow_succ] at h
    rcases hp.dvd_mul (Nat.dvd_of_mod_eq_zero h) with h | h
    · exact ih (Nat.mod_eq_zero_of_dvd h)
    · exact hd (Nat.mod_eq_zero_of_dvd h)

/-- What divides (by its c-th power) a power of a prime times another number. -/
theorem dvd_split {c p t m d : Nat} (hc : 1 ≤ c) (hp : Pr p) (hm : m % p ≠ 0) (h1 : 1 ≤ m) :
    d ^ c ∣ p ^ t * m ↔ ∃ i, i ≤ t / c ∧ ∃ e, e ^ c ∣ m ∧ d = p ^ i * e := by
  have p0 : 0 < p := by have := hp.1; omega
  constructor
  · intro h
    have d0 : 1 ≤ d := by
      refine Nat.pos_of_ne_zero (fun e => ?_)
      subst e; rw [Nat.zero_pow (by omega)] at h
      have := Nat.eq_zero_of_zero_dvd h
      have h2 : 0 < p ^ t * m := Nat.mul_pos (Nat.pow_pos p0) (by omega)
      omega
    obtain ⟨i, e, rfl, he, e1⟩ := exists_strip p hp.1 d d0
    have hk : (p ^ i * e) ^ c = p ^ (i * c) * e ^ c := by rw [Nat.mul_pow, ← Nat.pow_mul]
    rw [hk] at h
    have hi : i * c ≤ t := pow_dvd_cancel hp hm (Nat.dvd_trans (Nat.dvd_mul_right _ _) h)
    refine ⟨i, (Nat.le_div_iff_mul_le (by omega)).2 hi, e, ?_, rfl⟩
    have h2 : e ^ c ∣ p ^ t * m := Nat.dvd_trans (Nat.dvd_mul_left _ _) h
    exact ((hp.coprime_pow (hp.pow_mod he)).symm).dvd_of_dvd_mul_left h2
  · rintro ⟨i, hi, e, he, rfl⟩
    rw [Nat.mul_pow, ← Nat.pow_mul]
    have hi' := (Nat.le_div_iff_mul_le (by omega)).1 hi
    exact Nat.mul_dvd_mul (Nat.pow_dvd_pow p hi') he

theorem pow_mul_inj {p i j d e : Nat} (hp : Pr p) (hd : d % p ≠ 0) (he : e % p ≠ 0) (h : p ^ i * d = p ^ j * e) : i = j ∧ d = e := by
  have p0 : 0 < p := by have := hp.1; omega
  have h1 : i ≤ j := pow_dvd_cancel hp he (h ▸ Nat.dvd_mul_right _ _)
  have h2 : j ≤ i := pow_dvd_cancel hp hd (h ▸ Nat.dvd_mul_right _ _)
  have e1 : i = j := Nat.le_antisymm h1 h2
  subst e1
  exact ⟨rfl, Nat.eq_of_mul_eq_mul_left (Nat.pow_pos p0) h⟩

theorem dvc_perm {c p t m : Nat} (hc : 1 ≤ c) (hp : Pr p) (hm : m % p ≠ 0) (h1 : 1 ≤ m) :
    (dvc c (p ^ t * m)).Perm ((List.range (t / c + 1)).flatMap (fun i => (dvc c m).map (fun d => p ^ i * d))) := by
  have p0 : 0 < p := by have := hp.1; omega
  have n1 : 1 ≤ p ^ t * m := Nat.mul_pos (Nat.pow_pos p0) (by omega)
  have hmod : ∀ d, d ∈ dvc c m → d % p ≠ 0 := by
    intro d hd h
    have h2 : d ∣ m := Nat.dvd_trans (by have := Nat.pow_dvd_pow d hc; rwa [Nat.pow_one] at this) (mem_dvc.1 hd).2.2
    exact hm (Nat.mod_eq_zero_of_dvd (Nat.dvd_trans (Nat.dvd_of_mod_eq_zero h) h2))
  have nd : ((List.range (t / c + 1)).flatMap (fun i => (dvc c m).map (fun d => p ^ i * d))).Nodup := by
    show List.Pairwise _ _
    rw [List.pairwise_flatMap]
    refine ⟨fun i _ => ?_, ?_⟩
    · rw [List.pairwise_map]
      exact (dvc_nodup c m).imp (fun h e => h (Nat.eq_of_mul_eq_mul_left (Nat.pow_pos p0) e))
    · refine List.Pairwise.imp ?_ (List.nodup_range (n := t / c + 1))
      intro i j hij x hx y hy e
      rw [List.mem_map] at hx hy
      obtain ⟨d, hd, rfl⟩ := hx
      obtain ⟨e', he, rfl⟩ := hy
      exact hij (pow_mul_inj hp (hmod d hd) (hmod e' he) e).1
  rw [List.perm_ext_iff_of_nodup (dvc_nodup c _) nd]
  intro d
  rw [mem_dvc' hc n1, dvd_split hc hp hm h1, List.mem_flatMap]
  constructor
  · rintro ⟨i, hi, e, he, rfl⟩
    exact ⟨i, List.mem_range.2 (by omega), List.mem_map.2 ⟨e, (mem_dvc' hc h1).2 he, rfl⟩⟩
  · rintro ⟨i, hi, h⟩
    obtain ⟨e, he, rfl⟩ := List.mem_map.1 h
    exact ⟨i, by have := List.mem_range.1 hi; omega, e, (mem_dvc' hc h1).1 he, rfl⟩

theorem isum_dvc {c p t m : Nat} (hc : 1 ≤ c) (hp : Pr p) (hm : m % p ≠ 0) (h1 : 1 ≤ m) (g : Nat → Int) :
    isum ((dvc c (p ^ t * m)).map g) = isum ((List.range (t / c + 1)).map (fun i => isum ((dvc c m).map (fun d => g (p ^ i * d))))) := by
  rw [isum_perm ((dvc_perm hc hp hm h1).map g), List.map_flatMap, isum_flatMap]
  refine isum_congr (fun i _ => ?_)
  rw [List.map_map]; rfl

theorem length_divs_step {p t m : Nat} (hp : Pr p) (hm : m % p ≠ 0) (h1 : 1 ≤ m) : (divs (p ^ t * m)).length = (t + 1) * (divs m).length := by
  rw [← dvc_one, (dvc_perm (c := 1) (t := t) (by omega) hp hm h1).length_eq, Nat.div_one, dvc_one]
  generalize divs m = L
  generalize t + 1 = k
  induction k with
  | zero => simp
  | succ k ih => rw [List.range_succ, List.flatMap_append, List.length_append, ih, Nat.succ_mul]; simp

/-- How many divisors: one more than each number of times, multiplied. -/
def manyF : List (Nat × Nat) → Nat
  | [] => 1
  | (_, j) :: t => (j + 1) * manyF t
theorem manyF_fac : ∀ n, 1 ≤ n → manyF (fac 2 n) = (divs n).length :=
  induct_fac (by rw [fac_one, divs_one]; rfl) (fun p j m hp hj h1 hm hl _ ih => by rw [fac_step hp hj h1 hm hl, length_divs_step hp hm h1, ← ih]; rfl)

/-- The sign of a power of the least prime times what is left. -/
theorem mu_step {p i d : Nat} (hp : Pr p) (h1 : 1 ≤ d) (hd : d % p ≠ 0) (hl : NoLow p d) : mu (p ^ i * d) = if i = 0 then mu d else if i = 1 then - mu d else 0 := by
  by_cases z : i = 0
  · subst z; rw [Nat.pow_zero, Nat.one_mul, if_pos rfl]
  · have hl2 : NoLow p (p ^ i * d) := by
      intro x h2 hx e
      have hx2 : x ∣ p ^ i * d := Nat.dvd_of_mod_eq_zero e
      have hc : Nat.Coprime x p := by
        rcases hp.2 (Nat.gcd x p) (Nat.gcd_dvd_right x p) with h | h
        · exact h
        · have := Nat.le_of_dvd (by omega) (h ▸ Nat.gcd_dvd_left x p); omega
      exact hl x h2 hx (Nat.mod_eq_zero_of_dvd ((Nat.Coprime.pow_right i hc).dvd_of_dvd_mul_left hx2))
    rw [if_neg z]
    unfold mu
    rw [fac_step hp (by omega) h1 hd hl2]
    show (if 1 < i then 0 else - muL (fac 2 d)) = _
    by_cases o : i = 1
    · subst o; rfl
    · rw [if_neg o, if_pos (by omega)]

/-- Signs over what divides by its c-th power: they cancel where the least prime is there often enough. -/
theorem isum_mu_step {c p t m : Nat} (hc : 1 ≤ c) (hp : Pr p) (hm : m % p ≠ 0) (h1 : 1 ≤ m) (hl : NoLow p (p ^ t * m)) :
    isum ((dvc c (p ^ t * m)).map mu) = if c ≤ t then 0 else isum ((dvc c m).map mu) := by
  rw [isum_dvc hc hp hm h1]
  have hd : ∀ d, d ∈ dvc c m → 1 ≤ d ∧ d % p ≠ 0 ∧ NoLow p d := by
    intro d hd
    have h2 : d ∣ m := Nat.dvd_trans (by have := Nat.pow_dvd_pow d hc; rwa [Nat.pow_one] at this) (mem_dvc.1 hd).2.2
    exact ⟨(mem_dvc.1 hd).1, fun h => hm (Nat.mod_eq_zero_of_dvd (Nat.dvd_trans (Nat.dvd_of_mod_eq_zero h) h2)), hl.of_dvd (Nat.dvd_trans h2 (dvd_pow_mul p t m))⟩
  have hs : ∀ i, isum ((dvc c m).map (fun d => mu (p ^ i * d))) = if i = 0 then isum ((dvc c m).map mu) else if i = 1 then - isum ((dvc c m).map mu) else 0 := by
    intro i
    rw [isum_congr (fun d h => mu_step hp (hd d h).1 (hd d h).2.1 (hd d h).2.2)]
    by_cases z : i = 0
    · simp only [if_pos z]
    · by_cases o : i = 1
      · simp only [if_neg z, if_pos o]; rw [isum_map_neg]
      · simp only [if_neg z, if_neg o]
        exact isum_zero (fun x hx => by obtain ⟨_, _, rfl⟩ := List.mem_map.1 hx; rfl)
  simp only [hs]
  by_cases h : c ≤ t
  · rw [if_pos h]
    have h2 : 1 ≤ t / c := (Nat.le_div_iff_mul_le (by omega)).2 (by omega)
    obtain ⟨k, hk⟩ : ∃ k, t / c + 1 = 2 + k := ⟨t / c - 1, by omega⟩
    rw [hk, List.range_add, List.map_append, isum_append, List.map_map]
    have hz : isum ((List.range k).map ((fun i => if i = 0 then isum ((dvc c m).map mu) else if i = 1 then - isum ((dvc c m).map mu) else 0) ∘ (2 + ·))) = 0 := by
      refine isum_zero (fun x hx => ?_)
      obtain ⟨i, _, rfl⟩ := List.mem_map.1 hx
      simp only [Function.comp_apply]
      rw [if_neg (by omega), if_neg (by omega)]
    rw [hz]
    have e2 : (List.range 2) = [0, 1] := rfl
    rw [e2]
    simp [isum]; omega
  · rw [if_neg h, Nat.div_eq_of_lt (by omega)]
    have e2 : (List.range (0 + 1)) = [0] := rfl
    rw [e2]
    simp [isum]

/-- Signs over divisors cancel. -/
theorem isum_mu_divs : ∀ n, 1 ≤ n → isum ((divs n).map mu) = if n = 1 then 1 else 0 :=
  induct_fac (by rw [divs_one]; rfl) (fun p j m hp hj h1 hm hl hlt _ => by
    rw [← dvc_one, isum_mu_step (by omega) hp hm h1 hl, if_pos hj, if_neg (by omega)])
/-- Signs over what divides by its square tell if a prime divides twice. -/
theorem isum_mu_sq : ∀ n, 1 ≤ n → isum ((dvc 2 n).map mu) = mu n * mu n :=
  induct_fac (by decide) (fun p j m hp hj h1 hm hl hlt ih => by
    rw [isum_mu_step (by omega) hp hm h1 hl, mu_step hp h1 hm (hl.of_dvd (dvd_pow_mul p j m))]
    by_cases c : 2 ≤ j
    · rw [if_pos c, if_neg (by omega), if_neg (by omega)]; rfl
    · have : j = 1 := by omega
      subst this
      rw [if_neg c, if_neg (by omega), if_pos rfl, ih, Int.neg_mul_neg])

end Go.Proofs.Yteebmpbhhpmhbaa.Math
