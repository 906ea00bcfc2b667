/- Plain arithmetic of time limits and of reduced fractions: no program in sight. No conditions. -/
import Init.Data.Nat.Gcd
import Init.Data.Int.DivMod
import Init.Omega
namespace Go.Proofs.Ytpdboefaedocfaa.Tim

def ok (n d x : Int) : Prop := 1 ≤ d ∧ d ≤ 100 ∧ d ≤ n ∧ n ≤ 4 * d ∧ 0 ≤ x ∧ x ≤ 86400
instance (n d x : Int) : Decidable (ok n d x) := by unfold ok; infer_instance
def vErr (n d x : Int) : Int := if ok n d x then 0 else 3
def vB (n d x : Int) : Bool := decide (ok n d x)
theorem vErr_yes {n d x : Int} (h : ok n d x) : vErr n d x = 0 := if_pos h
theorem vErr_no {n d x : Int} (h : ¬ ok n d x) : vErr n d x = 3 := if_neg h

/-- The limit of s seconds under n/d and x. -/
def lim (s n d x : Int) : Int := (s * n + d - 1) / d + x

theorem prod_bd {s n : Int} (h0 : 0 ≤ s) (h1 : s ≤ 9999999) (g0 : 0 ≤ n) (g1 : n ≤ 400) : 0 ≤ s * n ∧ s * n ≤ 3999999600 := by
  refine ⟨Int.mul_nonneg h0 g0, ?_⟩
  have a := Int.mul_le_mul h1 g1 g0 (by omega)
  omega

theorem prod_nat {a b : Int} {m k : Nat} (h0 : 0 ≤ a) (h1 : a ≤ m) (g0 : 0 ≤ b) (g1 : b ≤ k) : 0 ≤ a * b ∧ a * b ≤ (m * k : Nat) := by
  refine ⟨Int.mul_nonneg h0 g0, ?_⟩
  have a := Int.mul_le_mul h1 g1 g0 (by omega)
  simpa using a

/-- The numerator and the denominator in lowest terms. -/
def low (num den : Nat) : Nat × Nat := (num / Nat.gcd num den, den / Nat.gcd num den)

/-- What the reference's loop keeps: num, den are num0, den0 over a common k, and no common divisor is above d. -/
def Kept (num0 den0 num den d : Nat) : Prop := ∃ k, 0 < k ∧ num0 = k * num ∧ den0 = k * den ∧ ∀ c, c ∣ num → c ∣ den → c ≤ d

theorem kept_start {num den : Nat} (h : 0 < den) : Kept num den num den den :=
  ⟨1, by omega, by simp, by simp, fun _ _ hd => Nat.le_of_dvd h hd⟩

theorem kept_yes {num0 den0 num den d : Nat} (h : Kept num0 den0 num den d) (hd : 1 < d) (h1 : num % d = 0) (h2 : den % d = 0) : Kept num0 den0 (num / d) (den / d) (d - 1) := by
  obtain ⟨k, hk, e1, e2, hc⟩ := h
  have m1 : d * (num / d) = num := Nat.mul_div_cancel' (Nat.dvd_of_mod_eq_zero h1)
  have m2 : d * (den / d) = den := Nat.mul_div_cancel' (Nat.dvd_of_mod_eq_zero h2)
  refine ⟨k * d, Nat.mul_pos hk (by omega), by rw [Nat.mul_assoc, m1]; exact e1, by rw [Nat.mul_assoc, m2]; exact e2, fun c g1 g2 => ?_⟩
  have := hc (d * c) (by rw [← m1]; exact Nat.mul_dvd_mul_left d g1) (by rw [← m2]; exact Nat.mul_dvd_mul_left d g2)
  have hle : c ≤ 1 := by
    rcases Nat.lt_or_ge 1 c with h | h
    · have := Nat.mul_le_mul_left d (show 2 ≤ c from h)
      omega
    · exact h
  omega

theorem kept_no {num0 den0 num den d : Nat} (h : Kept num0 den0 num den d) (hn : ¬ (num % d = 0 ∧ den % d = 0)) : Kept num0 den0 num den (d - 1) := by
  obtain ⟨k, hk, e1, e2, hc⟩ := h
  refine ⟨k, hk, e1, e2, fun c g1 g2 => ?_⟩
  have h1 := hc c g1 g2
  have : c ≠ d := fun e => hn (by subst e; exact ⟨Nat.mod_eq_zero_of_dvd g1, Nat.mod_eq_zero_of_dvd g2⟩)
  omega

theorem kept_end {num0 den0 num den d : Nat} (h : Kept num0 den0 num den d) (hd : d ≤ 1) (hp : 0 < den0) : num = (low num0 den0).1 ∧ den = (low num0 den0).2 := by
  obtain ⟨k, hk, rfl, rfl, hc⟩ := h
  have hden : 0 < den := Nat.pos_of_mul_pos_left hp
  have hg : Nat.gcd num den = 1 := by
    have h1 := hc _ (Nat.gcd_dvd_left num den) (Nat.gcd_dvd_right num den)
    have h2 := Nat.gcd_pos_of_pos_right num hden
    omega
  unfold low
  rw [Nat.gcd_mul_left, hg, Nat.mul_one]
  simp [Nat.mul_div_cancel_left _ hk]

theorem low_mul (num den : Nat) : (low num den).1 * den = (low num den).2 * num := by
  have h1 := Nat.div_mul_cancel (Nat.gcd_dvd_left num den)
  have h2 := Nat.div_mul_cancel (Nat.gcd_dvd_right num den)
  unfold low
  show num / num.gcd den * den = den / num.gcd den * num
  generalize num.gcd den = g at *
  generalize num / g = p at *
  generalize den / g = q at *
  subst h1; subst h2
  simp only [Nat.mul_comm, Nat.mul_left_comm]

theorem low_le (num den : Nat) : (low num den).1 ≤ num ∧ (low num den).2 ≤ den := ⟨Nat.div_le_self _ _, Nat.div_le_self _ _⟩
theorem low_pos {num den : Nat} (h : 0 < den) : 0 < (low num den).2 :=
  Nat.div_pos (Nat.le_of_dvd h (Nat.gcd_dvd_right num den)) (Nat.gcd_pos_of_pos_right num h)

/-- ceil(s n / d) as a property. -/
theorem ceil_le_iff {s n d z : Int} (hd : 0 < d) : (s * n + d - 1) / d ≤ z ↔ s * n ≤ z * d := by
  constructor
  · intro h
    have h1 := Int.mul_ediv_add_emod (s * n + d - 1) d
    have h2 := Int.emod_lt_of_pos (s * n + d - 1) hd
    have h3 : d * ((s * n + d - 1) / d) ≤ d * z := Int.mul_le_mul_of_nonneg_left h (by omega)
    rw [Int.mul_comm z d]
    omega
  · intro h
    have : (s * n + d - 1) / d < z + 1 := by
      rw [Int.ediv_lt_iff_lt_mul hd, Int.add_mul]
      omega
    omega

/-- A factor that is greater never shortens. -/
theorem ceil_mono {s n d n' d' : Int} (hs : 0 ≤ s) (hd : 0 < d) (hd' : 0 < d') (h : n * d' ≤ n' * d) : (s * n + d - 1) / d ≤ (s * n' + d' - 1) / d' := by
  rw [ceil_le_iff hd]
  have h1 : s * n' ≤ ((s * n' + d' - 1) / d') * d' := (ceil_le_iff hd').1 (Int.le_refl _)
  generalize (s * n' + d' - 1) / d' = z at *
  have h2 : s * n * d' ≤ z * d * d' := by
    have a : s * (n * d') ≤ s * (n' * d) := Int.mul_le_mul_of_nonneg_left h hs
    have b : (s * n') * d ≤ (z * d') * d := Int.mul_le_mul_of_nonneg_right h1 (by omega)
    rw [Int.mul_assoc]
    refine Int.le_trans a ?_
    rw [← Int.mul_assoc]
    refine Int.le_trans b ?_
    rw [Int.mul_assoc, Int.mul_comm d' d, ← Int.mul_assoc]
    exact Int.le_refl _
  exact Int.le_of_mul_le_mul_right h2 hd'

theorem ceil_one {s d : Int} (hd : 0 < d) : (s * d + d - 1) / d = s := by
  apply Int.le_antisymm
  · rw [ceil_le_iff hd]; exact Int.le_refl _
  · have := (ceil_le_iff (s := s) (n := d) (z := (s * d + d - 1) / d) hd).1 (Int.le_refl _)
    exact Int.le_of_mul_le_mul_right this hd

theorem ceil_ge {s n d : Int} (hs : 0 ≤ s) (hd : 0 < d) (h : d ≤ n) : s ≤ (s * n + d - 1) / d := by
  have h1 := ceil_mono (s := s) (n := d) (d := d) (n' := n) (d' := d) hs hd hd (Int.mul_le_mul_of_nonneg_right h (by omega))
  rwa [ceil_one hd] at h1

/-- The greatest common divisor of the product of the numerators and that of the denominators. -/
def cg (an ad bn bd : Int) : Int := (Nat.gcd (an * bn).toNat (ad * bd).toNat : Nat)
def cn (an ad bn bd : Int) : Int := an * bn / cg an ad bn bd
def cd (an ad bn bd : Int) : Int := ad * bd / cg an ad bn bd

theorem cg_pos {an ad bn bd : Int} (h : 1 ≤ ad * bd) : 1 ≤ cg an ad bn bd := by
  have := Nat.gcd_pos_of_pos_right (an * bn).toNat (show 0 < (ad * bd).toNat by omega)
  unfold cg; omega

theorem cn_eq {an ad bn bd : Int} (h0 : 0 ≤ an * bn) : cn an ad bn bd = (((low (an * bn).toNat (ad * bd).toNat).1 : Nat) : Int) := by
  unfold cn cg low
  rw [Int.natCast_ediv, Int.toNat_of_nonneg h0]
theorem cd_eq {an ad bn bd : Int} (h0 : 0 ≤ ad * bd) : cd an ad bn bd = (((low (an * bn).toNat (ad * bd).toNat).2 : Nat) : Int) := by
  unfold cd cg low
  rw [Int.natCast_ediv, Int.toNat_of_nonneg h0]

theorem ok_prod {an ad ax bn bd bx : Int} (ha : ok an ad ax) (hb : ok bn bd bx) : 1 ≤ an * bn ∧ an * bn ≤ 160000 ∧ 1 ≤ ad * bd ∧ ad * bd ≤ 10000 := by
  obtain ⟨g1, g2, g3, g4, g5, g6⟩ := ha
  obtain ⟨k1, k2, k3, k4, k5, k6⟩ := hb
  have a1 := prod_nat (a := an) (b := bn) (m := 400) (k := 400) (by omega) (by omega) (by omega) (by omega)
  have a2 := prod_nat (a := ad) (b := bd) (m := 100) (k := 100) (by omega) (by omega) (by omega) (by omega)
  have a3 := Int.mul_pos (a := an) (b := bn) (by omega) (by omega)
  have a4 := Int.mul_pos (a := ad) (b := bd) (by omega) (by omega)
  omega

theorem cross {an ad bn bd : Int} (h0 : 0 ≤ an * bn) (h1 : 0 ≤ ad * bd) : cn an ad bn bd * (ad * bd) = cd an ad bn bd * (an * bn) := by
  rw [cn_eq h0, cd_eq h1]
  have := low_mul (an * bn).toNat (ad * bd).toNat
  have h2 := congrArg (fun n : Nat => (n : Int)) this
  simp only [Int.natCast_mul, Int.toNat_of_nonneg h0, Int.toNat_of_nonneg h1] at h2
  exact h2

theorem cg_comm (an ad bn bd : Int) : cg an ad bn bd = cg bn bd an ad := by
  unfold cg; rw [Int.mul_comm an bn, Int.mul_comm ad bd]
theorem cn_comm (an ad bn bd : Int) : cn an ad bn bd = cn bn bd an ad := by
  unfold cn; rw [cg_comm, Int.mul_comm an bn]
theorem cd_comm (an ad bn bd : Int) : cd an ad bn bd = cd bn bd an ad := by
  unfold cd; rw [cg_comm, Int.mul_comm ad bd]
end Go.Proofs.Ytpdboefaedocfaa.Tim
