/- Plain laws of a valid item: how long its lists can be. Conditions: those of each theorem. -/
import Derived.Test.YtdaccamiipknmaaGreatDoorItJ
namespace Go.Proofs.YtdaccamiipknmaaGreatDoor
open Go.RowKit
namespace It
/-- Numbers that rise are at most as many as their range holds. -/
theorem rising_len {l : List Int} {lo hi : Int} (h : rising l lo hi = true) : (l.length : Int) ≤ max 0 (hi - lo + 1) := by
  unfold rising at h
  have ha := allN_iff.1 h
  have step : ∀ i, i < l.length → lo + (i : Int) ≤ l.getD i 0 := by
    intro i
    induction i with
    | zero =>
      intro hi0
      have := ha 0 hi0
      unfold risA at this
      rw [Bool.and_eq_true] at this
      have := (wi_iff.1 this.1).1
      omega
    | succ i ih =>
      intro hi1
      have h1 := ih (by omega)
      have := ha (i + 1) hi1
      unfold risA at this
      rw [Bool.and_eq_true, Bool.or_eq_true, decide_eq_true_eq, decide_eq_true_eq] at this
      have h2 := this.2
      simp only [Nat.add_sub_cancel] at h2
      omega
  by_cases h0 : l.length = 0
  · omega
  · have h1 := step (l.length - 1) (by omega)
    have := ha (l.length - 1) (by omega)
    unfold risA at this
    rw [Bool.and_eq_true] at this
    have := (wi_iff.1 this.1).2
    omega
/-- The lists of a valid item are short. -/
theorem vld_small {it : Item} (h : vld it = 0) : it.opts.length ≤ 10 ∧ it.chs.length ≤ 10 ∧ it.texts.length ≤ 10 ∧ it.assets.length ≤ 8 := by
  unfold vld at h
  split at h
  · cases h
  split at h
  · cases h
  split at h
  · cases h
  split at h
  · cases h
  rename_i hl
  split at h
  · cases h
  rename_i hk
  have hk : key it = true := by simpa using hk
  clear h
  refine ⟨by omega, ?_, by omega, by omega⟩
  have hno : ∀ {p : Bool}, (noOpt it && p) = true → it.chs.length = 0 := by
    intro p hp
    rw [Bool.and_eq_true] at hp
    have := hp.1
    unfold noOpt at this
    simp only [Bool.and_eq_true, decide_eq_true_eq] at this
    exact this.2
  unfold key at hk
  split at hk
  · unfold key1 at hk
    simp only [Bool.and_eq_true, decide_eq_true_eq] at hk
    omega
  split at hk
  · unfold key2 at hk
    rw [Bool.and_eq_true] at hk
    have := rising_len hk.2
    omega
  split at hk
  · unfold key3 perm at hk
    simp only [Bool.and_eq_true, decide_eq_true_eq] at hk
    omega
  split at hk
  · unfold key4 at hk
    simp only [Bool.and_assoc] at hk
    have := hno hk
    omega
  split at hk
  · unfold key5 at hk
    rw [Bool.and_eq_true] at hk
    have hk := hk.2
    simp only [Bool.and_assoc] at hk
    have := hno hk
    omega
  · unfold key6 at hk
    simp only [Bool.and_assoc] at hk
    have := hno hk
    omega
end It
end Go.Proofs.YtdaccamiipknmaaGreatDoor
