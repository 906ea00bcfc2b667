/- Retiring, as plain data: the chief may retire what is not retired, and then nothing is allowed. No conditions. -/
import Derived.Test.YtadnjhpkenjmdaaRevQ
import Derived.Test.YtadnjhpkenjmdaaRevD
namespace Go.Proofs.Ytadnjhpkenjmdaa.Rev
theorem allowed_time {r : Rec} {a : Act} (h : allowedE r a = 0) : 0 ≤ a.time ∧ a.time ≤ 1099511627776 := by
  obtain ⟨k1, k2, k3⟩ := allowed_zero h
  unfold allowedE at h
  rw [if_neg (by omega)] at h
  by_cases h2 : a.user < 1 ∨ 9999999 < a.user ∨ a.time < 0 ∨ 1099511627776 < a.time
  · rw [if_pos h2] at h; cases h
  · omega
theorem perform_times (au : Int) (log : List Act) : ∀ a ∈ (perform au log).log, 0 ≤ a.time ∧ a.time ≤ 1099511627776 :=
  perf_ind (Q := fun r => ∀ a ∈ r.log, 0 ≤ a.time ∧ a.time ≤ 1099511627776) (fun r a h z => by
    rw [next_log]
    intro x hx
    rcases List.mem_append.1 hx with g | g
    · exact h x g
    · simp at g; subst g; exact allowed_time z) _ _ (fun a ha => by simp [Rev.start] at ha)
theorem last_bd {log : List Act} (h : ∀ a ∈ log, 0 ≤ a.time ∧ a.time ≤ 1099511627776) : 0 ≤ lastTime log ∧ lastTime log ≤ 1099511627776 := by
  unfold lastTime
  cases e : log.getLast? with
  | none => simp
  | some a => exact h a (List.mem_of_getLast? e)
theorem late_last (log : List Act) : late log (lastTime log) = false := by
  unfold late lastTime
  cases log.getLast? with
  | none => rfl
  | some a => simp
theorem role_8 (s : Int) : role 8 s = 16 := by simp [role]
theorem role_1 (s : Int) : role 1 s = 1 := by simp [role]
theorem retire_ok {r : Rec} (hb : 1 ≤ r.st ∧ r.st ≤ 7) (h7 : r.st ≠ 7) (hl : r.log.length < 200) (ht : ∀ a ∈ r.log, 0 ≤ a.time ∧ a.time ≤ 1099511627776) : allowedE r ⟨8, 1, 16, lastTime r.log⟩ = 0 := by
  obtain ⟨t1, t2⟩ := last_bd ht
  unfold allowedE
  rw [if_neg (by simp), if_neg (by simp only; omega), if_neg (by omega), if_neg (by simp only; rw [late_last]; simp), if_neg (by simp only [poss]; simp; omega), if_neg (by simp only [role_8]; decide), if_neg (by simp [excl])]
theorem dead {r : Rec} (h7 : r.st = 7) (k u ro t : Int) (hk1 : 1 ≤ k) (hk2 : k ≤ 9) : allowedE r ⟨k, u, ro, t⟩ ≠ 0 := fun z => by
  obtain ⟨-, hp, -⟩ := allowed_more z
  simp only [h7] at hp
  rcases kind_cases hk1 hk2 with rfl | rfl | rfl | rfl | rfl | rfl | rfl | rfl | rfl <;> simp [poss] at hp
theorem dead_acts {r : Rec} (h7 : r.st = 7) (u ro t : Int) : ∀ j : Nat, j ≤ 9 → acts r u ro t j = []
  | 0, _ => rfl
  | j + 1, hj => by
    rw [acts_no r u ro t j (dead h7 _ u ro t (by omega) (by omega))]
    exact dead_acts h7 u ro t j (by omega)
theorem first_acts (au : Int) (h1 : 1 ≤ au) (h2 : au ≤ 9999999) : acts (start au) au 1 0 9 = [1] := by
  have z1 : allowedE (start au) ⟨1, au, 1, 0⟩ = 0 := by
    unfold allowedE
    rw [if_neg (by simp), if_neg (by simp only; omega), if_neg (by simp [start]), if_neg (by simp [late, start]), if_neg (by simp [poss, start]), if_neg (by simp only [role_1]; decide), if_neg (by simp [excl, start])]
  have zk : ∀ k : Int, 2 ≤ k → k ≤ 9 → allowedE (start au) ⟨k, au, 1, 0⟩ ≠ 0 := fun k hk1 hk2 z => by
    obtain ⟨-, hp, -⟩ := allowed_more z
    simp only [start] at hp
    rcases kind_cases (by omega) hk2 with rfl | rfl | rfl | rfl | rfl | rfl | rfl | rfl | rfl
    · omega
    all_goals first | (simp [poss] at hp; done) | skip
    unfold allowedE at z
    rw [if_neg (by simp), if_neg (by simp only; omega), if_neg (by simp [start]), if_neg (by simp [late, start]), if_neg (by simp [poss, start]), if_pos (by simp only [role_8]; decide)] at z
    cases z
  have e : ∀ j : Nat, 1 ≤ j → j ≤ 9 → acts (start au) au 1 0 j = [1] := fun j h1' h2' => by
    induction j with
    | zero => omega
    | succ j ih =>
      by_cases hj : j = 0
      · subst hj
        rw [acts_yes (start au) au 1 0 0 z1]
        rfl
      · rw [acts_no (start au) au 1 0 j (zk _ (by omega) (by omega))]
        exact ih (by omega) (by omega)
  exact e 9 (by omega) (by omega)
end Go.Proofs.Ytadnjhpkenjmdaa.Rev
