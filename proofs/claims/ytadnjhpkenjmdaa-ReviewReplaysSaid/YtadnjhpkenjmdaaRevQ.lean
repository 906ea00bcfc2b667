/- More about review records as plain data: performing and replaying logs; what an operational item has behind it. No conditions. -/
import Derived.Test.YtadnjhpkenjmdaaRevP
namespace Go.Proofs.Ytadnjhpkenjmdaa.Rev
theorem allowed_zero {r : Rec} {a : Act} (h : allowedE r a = 0) : 1 ≤ a.kind ∧ a.kind ≤ 9 ∧ r.log.length < 200 := by
  unfold allowedE at h
  by_cases h1 : a.kind < 1 ∨ 9 < a.kind
  · rw [if_pos h1] at h; cases h
  · rw [if_neg h1] at h
    by_cases h2 : a.user < 1 ∨ 9999999 < a.user ∨ a.time < 0 ∨ 1099511627776 < a.time
    · rw [if_pos h2] at h; cases h
    · rw [if_neg h2] at h
      by_cases h3 : 200 ≤ r.log.length
      · rw [if_pos h3] at h; cases h
      · exact ⟨by omega, by omega, by omega⟩
theorem allowed_more {r : Rec} {a : Act} (h : allowedE r a = 0) : late r.log a.time = false ∧ poss a.kind r.st = true ∧ excl r a.kind a.user = false := by
  obtain ⟨k1, k2, k3⟩ := allowed_zero h
  unfold allowedE at h
  rw [if_neg (by omega)] at h
  by_cases h2 : a.user < 1 ∨ 9999999 < a.user ∨ a.time < 0 ∨ 1099511627776 < a.time
  · rw [if_pos h2] at h; cases h
  · rw [if_neg h2, if_neg (by omega)] at h
    by_cases h3 : late r.log a.time = true
    · rw [if_pos h3] at h; cases h
    · rw [if_neg h3] at h
      by_cases h4 : poss a.kind r.st = false
      · rw [if_pos h4] at h; cases h
      · rw [if_neg h4] at h
        by_cases h5 : Go.bits .and .i64 a.roles (role a.kind r.st) = 0
        · rw [if_pos h5] at h; cases h
        · rw [if_neg h5] at h
          by_cases h6 : excl r a.kind a.user = true
          · rw [if_pos h6] at h; cases h
          · exact ⟨by simpa using h3, by simpa using h4, by simpa using h6⟩
theorem kind_cases {k : Int} (h1 : 1 ≤ k) (h2 : k ≤ 9) : k = 1 ∨ k = 2 ∨ k = 3 ∨ k = 4 ∨ k = 5 ∨ k = 6 ∨ k = 7 ∨ k = 8 ∨ k = 9 := by omega
theorem next_au (r : Rec) (a : Act) : (next r a).au = r.au := by
  unfold next; repeat' split
  all_goals rfl
theorem next_log (r : Rec) (a : Act) : (next r a).log = r.log ++ [a] := by
  unfold next; repeat' split
  all_goals rfl
theorem next_len (r : Rec) (a : Act) : (next r a).ap.length ≤ r.ap.length + 1 ∧ (next r a).fa.length ≤ r.fa.length + 1 := by
  unfold next; repeat' split
  all_goals simp

theorem next_1 (r : Rec) (u ro t : Int) : next r ⟨1, u, ro, t⟩ = ⟨2, r.au, r.ap, r.fa, r.log ++ [⟨1, u, ro, t⟩]⟩ := by simp [next]
theorem next_2 (r : Rec) (u ro t : Int) : next r ⟨2, u, ro, t⟩ = ⟨if 2 ≤ r.ap.length + 1 then 3 else r.st, r.au, r.ap ++ [u], r.fa, r.log ++ [⟨2, u, ro, t⟩]⟩ := by simp [next]
theorem next_3 (r : Rec) (u ro t : Int) : next r ⟨3, u, ro, t⟩ = ⟨1, r.au, [], [], r.log ++ [⟨3, u, ro, t⟩]⟩ := by simp [next]
theorem next_4 (r : Rec) (u ro t : Int) : next r ⟨4, u, ro, t⟩ = ⟨4, r.au, r.ap, r.fa ++ [u], r.log ++ [⟨4, u, ro, t⟩]⟩ := by simp [next]
theorem next_5 (r : Rec) (u ro t : Int) : next r ⟨5, u, ro, t⟩ = ⟨5, r.au, r.ap, r.fa, r.log ++ [⟨5, u, ro, t⟩]⟩ := by simp [next]
theorem next_6 (r : Rec) (u ro t : Int) : next r ⟨6, u, ro, t⟩ = ⟨6, r.au, r.ap, r.fa, r.log ++ [⟨6, u, ro, t⟩]⟩ := by simp [next]
theorem next_7 (r : Rec) (u ro t : Int) : next r ⟨7, u, ro, t⟩ = ⟨5, r.au, r.ap, r.fa, r.log ++ [⟨7, u, ro, t⟩]⟩ := by simp [next]
theorem next_8 (r : Rec) (u ro t : Int) : next r ⟨8, u, ro, t⟩ = ⟨7, r.au, r.ap, r.fa, r.log ++ [⟨8, u, ro, t⟩]⟩ := by simp [next]
theorem next_9 (r : Rec) (u ro t : Int) : next r ⟨9, u, ro, t⟩ = ⟨1, r.au, [], [], r.log ++ [⟨9, u, ro, t⟩]⟩ := by simp [next]

/-- Those actions are performed that are allowed. -/
def perfL : Rec → List Act → Rec
  | r, [] => r
  | r, a :: l => perfL (if allowedE r a = 0 then next r a else r) l
theorem perf_yes {r : Rec} {a : Act} {l : List Act} (h : allowedE r a = 0) : perfL r (a :: l) = perfL (next r a) l := by rw [perfL, if_pos h]
theorem perf_no {r : Rec} {a : Act} {l : List Act} (h : allowedE r a ≠ 0) : perfL r (a :: l) = perfL r l := by rw [perfL, if_neg h]
def start (au : Int) : Rec := ⟨1, au, [], [], []⟩
def perform (au : Int) (log : List Act) : Rec := perfL (start au) (log.take 300)

/-- An invariant of records that were made by performing actions. -/
structure Inv (r : Rec) : Prop where
  nd : r.ap.Nodup
  au : r.au ∉ r.ap
  s1 : r.st = 1 → r.ap = [] ∧ r.fa = []
  s2 : r.st = 2 → r.fa = []
  s3 : r.st = 3 → r.fa = [] ∧ 2 ≤ r.ap.length
  s4 : r.st = 4 ∨ r.st = 5 ∨ r.st = 6 → 2 ≤ r.ap.length ∧ ∃ f, r.fa = [f] ∧ f ≠ r.au ∧ f ∉ r.ap
  bd : 1 ≤ r.st ∧ r.st ≤ 7
theorem Inv.start (au : Int) : Inv (start au) := ⟨by simp [Rev.start], by simp [Rev.start], fun _ => ⟨rfl, rfl⟩, fun _ => rfl, fun h => by simp [Rev.start] at h, fun h => by simp [Rev.start] at h, by simp [Rev.start]⟩
theorem excl_no {r : Rec} {u : Int} {k : Int} (h : excl r k u = false) (hk : k = 2 ∨ k = 4) : u ≠ r.au ∧ u ∉ r.ap := by
  unfold excl at h
  rw [if_neg (by omega), if_pos hk] at h
  simpa using h
theorem Inv.next {r : Rec} {a : Act} (hi : Inv r) (h : allowedE r a = 0) : Inv (next r a) := by
  obtain ⟨k1, k2, k3⟩ := allowed_zero h
  obtain ⟨-, hp, he⟩ := allowed_more h
  obtain ⟨k, u, ro, t⟩ := a
  simp only at k1 k2 hp he
  have hk := kind_cases k1 k2
  have hb := hi.bd
  unfold poss at hp
  rcases hk with rfl | rfl | rfl | rfl | rfl | rfl | rfl | rfl | rfl
  · simp at hp
    obtain ⟨a1, a2⟩ := hi.s1 hp
    rw [next_1]
    exact ⟨hi.nd, hi.au, fun h => by simp at h, fun _ => a2, fun h => by simp at h, fun h => by simp at h, by simp⟩
  · simp at hp
    have a2 := hi.s2 hp
    obtain ⟨b1, b2⟩ := excl_no he (Or.inl rfl)
    rw [next_2]
    refine ⟨?_, ?_, fun h => ?_, fun h => a2, fun h => ?_, fun h => ?_, ?_⟩
    · rw [List.nodup_append]
      refine ⟨hi.nd, by simp, fun x hx y hy e => ?_⟩
      simp at hy
      subst hy
      subst e
      exact b2 hx
    · intro hx
      rcases List.mem_append.1 hx with g | g
      · exact hi.au g
      · simp at g; exact b1 g.symm
    · simp at h
      split at h
      · cases h
      · omega
    · simp only at h
      refine ⟨a2, ?_⟩
      simp only
      rw [List.length_append, List.length_singleton]
      split at h
      · omega
      · omega
    · simp at h
      split at h
      · omega
      · omega
    · simp
      split <;> omega
  · rw [next_3]
    exact ⟨by simp, by simp, fun _ => by simp, fun h => by simp at h, fun h => by simp at h, fun h => by simp at h, by simp⟩
  · simp at hp
    obtain ⟨a1, a2⟩ := hi.s3 hp
    obtain ⟨b1, b2⟩ := excl_no he (Or.inr rfl)
    rw [next_4]
    refine ⟨hi.nd, hi.au, fun h => by simp at h, fun h => by simp at h, fun h => by simp at h, fun _ => ?_, by simp⟩
    simp [a1, a2, b1, b2]
  · simp at hp
    obtain ⟨a1, f, a2, a3, a4⟩ := hi.s4 (Or.inl hp)
    rw [next_5]
    refine ⟨hi.nd, hi.au, fun h => by simp at h, fun h => by simp at h, fun h => by simp at h, fun _ => ?_, by simp⟩
    simp [a1, a2, a3, a4]
  · simp at hp
    obtain ⟨a1, f, a2, a3, a4⟩ := hi.s4 (Or.inr (Or.inl hp))
    rw [next_6]
    refine ⟨hi.nd, hi.au, fun h => by simp at h, fun h => by simp at h, fun h => by simp at h, fun _ => ?_, by simp⟩
    simp [a1, a2, a3, a4]
  · simp at hp
    obtain ⟨a1, f, a2, a3, a4⟩ := hi.s4 (Or.inr (Or.inr hp))
    rw [next_7]
    refine ⟨hi.nd, hi.au, fun h => by simp at h, fun h => by simp at h, fun h => by simp at h, fun _ => ?_, by simp⟩
    simp [a1, a2, a3, a4]
  · rw [next_8]
    exact ⟨hi.nd, hi.au, fun h => by simp at h, fun h => by simp at h, fun h => by simp at h, fun h => by simp at h, by simp⟩
  · rw [next_9]
    exact ⟨by simp, by simp, fun _ => by simp, fun h => by simp at h, fun h => by simp at h, fun h => by simp at h, by simp⟩
theorem perf_ind {Q : Rec → Prop} (hs : ∀ r a, Q r → allowedE r a = 0 → Q (next r a)) : ∀ (l : List Act) (r : Rec), Q r → Q (perfL r l)
  | [], r, h => h
  | a :: l, r, h => by
    rw [perfL]
    refine perf_ind hs l _ ?_
    split
    · exact hs r a h ‹_›
    · exact h
theorem perform_inv (au : Int) (log : List Act) : Inv (perform au log) := perf_ind (fun _ _ hi h => hi.next h) _ _ (Inv.start au)
theorem perform_au (au : Int) (log : List Act) : (perform au log).au = au := perf_ind (Q := fun r => r.au = au) (fun r a h _ => (next_au r a).trans h) _ _ rfl

/-- What replaying a log comes to: the record, how many were performed, the error. -/
def goR (r : Rec) (i : Nat) : List Act → Rec × Nat × Int
  | [] => (r, i, 0)
  | a :: l => if allowedE r a = 0 then goR (next r a) (i + 1) l else (zero, i, allowedE r a)
def replayR (au : Int) (log : List Act) : Rec × Nat × Int := if newE au = 0 then goR (start au) 0 log else (zero, 0, newE au)
theorem goR_yes {r : Rec} {i : Nat} {a : Act} {l : List Act} (h : allowedE r a = 0) : goR r i (a :: l) = goR (next r a) (i + 1) l := by rw [goR, if_pos h]
theorem goR_no {r : Rec} {i : Nat} {a : Act} {l : List Act} (h : allowedE r a ≠ 0) : goR r i (a :: l) = (zero, i, allowedE r a) := by rw [goR, if_neg h]
theorem goR_append {r : Rec} : ∀ {l : List Act} {i : Nat} {r0 : Rec} {n : Nat} (m : List Act), goR r0 i l = (r, n, 0) → (∀ x, allowedE r0 x = allowedE r0 x) → goR r0 i (l ++ m) = goR r n m
  | [], i, r0, n, m, h, _ => by
    rw [goR] at h
    injection h with h1 h2
    injection h2 with h2 _
    subst h1 h2
    rfl
  | a :: l, i, r0, n, m, h, _ => by
    rw [List.cons_append, goR]
    rw [goR] at h
    by_cases z : allowedE r0 a = 0
    · rw [if_pos z] at h ⊢
      exact goR_append m h (fun _ => rfl)
    · rw [if_neg z] at h
      injection h with _ h2
      injection h2 with _ h3
      exact absurd h3 z
/-- A record is what replaying its log leads to. -/
theorem perform_replay (au : Int) (log : List Act) : goR (start au) 0 (perform au log).log = (perform au log, (perform au log).log.length, 0) := by
  refine perf_ind (Q := fun r => goR (start au) 0 r.log = (r, r.log.length, 0)) (fun r a h z => ?_) _ _ rfl
  rw [next_log, goR_append [a] h (fun _ => rfl), goR_yes z, goR, List.length_append]
  rfl
theorem late_no {log : List Act} {a : Act} {t : Int} (h : late log t = false) (hl : log.getLast? = some a) : a.time ≤ t := by
  unfold late at h
  rw [hl] at h
  simpa using h
/-- The times of a log do not fall. -/
def Rising (log : List Act) : Prop := ∀ i a b, log[i]? = some a → log[i + 1]? = some b → a.time ≤ b.time
theorem rising_snoc {log : List Act} {a : Act} (h : Rising log) (ha : late log a.time = false) : Rising (log ++ [a]) := fun i x y hx hy => by
  rcases Nat.lt_or_ge (i + 1) log.length with g | g
  · rw [List.getElem?_append_left (by omega)] at hx hy
    exact h i x y hx hy
  · have hi : i + 1 < (log ++ [a]).length := by
      rcases Nat.lt_or_ge (i + 1) (log ++ [a]).length with g | g
      · exact g
      · rw [List.getElem?_eq_none g] at hy; cases hy
    rw [List.length_append, List.length_singleton] at hi
    have e : i + 1 = log.length := by omega
    rw [List.getElem?_append_right (by omega)] at hy
    rw [show i + 1 - log.length = 0 by omega] at hy
    simp at hy
    subst hy
    rw [List.getElem?_append_left (by omega)] at hx
    refine late_no ha ?_
    rw [List.getLast?_eq_getElem?, show log.length - 1 = i by omega]
    exact hx
theorem perform_rising (au : Int) (log : List Act) : Rising (perform au log).log :=
  perf_ind (Q := fun r => Rising r.log) (fun r a h z => by rw [next_log]; exact rising_snoc h (allowed_more z).1) _ _ (fun i a b h => by simp [Rev.start] at h)
theorem perform_len (au : Int) (log : List Act) : (perform au log).log.length ≤ 200 :=
  perf_ind (Q := fun r => r.log.length ≤ 200) (fun r a h z => by rw [next_log, List.length_append, List.length_singleton]; have := (allowed_zero z).2.2; omega) _ _ (by simp [Rev.start])
theorem perform_small (au : Int) (log : List Act) : (perform au log).ap.length ≤ 200 ∧ (perform au log).fa.length ≤ 200 := by
  have h : (perform au log).ap.length ≤ (perform au log).log.length ∧ (perform au log).fa.length ≤ (perform au log).log.length :=
    perf_ind (Q := fun r => r.ap.length ≤ r.log.length ∧ r.fa.length ≤ r.log.length) (fun r a h _ => by rw [next_log, List.length_append, List.length_singleton]; have := next_len r a; omega) _ _ (by simp [Rev.start])
  have := perform_len au log
  omega
end Go.Proofs.Ytadnjhpkenjmdaa.Rev
