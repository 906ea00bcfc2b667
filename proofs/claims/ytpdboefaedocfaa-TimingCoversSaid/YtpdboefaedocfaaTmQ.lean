/- Intervals: plain facts on check, the normal form, lengths, differences. No conditions. -/
import Derived.Test.YtpdboefaedocfaaTmN
namespace Go.Proofs.Ytpdboefaedocfaa.Tm

/-- An interval that check accepts. -/
def ok (p : Int × Int) : Prop := 0 ≤ p.1 ∧ p.1 < p.2 ∧ p.2 ≤ 1099511627776
theorem chk_zero {ls : List (List (Int × Int))} (h : chk ls = 0) : ∀ l ∈ ls, l.length ≤ 300 ∧ ∀ p ∈ l, ok p := by
  unfold chk at h
  split at h
  · cases h
  · split at h
    · cases h
    · split at h
      · cases h
      · rename_i h1 h2 h3
        intro l hl
        refine ⟨?_, fun p hp => ?_⟩
        · rcases Nat.lt_or_ge 300 l.length with g | g
          · exact absurd (List.any_eq_true.2 ⟨l, hl, by unfold big; simpa using g⟩) h1
          · exact g
        · have g2 : rng p = false := by
            cases hr : rng p with
            | false => rfl
            | true => exact absurd (List.any_eq_true.2 ⟨l, hl, List.any_eq_true.2 ⟨p, hp, hr⟩⟩) h2
          have g3 : ord p = false := by
            cases hr : ord p with
            | false => rfl
            | true => exact absurd (List.any_eq_true.2 ⟨l, hl, List.any_eq_true.2 ⟨p, hp, hr⟩⟩) h3
          unfold rng at g2
          unfold ord at g3
          rw [decide_eq_false_iff_not] at g2 g3
          unfold ok
          omega
theorem step_ok {out : List (Int × Int)} {p : Int × Int} (h : ∀ q ∈ out, ok q) (hp : ok p) : ∀ q ∈ step out p, ok q := by
  unfold step
  cases hl : out.getLast? with
  | none =>
    intro q hq
    simp at hq; subst hq; exact hp
  | some r =>
    have hr : ok r := h r (by rw [List.getLast?_eq_some_iff] at hl; obtain ⟨ys, rfl⟩ := hl; simp)
    simp only
    split
    · intro q hq
      rcases List.mem_append.1 hq with g | g
      · exact h q (List.dropLast_subset _ g)
      · simp at g; subst g
        unfold ok at *
        simp only
        omega
    · intro q hq
      rcases List.mem_append.1 hq with g | g
      · exact h q g
      · simp at g; subst g; exact hp
theorem fold_ok : ∀ (ps out : List (Int × Int)), (∀ q ∈ out, ok q) → (∀ p ∈ ps, ok p) → (∀ q ∈ ps.foldl step out, ok q) ∧ (ps.foldl step out).length ≤ out.length + ps.length
  | [], out, h, _ => ⟨h, by simp⟩
  | p :: ps, out, h, hp => by
    obtain ⟨h1, h2⟩ := fold_ok ps (step out p) (step_ok h (hp p (by simp))) (fun q hq => hp q (List.mem_cons_of_mem _ hq))
    refine ⟨h1, ?_⟩
    have := step_len out p
    rw [List.foldl_cons, List.length_cons]
    omega
theorem nrm_ok {ps : List (Int × Int)} (h : ∀ p ∈ ps, ok p) : (∀ q ∈ nrm ps, ok q) ∧ (nrm ps).length ≤ ps.length := by
  obtain ⟨h1, h2⟩ := fold_ok (srt ps) [] (fun q hq => by cases hq) (fun p hp => h p (srt_mem.1 hp))
  refine ⟨h1, ?_⟩
  rw [srt_len] at h2
  simpa [nrm] using h2

/-- The length of intervals. -/
def len (ps : List (Int × Int)) : Int := ps.foldl (fun n p => n + (p.2 - p.1)) 0
theorem len_snoc (ps : List (Int × Int)) (p : Int × Int) : len (ps ++ [p]) = len ps + (p.2 - p.1) := by unfold len; rw [List.foldl_append]; rfl

/-- One hole taken out of what is left of an interval that ends at e. -/
def hole (e : Int) (s : List (Int × Int) × Int) (h : Int × Int) : List (Int × Int) × Int :=
  if h.2 ≤ s.2 ∨ e ≤ h.1 then s else ((if s.2 < h.1 then s.1 ++ [(s.2, h.1)] else s.1), h.2)
def piece (hs : List (Int × Int)) (out : List (Int × Int)) (p : Int × Int) : List (Int × Int) :=
  if (hs.foldl (hole p.2) (out, p.1)).2 < p.2 then (hs.foldl (hole p.2) (out, p.1)).1 ++ [((hs.foldl (hole p.2) (out, p.1)).2, p.2)] else (hs.foldl (hole p.2) (out, p.1)).1
/-- What the first list has and the second has not. -/
def mns (ps hs : List (Int × Int)) : List (Int × Int) := ps.foldl (piece hs) []
theorem hole_skip {e : Int} {o : List (Int × Int)} {f : Int} {h : Int × Int} (hh : h.2 ≤ f ∨ e ≤ h.1) : hole e (o, f) h = (o, f) := by unfold hole; rw [if_pos hh]
theorem hole_add {e : Int} {o : List (Int × Int)} {f : Int} {h : Int × Int} (hh : ¬ (h.2 ≤ f ∨ e ≤ h.1)) (h2 : f < h.1) : hole e (o, f) h = (o ++ [(f, h.1)], h.2) := by unfold hole; rw [if_neg hh, if_pos h2]
theorem hole_none {e : Int} {o : List (Int × Int)} {f : Int} {h : Int × Int} (hh : ¬ (h.2 ≤ f ∨ e ≤ h.1)) (h2 : ¬ f < h.1) : hole e (o, f) h = (o, h.2) := by unfold hole; rw [if_neg hh, if_neg h2]
def uniV (l : List (Int × Int)) : List (Int × Int) := if chk [l] = 0 then nrm l else []
def totV (l : List (Int × Int)) : Int := if chk [l] = 0 then len (nrm l) else 0
def minV (a b : List (Int × Int)) : List (Int × Int) := if chk [a, b] = 0 then mns (nrm a) (nrm b) else []
end Go.Proofs.Ytpdboefaedocfaa.Tm
