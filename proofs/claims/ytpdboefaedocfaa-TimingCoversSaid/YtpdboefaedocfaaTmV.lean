/- Intervals: the plain laws of TimingParts and TimingUnion. No conditions beyond those of each theorem. -/
import Derived.Test.YtpdboefaedocfaaTmT
namespace Go.Proofs.Ytpdboefaedocfaa.Tm

theorem chk_of {ls : List (List (Int × Int))} (h : ∀ l ∈ ls, l.length ≤ 300 ∧ ∀ p ∈ l, ok p) : chk ls = 0 := by
  refine chk_ok ?_ ?_ ?_
  · rw [List.any_eq_false]
    intro l hl
    have := (h l hl).1
    unfold big
    simpa using this
  · rw [List.any_eq_false]
    intro l hl
    simp only [Bool.not_eq_true]
    rw [List.any_eq_false]
    intro p hp
    have := (h l hl).2 p hp
    unfold ok at this
    unfold rng
    simp only [decide_eq_true_eq]
    omega
  · rw [List.any_eq_false]
    intro l hl
    simp only [Bool.not_eq_true]
    rw [List.any_eq_false]
    intro p hp
    have := (h l hl).2 p hp
    unfold ok at this
    unfold ord
    simp only [decide_eq_true_eq]
    omega
theorem small {a : List (Int × Int)} (ha : a.length ≤ 300) : big a = false := by unfold big; simpa using ha
theorem chk_parts {a b : List (Int × Int)} (ha : a.length ≤ 60) (hb : b.length ≤ 60) : chk [b, a] = chk [a ++ b] := by
  unfold chk
  simp only [List.any_cons, List.any_nil, Bool.or_false, List.any_append]
  rw [small (a := a) (by omega), small (a := b) (by omega), small (a := a ++ b) (by rw [List.length_append]; omega)]
  rw [Bool.or_comm (b.any rng), Bool.or_comm (b.any ord)]
  rfl
theorem ok_lt {l : List (Int × Int)} (h : ∀ p ∈ l, ok p) : ∀ p ∈ l, p.1 < p.2 := fun p hp => (h p hp).2.1
theorem mns_ok {ps hs : List (Int × Int)} (hp : ∀ p ∈ ps, ok p) (hh : ∀ p ∈ hs, p.1 < p.2) : ∀ d ∈ mns ps hs, ok d := by
  intro d hd
  rw [mns_flat] at hd
  obtain ⟨p, hpm, hd⟩ := List.mem_flatMap.1 hd
  have h1 := left_in p.2 hs p.1 hh d hd
  have h2 := hp p hpm
  unfold ok at *
  omega
theorem nrm_id {m : List (Int × Int)} (h : Norm m) : nrm m = m := by
  obtain ⟨h1, h2⟩ := nrm_norm h.1
  exact norm_unique _ _ h1 h h2
theorem len_ok {L : List (Int × Int)} (h : Norm L) (ho : ∀ p ∈ L, ok p) : len L = mea 1099511627776 L :=
  len_mea 1099511627776 L h (fun p hp => by have := ho p hp; unfold ok at this; omega)
theorem mea_top (N : Nat) (L : List (Int × Int)) : mea N L ≤ N := by
  unfold mea
  refine Nat.le_trans List.countP_le_length ?_
  rw [List.length_range]
  exact Nat.le_refl N
theorem len_pos {L : List (Int × Int)} (h : ∀ p ∈ L, ok p) : 0 ≤ len L ∧ (L ≠ [] → 1 ≤ len L) := by
  induction L with
  | nil => exact ⟨by simp [len], fun g => absurd rfl g⟩
  | cons p L ih =>
    have h1 := h p (by simp)
    have h2 := (ih fun q hq => h q (List.mem_cons_of_mem _ hq)).1
    unfold ok at h1
    rw [len_cons]
    exact ⟨by omega, fun _ => by omega⟩
theorem nrm_ne {ps : List (Int × Int)} (h : ∀ p ∈ ps, ok p) (hne : ps ≠ []) : nrm ps ≠ [] := by
  intro e
  cases ps with
  | nil => exact hne rfl
  | cons p ps =>
    have h1 := (nrm_norm (ok_lt h)).2 p.1
    rw [e, cov_nil, cov_cons] at h1
    have := (h p (by simp)).2.1
    have e2 : decide (p.1 ≤ p.1 ∧ p.1 < p.2) = true := by rw [decide_eq_true_iff]; omega
    rw [e2] at h1
    cases h1
/-- What TimingParts asks for, where the lists are accepted. -/
theorem parts_plain {a b : List (Int × Int)} (ha : a.length ≤ 60) (hb : b.length ≤ 60) (hz : chk [b, a] = 0) :
    chk [a] = 0 ∧ chk [minV b a] = 0 ∧ chk [minV b a, a] = 0 ∧ chk [a, a] = 0 ∧ totV (a ++ b) = totV a + totV (minV b a) ∧ (0 < (a ++ b).length → 1 ≤ totV (a ++ b)) ∧
    minV (minV b a) a = minV b a ∧ minV a a = [] ∧ (0 ≤ totV a ∧ totV a ≤ 1099511627776) ∧ (0 ≤ totV (minV b a) ∧ totV (minV b a) ≤ 1099511627776) ∧ (∀ p ∈ minV b a, ok p) := by
  have hbo := (chk_zero hz b (by simp)).2
  have hao := (chk_zero hz a (by simp)).2
  obtain ⟨na, ca⟩ := nrm_norm (ok_lt hao)
  obtain ⟨nb, cb⟩ := nrm_norm (ok_lt hbo)
  obtain ⟨oa, la⟩ := nrm_ok hao
  obtain ⟨ob, lb⟩ := nrm_ok hbo
  obtain ⟨nm, cm⟩ := mns_norm _ _ nb na
  have lm := mns_len nb na
  have om := mns_ok ob na.1
  have e0 : minV b a = mns (nrm b) (nrm a) := by unfold minV; rw [if_pos hz]
  have zab : chk [a ++ b] = 0 := by rw [← chk_parts ha hb]; exact hz
  have habo := (chk_zero zab (a ++ b) (by simp)).2
  obtain ⟨nab, cab⟩ := nrm_norm (ok_lt habo)
  obtain ⟨oab, lab⟩ := nrm_ok habo
  rw [e0]
  have za : chk [a] = 0 := chk_of fun l hl => by simp at hl; subst hl; exact ⟨by omega, hao⟩
  have zm : chk [mns (nrm b) (nrm a)] = 0 := chk_of fun l hl => by simp at hl; subst hl; exact ⟨by omega, om⟩
  have zma : chk [mns (nrm b) (nrm a), a] = 0 := chk_of fun l hl => by
    simp at hl
    rcases hl with rfl | rfl
    · exact ⟨by omega, om⟩
    · exact ⟨by omega, hao⟩
  have zaa : chk [a, a] = 0 := chk_of fun l hl => by simp at hl; subst hl; exact ⟨by omega, hao⟩
  have t1 : totV a = len (nrm a) := by unfold totV; rw [if_pos za]
  have t2 : totV (mns (nrm b) (nrm a)) = len (mns (nrm b) (nrm a)) := by unfold totV; rw [if_pos zm, nrm_id nm]
  have t3 : totV (a ++ b) = len (nrm (a ++ b)) := by unfold totV; rw [if_pos zab]
  have l1 := len_ok na oa
  have l2 := len_ok nm om
  have l3 := len_ok nab oab
  have hsum : mea 1099511627776 (nrm (a ++ b)) = mea 1099511627776 (nrm a) + mea 1099511627776 (mns (nrm b) (nrm a)) := by
    unfold mea
    rw [← count_or]
    · congr 1
      funext x
      rw [cab, cov_append, cm, ca, cb]
      cases cov a x <;> cases cov b x <;> rfl
    · rintro x ⟨g1, g2⟩
      rw [cm, g1] at g2
      simp at g2
  have m1 := mea_top 1099511627776 (nrm a)
  have m2 := mea_top 1099511627776 (mns (nrm b) (nrm a))
  refine ⟨za, zm, zma, zaa, by omega, fun g => ?_, ?_, ?_, ⟨by omega, by omega⟩, ⟨by omega, by omega⟩, om⟩
  · rw [t3]
    exact (len_pos oab).2 (nrm_ne habo (fun e => by rw [e] at g; simp at g))
  · obtain ⟨nx, cx⟩ := mns_norm _ _ nm na
    unfold minV
    rw [if_pos zma, nrm_id nm]
    refine norm_unique _ _ nx nm fun x => ?_
    rw [cx, cm]
    cases cov (nrm a) x <;> cases cov (nrm b) x <;> rfl
  · obtain ⟨nx, cx⟩ := mns_norm _ _ na na
    unfold minV
    rw [if_pos zaa]
    refine norm_unique _ _ nx Norm.nil fun x => ?_
    rw [cx, cov_nil]
    cases cov (nrm a) x <;> rfl
/-- Where the lists are not accepted. -/
theorem parts_bad {a b : List (Int × Int)} (ha : a.length ≤ 60) (hb : b.length ≤ 60) (hz : chk [b, a] ≠ 0) : chk [a ++ b] = chk [b, a] ∧ totV (a ++ b) = 0 ∧ minV b a = [] := by
  have e := chk_parts ha hb
  refine ⟨e.symm, ?_, ?_⟩
  · unfold totV; rw [if_neg (by rw [← e]; exact hz)]
  · unfold minV; rw [if_neg hz]
theorem len_append (L M : List (Int × Int)) : len (L ++ M) = len L + len M := by
  induction L with
  | nil => simp [len]
  | cons p L ih => rw [List.cons_append, len_cons, len_cons, ih]; omega
theorem chk_first {a b : List (Int × Int)} (h : chk [a] ≠ 0) : chk [a, b] ≠ 0 := by
  intro g
  exact h (chk_of fun l hl => by simp at hl; subst hl; exact chk_zero g l (by simp))
/-- What TimingUnion asks for, where the list is accepted. -/
theorem union_plain {a b : List (Int × Int)} (hz : chk [a] = 0) (hl : a.length ≤ 60) :
    uniV a = nrm a ∧ totV a = len (nrm a) ∧ Norm (nrm a) ∧ (∀ x, cov (nrm a) x = cov a x) ∧ len (nrm a) ≤ len a ∧ (∀ p ∈ a, cov (nrm a) p.1 = true ∧ cov (nrm a) (p.2 - 1) = true) ∧
    Norm (minV a b) ∧ (chk [a, b] = 0 → ∀ x, cov (minV a b) x = (cov a x && !cov b x)) ∧ (∀ p ∈ a, ok p) ∧ (∀ p ∈ nrm a, ok p) ∧ (nrm a).length ≤ 60 := by
  have hao := (chk_zero hz a (by simp)).2
  obtain ⟨na, ca⟩ := nrm_norm (ok_lt hao)
  obtain ⟨oa, la⟩ := nrm_ok hao
  refine ⟨by unfold uniV; rw [if_pos hz], by unfold totV; rw [if_pos hz], na, ca, ?_, fun p hp => ?_, ?_, fun hz2 x => ?_, hao, oa, by omega⟩
  · rw [len_ok na oa]
    have h1 := mea_le 1099511627776 a (fun p hp => by have := hao p hp; unfold ok at this; omega)
    have h2 : mea 1099511627776 (nrm a) = mea 1099511627776 a := by
      unfold mea
      congr 1
      funext x
      rw [ca]
    rw [h2]
    exact h1
  · have := hao p hp
    unfold ok at this
    rw [ca, ca]
    exact ⟨cov_iff.2 ⟨p, hp, by omega, by omega⟩, cov_iff.2 ⟨p, hp, by omega, by omega⟩⟩
  · unfold minV
    split
    · rename_i g
      exact (mns_norm _ _ na (nrm_norm (ok_lt (chk_zero g b (by simp)).2)).1).1
    · exact Norm.nil
  · obtain ⟨nb, cb⟩ := nrm_norm (ok_lt (chk_zero hz2 b (by simp)).2)
    unfold minV
    rw [if_pos hz2, (mns_norm _ _ na nb).2, ca, cb]
end Go.Proofs.Ytpdboefaedocfaa.Tm
