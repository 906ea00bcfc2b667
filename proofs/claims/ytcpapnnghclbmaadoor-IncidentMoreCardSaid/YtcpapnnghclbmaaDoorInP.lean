/- Plain laws of merging: what is merged is in strict order and has the members of both lists; so merging is commutative, associative and idempotent. No conditions. -/
import Derived.Test.YtcpapnnghclbmaaDoorInE
namespace Go.Proofs.YtcpapnnghclbmaaDoor
namespace In

def Srt (l : List Inc) : Prop := l.Pairwise fun p q => ¬ Lt q p
def Str (l : List Inc) : Prop := l.Pairwise Lt
theorem Lt.irrefl (p : Inc) : ¬ Lt p p := by unfold Lt; omega
theorem Lt.trans {p q r : Inc} (h : Lt p q) (k : Lt q r) : Lt p r := by unfold Lt at *; omega
theorem Lt.asymm {p q : Inc} (h : Lt p q) : ¬ Lt q p := by unfold Lt at *; omega
theorem srt_srt (l : List Inc) : Srt (srt l) := by
  have h := List.pairwise_mergeSort (le := fun x y => !lt y x) (fun a b c h1 h2 => by
    simp only [Bool.not_eq_true'] at h1 h2 ⊢
    rw [lt_false] at *
    unfold Lt at *; omega) (fun a b => by
    simp only [Bool.or_eq_true, Bool.not_eq_true']
    rw [lt_false, lt_false]
    unfold Lt; omega) l
  refine h.imp fun {a b} g => ?_
  simp only [Bool.not_eq_true'] at g
  exact (lt_false b a).1 g
theorem dd_getLast : ∀ (l : List Inc), (dd l).getLast? = l.getLast? := fun l => by
  rcases List.eq_nil_or_concat l with rfl | ⟨m, p, rfl⟩
  · rfl
  · rw [List.concat_eq_append, dd_snoc, ddS_last]; simp
theorem dd_str {l : List Inc} (h : Srt l) : Str (dd l) := by
  suffices hh : ∀ (r : List Inc), Srt r.reverse → Str (dd r.reverse) by
    have := hh l.reverse
    rw [List.reverse_reverse] at this
    exact this h
  intro r
  induction r with
  | nil => intro _; exact List.Pairwise.nil
  | cons p r ih =>
    intro hs
    rw [List.reverse_cons] at hs ⊢
    have hs' : Srt r.reverse ∧ ∀ q ∈ r.reverse, ¬ Lt p q := by
      unfold Srt at hs
      rw [List.pairwise_append] at hs
      exact ⟨hs.1, fun q hq => hs.2.2 q hq p (by simp)⟩
    have hd := ih hs'.1
    rw [dd_snoc]
    by_cases hl : (dd r.reverse).getLast? = some p
    · rw [ddS_same hl]; exact hd
    · have e : ddS (dd r.reverse) p = dd r.reverse ++ [p] := by unfold ddS; rw [if_neg hl]
      rw [e]
      unfold Str
      rw [List.pairwise_append]
      refine ⟨hd, List.pairwise_singleton _ _, fun q hq x hx => ?_⟩
      simp at hx
      subst hx
      have hqm : q ∈ r.reverse := dd_mem.1 hq
      have hnq := hs'.2 q hqm
      by_cases hlt : Lt q x
      · exact hlt
      · exfalso
        obtain rfl := Lt.total hlt hnq
        obtain ⟨z, hz⟩ : ∃ z, r.reverse.getLast? = some z := by
          cases hg : r.reverse.getLast? with
          | none => rw [List.getLast?_eq_none_iff] at hg; rw [hg] at hqm; simp at hqm
          | some z => exact ⟨z, rfl⟩
        have hzm : z ∈ r.reverse := List.mem_of_getLast? hz
        have h1 := hs'.2 z hzm
        have h2 : ¬ Lt z q := by
          obtain ⟨ys, hys⟩ := List.getLast?_eq_some_iff.1 hz
          have hsr := hs'.1
          unfold Srt at hsr
          rw [hys, List.pairwise_append] at hsr
          rw [hys] at hqm
          rcases List.mem_append.1 hqm with g | g
          · exact hsr.2.2 q g z (by simp)
          · simp at g; rw [g]; exact Lt.irrefl _
        have := Lt.total h1 h2
        rw [dd_getLast, hz, this] at hl
        exact hl rfl
theorem mrg_str (a b : List Inc) : Str (mrg a b) := dd_str (srt_srt _)
theorem str_eq : ∀ {l m : List Inc}, Str l → Str m → (∀ p, p ∈ l ↔ p ∈ m) → l = m
  | [], [], _, _, _ => rfl
  | [], q :: m, _, _, h => absurd ((h q).2 (by simp)) (by simp)
  | p :: l, [], _, _, h => absurd ((h p).1 (by simp)) (by simp)
  | p :: l, q :: m, hl, hm, h => by
    have hl' := List.pairwise_cons.1 hl
    have hm' := List.pairwise_cons.1 hm
    have e : p = q := by
      rcases List.mem_cons.1 ((h p).1 (by simp)) with g | g
      · exact g
      · rcases List.mem_cons.1 ((h q).2 (by simp)) with k | k
        · exact k.symm
        · exact absurd (hm'.1 p g) (Lt.asymm (hl'.1 q k))
    subst e
    have ht : l = m := str_eq hl'.2 hm'.2 (fun x => by
      constructor
      · intro hx
        rcases List.mem_cons.1 ((h x).1 (by simp [hx])) with g | g
        · subst g; exact absurd (hl'.1 x hx) (Lt.irrefl x)
        · exact g
      · intro hx
        rcases List.mem_cons.1 ((h x).2 (by simp [hx])) with g | g
        · subst g; exact absurd (hm'.1 x hx) (Lt.irrefl x)
        · exact g)
    rw [ht]
theorem mrg_comm (a b : List Inc) : mrg a b = mrg b a := str_eq (mrg_str _ _) (mrg_str _ _) (fun p => by rw [mrg_mem, mrg_mem]; exact or_comm)
theorem mrg_assoc (a b c : List Inc) : mrg (mrg a b) c = mrg a (mrg b c) := str_eq (mrg_str _ _) (mrg_str _ _) (fun p => by rw [mrg_mem, mrg_mem, mrg_mem, mrg_mem]; exact or_assoc)
theorem mrg_again (a b : List Inc) : mrg (mrg a b) a = mrg a b := str_eq (mrg_str _ _) (mrg_str _ _) (fun p => by
  rw [mrg_mem, mrg_mem]
  constructor
  · rintro (h | h)
    · exact h
    · exact Or.inl h
  · intro h; exact Or.inl h)
theorem merE_zero {a b : List Inc} : merE a b = 0 ↔ chk a = 0 ∧ chk b = 0 ∧ (mrg a b).length ≤ 300 := by
  unfold merE
  by_cases h1 : chk a ≠ 0
  · rw [if_pos h1]; constructor
    · intro e; exact absurd e h1
    · intro e; exact absurd e.1 h1
  · rw [if_neg h1]
    by_cases h2 : chk b ≠ 0
    · rw [if_pos h2]; constructor
      · intro e; exact absurd e h2
      · intro e; exact absurd e.2.1 h2
    · rw [if_neg h2]
      have h1' : chk a = 0 := by simpa using h1
      have h2' : chk b = 0 := by simpa using h2
      by_cases h3 : 300 < (mrg a b).length
      · rw [if_pos h3]; constructor
        · intro e; exact absurd e (by decide)
        · intro e; omega
      · rw [if_neg h3]; constructor
        · intro _; exact ⟨h1', h2', by omega⟩
        · intro _; rfl
theorem merL_of {a b : List Inc} (h : merE a b = 0) : merL a b = mrg a b := by unfold merL; rw [if_pos h]
theorem chk_mrg {a b : List Inc} (h : merE a b = 0) : chk (mrg a b) = 0 := by
  obtain ⟨h1, h2, h3⟩ := merE_zero.1 h
  rw [chk_zero]
  refine ⟨h3, fun p hp => ?_⟩
  rcases mrg_mem.1 hp with g | g
  · exact (chk_zero.1 h1).2 p g
  · exact (chk_zero.1 h2).2 p g
theorem merE_comm {a b : List Inc} : merE a b = 0 ↔ merE b a = 0 := by
  rw [merE_zero, merE_zero, mrg_comm a b]
  constructor
  · rintro ⟨h1, h2, h3⟩; exact ⟨h2, h1, h3⟩
  · rintro ⟨h1, h2, h3⟩; exact ⟨h2, h1, h3⟩
theorem merE_ok {a b : List Inc} (h1 : chk a = 0) (h2 : chk b = 0) : merE a b = if 300 < (mrg a b).length then 5 else 0 := by
  unfold merE; rw [if_neg (by rw [h1]; simp), if_neg (by rw [h2]; simp)]
/-- Merging is associative, errors too. -/
theorem groups {a b c : List Inc} (h : merE a b = 0) (k : merE b c = 0) : merE (merL a b) c = merE a (merL b c) ∧ merL (merL a b) c = merL a (merL b c) := by
  have ha := (merE_zero.1 h).1
  have hc := (merE_zero.1 k).2.1
  have e : merE (merL a b) c = merE a (merL b c) := by
    rw [merL_of h, merL_of k, merE_ok (chk_mrg h) hc, merE_ok ha (chk_mrg k), mrg_assoc]
  refine ⟨e, ?_⟩
  unfold merL at e ⊢
  rw [if_pos h, if_pos k] at e
  rw [if_pos h, if_pos k, e, mrg_assoc]
theorem again {a b : List Inc} (h : merE a b = 0) : merE (merL a b) a = 0 ∧ merL (merL a b) a = merL a b := by
  have hz := merE_zero.1 h
  have e : merE (merL a b) a = 0 := by
    rw [merL_of h, merE_zero]
    refine ⟨chk_mrg h, hz.1, ?_⟩
    rw [mrg_again]; exact hz.2.2
  refine ⟨e, ?_⟩
  rw [merL_of e, merL_of h, mrg_again]
theorem merL_comm {a b : List Inc} : merL a b = merL b a := by
  by_cases h : merE a b = 0
  · rw [merL_of h, merL_of (merE_comm.1 h), mrg_comm]
  · have k : ¬ merE b a = 0 := fun e => h (merE_comm.1 e)
    unfold merL; rw [if_neg h, if_neg k]
end In
end Go.Proofs.YtcpapnnghclbmaaDoor
