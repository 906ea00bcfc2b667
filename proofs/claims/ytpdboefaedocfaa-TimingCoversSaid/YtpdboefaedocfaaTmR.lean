/- Intervals: what normal forms and differences cover; a normal form is determined by what it covers; lengths count seconds. Plain. No conditions. -/
import Derived.Test.YtpdboefaedocfaaTmM
namespace Go.Proofs.Ytpdboefaedocfaa.Tm

/-- x lies in one of the intervals. -/
def cov (L : List (Int × Int)) (x : Int) : Bool := L.any fun p => decide (p.1 ≤ x ∧ x < p.2)
def Norm (L : List (Int × Int)) : Prop := (∀ p ∈ L, p.1 < p.2) ∧ L.Pairwise fun p q => p.2 < q.1
theorem cov_iff {L : List (Int × Int)} {x : Int} : cov L x = true ↔ ∃ p ∈ L, p.1 ≤ x ∧ x < p.2 := by
  unfold cov
  rw [List.any_eq_true]
  simp
theorem cov_append (L M : List (Int × Int)) (x : Int) : cov (L ++ M) x = (cov L x || cov M x) := by unfold cov; rw [List.any_append]
theorem cov_cons (p : Int × Int) (L : List (Int × Int)) (x : Int) : cov (p :: L) x = (decide (p.1 ≤ x ∧ x < p.2) || cov L x) := rfl
theorem cov_nil (x : Int) : cov [] x = false := rfl
theorem cov_mem {L M : List (Int × Int)} (h : ∀ p, p ∈ L ↔ p ∈ M) (x : Int) : cov L x = cov M x := by
  rw [Bool.eq_iff_iff, cov_iff, cov_iff]
  constructor
  · rintro ⟨p, hp, hx⟩; exact ⟨p, (h p).1 hp, hx⟩
  · rintro ⟨p, hp, hx⟩; exact ⟨p, (h p).2 hp, hx⟩
theorem Norm.nil : Norm [] := ⟨fun p hp => (by cases hp), List.Pairwise.nil⟩

theorem fold_norm : ∀ (ps out : List (Int × Int)), Norm out → (∀ p ∈ ps, p.1 < p.2) → ps.Pairwise (fun p q => p.1 ≤ q.1) → (∀ q ∈ out, ∀ p ∈ ps, q.1 ≤ p.1) → Norm (ps.foldl step out) ∧ ∀ x, cov (ps.foldl step out) x = (cov out x || cov ps x)
  | [], out, h, _, _, _ => ⟨h, fun x => by simp [cov]⟩
  | p :: ps, out, h, h1, h2, h3 => by
    have hp := h1 p (by simp)
    rw [List.pairwise_cons] at h2
    have key : Norm (step out p) ∧ (∀ x, cov (step out p) x = (cov out x || decide (p.1 ≤ x ∧ x < p.2))) ∧ (∀ q ∈ step out p, ∀ r ∈ ps, q.1 ≤ r.1) := by
      cases hl : out.getLast? with
      | none =>
        rw [List.getLast?_eq_none_iff] at hl
        subst hl
        refine ⟨⟨fun q hq => ?_, ?_⟩, fun x => ?_, fun q hq r hr => ?_⟩
        · simp [step] at hq; subst hq; exact hp
        · simp [step]
        · simp [step, cov]
        · simp [step] at hq; subst hq; exact h2.1 r hr
      | some q =>
        have hl' := hl
        rw [List.getLast?_eq_some_iff] at hl
        obtain ⟨ys, rfl⟩ := hl
        have hq := h.1 q (by simp)
        have hqp := h3 q (by simp) p (by simp)
        have hys := List.pairwise_append.1 h.2
        by_cases hj : p.1 ≤ q.2
        · rw [step_join hl' hj, List.dropLast_concat]
          refine ⟨⟨fun r hr => ?_, ?_⟩, fun x => ?_, fun r hr s hs => ?_⟩
          · rcases List.mem_append.1 hr with g | g
            · exact h.1 r (by simp [g])
            · simp at g; subst g; simp only; omega
          · refine List.pairwise_append.2 ⟨hys.1, by simp, fun a ha b hb => ?_⟩
            simp at hb; subst hb
            exact hys.2.2 a ha q (by simp)
          · rw [cov_append, cov_append, Bool.or_assoc]
            congr 1
            rw [Bool.eq_iff_iff]
            simp [cov]
            omega
          · rcases List.mem_append.1 hr with g | g
            · exact h3 r (by simp [g]) s (List.mem_cons_of_mem _ hs)
            · simp at g; subst g
              exact h3 q (by simp) s (List.mem_cons_of_mem _ hs)
        · rw [step_new hl' hj]
          refine ⟨⟨fun r hr => ?_, ?_⟩, fun x => ?_, fun r hr s hs => ?_⟩
          · rcases List.mem_append.1 hr with g | g
            · exact h.1 r g
            · simp at g; subst g; exact hp
          · refine List.pairwise_append.2 ⟨h.2, by simp, fun a ha b hb => ?_⟩
            simp at hb; subst hb
            rcases List.mem_append.1 ha with g | g
            · have := hys.2.2 a g q (by simp)
              omega
            · simp at g; subst g; omega
          · rw [cov_append]; simp [cov]
          · rcases List.mem_append.1 hr with g | g
            · exact h3 r g s (List.mem_cons_of_mem _ hs)
            · simp at g; subst g; exact h2.1 s hs
    obtain ⟨k1, k2, k3⟩ := key
    obtain ⟨r1, r2⟩ := fold_norm ps (step out p) k1 (fun r hr => h1 r (List.mem_cons_of_mem _ hr)) h2.2 k3
    refine ⟨r1, fun x => ?_⟩
    rw [List.foldl_cons, r2 x, k2 x, cov_cons, Bool.or_assoc]
theorem srt_sorted (ps : List (Int × Int)) : (srt ps).Pairwise (fun p q => p.1 ≤ q.1) := by
  have h := List.pairwise_mergeSort (le := fun x y => !lt y x) (fun a b c h1 h2 => ?_) (fun a b => ?_) ps
  · refine h.imp fun {a b} hab => ?_
    simp only [Bool.not_eq_true', lt_iff, decide_eq_false_iff_not] at hab
    omega
  · simp only [Bool.not_eq_true', lt_iff, decide_eq_false_iff_not] at *
    omega
  · cases h1 : lt b a with
    | false => simp
    | true =>
      simp only [lt_iff, decide_eq_true_iff] at h1
      have : lt a b = false := by rw [lt_iff, decide_eq_false_iff_not]; omega
      simp [this]
theorem nrm_norm {ps : List (Int × Int)} (h : ∀ p ∈ ps, p.1 < p.2) : Norm (nrm ps) ∧ ∀ x, cov (nrm ps) x = cov ps x := by
  obtain ⟨h1, h2⟩ := fold_norm (srt ps) [] Norm.nil (fun p hp => h p (srt_mem.1 hp)) (srt_sorted ps) (fun q hq => by cases hq)
  refine ⟨h1, fun x => ?_⟩
  show cov ((srt ps).foldl step []) x = _
  rw [h2 x, cov_nil, Bool.false_or]
  exact cov_mem (fun p => srt_mem) x

/-- What is left of [f, e) behind the holes. -/
def left (e : Int) : List (Int × Int) → Int → List (Int × Int)
  | [], f => if f < e then [(f, e)] else []
  | h :: hs, f => if h.2 ≤ f ∨ e ≤ h.1 then left e hs f else (if f < h.1 then [(f, h.1)] else []) ++ left e hs h.2
theorem piece_left (e : Int) : ∀ (hs : List (Int × Int)) (o : List (Int × Int)) (f : Int), (if (hs.foldl (hole e) (o, f)).2 < e then (hs.foldl (hole e) (o, f)).1 ++ [((hs.foldl (hole e) (o, f)).2, e)] else (hs.foldl (hole e) (o, f)).1) = o ++ left e hs f
  | [], o, f => by
    show (if f < e then o ++ [(f, e)] else o) = o ++ (if f < e then [(f, e)] else [])
    by_cases hf : f < e
    · rw [if_pos hf, if_pos hf]
    · rw [if_neg hf, if_neg hf, List.append_nil]
  | h :: hs, o, f => by
    rw [List.foldl_cons, left]
    by_cases hh : h.2 ≤ f ∨ e ≤ h.1
    · rw [hole_skip hh, if_pos hh]
      exact piece_left e hs o f
    · rw [if_neg hh]
      by_cases h2 : f < h.1
      · rw [hole_add hh h2, if_pos h2, ← List.append_assoc]
        exact piece_left e hs (o ++ [(f, h.1)]) h.2
      · rw [hole_none hh h2, if_neg h2, List.nil_append]
        exact piece_left e hs o h.2
theorem left_in (e : Int) : ∀ (hs : List (Int × Int)) (f : Int), (∀ h ∈ hs, h.1 < h.2) → ∀ d ∈ left e hs f, f ≤ d.1 ∧ d.1 < d.2 ∧ d.2 ≤ e
  | [], f, _, d, hd => by
    rw [left] at hd
    split at hd
    · simp at hd; subst hd; simp only; omega
    · cases hd
  | h :: hs, f, hok, d, hd => by
    have hh := hok h (by simp)
    have ih := left_in e hs
    rw [left] at hd
    split at hd
    · exact ih f (fun x hx => hok x (List.mem_cons_of_mem _ hx)) d hd
    · rename_i hn
      rcases List.mem_append.1 hd with g | g
      · split at g
        · simp at g; subst g; simp only; omega
        · cases g
      · have := ih h.2 (fun x hx => hok x (List.mem_cons_of_mem _ hx)) d g
        omega
theorem left_norm (e : Int) : ∀ (hs : List (Int × Int)) (f : Int), Norm hs → Norm (left e hs f) ∧ ∀ x, cov (left e hs f) x = (decide (f ≤ x ∧ x < e) && !cov hs x)
  | [], f, _ => by
    rw [left]
    split
    · refine ⟨⟨fun p hp => ?_, by simp⟩, fun x => by simp [cov]⟩
      simp at hp; subst hp; assumption
    · refine ⟨Norm.nil, fun x => ?_⟩
      rw [cov_nil]
      have : decide (f ≤ x ∧ x < e) = false := by rw [decide_eq_false_iff_not]; omega
      rw [this]; rfl
  | h :: hs, f, hn => by
    have hh := hn.1 h (by simp)
    have hpw := List.pairwise_cons.1 hn.2
    have hn' : Norm hs := ⟨fun p hp => hn.1 p (List.mem_cons_of_mem _ hp), hpw.2⟩
    rw [left]
    split
    · rename_i hs2
      obtain ⟨r1, r2⟩ := left_norm e hs f hn'
      refine ⟨r1, fun x => ?_⟩
      rw [r2 x, cov_cons]
      rw [Bool.eq_iff_iff]
      simp only [Bool.and_eq_true, decide_eq_true_eq, Bool.not_eq_true', Bool.or_eq_false_iff, decide_eq_false_iff_not]
      constructor
      · rintro ⟨g1, g2⟩; exact ⟨g1, by omega, g2⟩
      · rintro ⟨g1, -, g2⟩; exact ⟨g1, g2⟩
    · rename_i hs2
      obtain ⟨r1, r2⟩ := left_norm e hs h.2 hn'
      have hin := left_in e hs h.2 hn'.1
      have hfar : ∀ x, x < h.2 → cov hs x = false := fun x hx => by
        cases hc : cov hs x with
        | false => rfl
        | true =>
          obtain ⟨q, hq, hqx⟩ := cov_iff.1 hc
          have := hpw.1 q hq
          omega
      refine ⟨⟨fun p hp => ?_, ?_⟩, fun x => ?_⟩
      · rcases List.mem_append.1 hp with g | g
        · split at g
          · simp at g; subst g; assumption
          · cases g
        · exact r1.1 p g
      · refine List.pairwise_append.2 ⟨by split <;> simp, r1.2, fun a ha b hb => ?_⟩
        have := hin b hb
        split at ha
        · simp at ha; subst ha; simp only; omega
        · cases ha
      · rw [cov_append, r2 x, cov_cons, Bool.eq_iff_iff]
        have hf := hfar x
        by_cases hf1 : f < h.1
        · rw [if_pos hf1]
          simp only [cov, List.any_cons, List.any_nil, Bool.or_false, Bool.or_eq_true, Bool.and_eq_true, decide_eq_true_eq, Bool.not_eq_true', Bool.or_eq_false_iff, decide_eq_false_iff_not]
          simp only [cov] at hf
          constructor
          · rintro (g | ⟨g1, g2⟩)
            · exact ⟨by omega, by omega, hf (by omega)⟩
            · exact ⟨by omega, by omega, g2⟩
          · rintro ⟨g1, g2, g3⟩
            by_cases hx : x < h.1
            · exact Or.inl (by omega)
            · exact Or.inr ⟨by omega, g3⟩
        · rw [if_neg hf1]
          simp only [cov, List.any_nil, Bool.false_or, Bool.and_eq_true, decide_eq_true_eq, Bool.not_eq_true', Bool.or_eq_false_iff, decide_eq_false_iff_not]
          constructor
          · rintro ⟨g1, g2⟩; exact ⟨by omega, by omega, g2⟩
          · rintro ⟨g1, g2, g3⟩; exact ⟨by omega, g3⟩
theorem mns_flat (ps hs : List (Int × Int)) : mns ps hs = ps.flatMap fun p => left p.2 hs p.1 := by
  have : ∀ (ps o : List (Int × Int)), ps.foldl (piece hs) o = o ++ ps.flatMap fun p => left p.2 hs p.1 := by
    intro ps
    induction ps with
    | nil => intro o; simp
    | cons p ps ih =>
      intro o
      rw [List.foldl_cons, ih]
      unfold piece
      rw [piece_left]
      simp [List.flatMap_cons]
  unfold mns
  simpa using this ps []
theorem mns_norm : ∀ (ps hs : List (Int × Int)), Norm ps → Norm hs → Norm (mns ps hs) ∧ ∀ x, cov (mns ps hs) x = (cov ps x && !cov hs x)
  | [], hs, _, _ => ⟨Norm.nil, fun x => rfl⟩
  | p :: ps, hs, hp, hh => by
    have hpw := List.pairwise_cons.1 hp.2
    have hp' : Norm ps := ⟨fun q hq => hp.1 q (List.mem_cons_of_mem _ hq), hpw.2⟩
    obtain ⟨r1, r2⟩ := mns_norm ps hs hp' hh
    obtain ⟨s1, s2⟩ := left_norm p.2 hs p.1 hh
    rw [mns_flat] at r1 r2 ⊢
    rw [List.flatMap_cons]
    refine ⟨⟨fun q hq => ?_, List.pairwise_append.2 ⟨s1.2, r1.2, fun a ha b hb => ?_⟩⟩, fun x => ?_⟩
    · rcases List.mem_append.1 hq with g | g
      · exact s1.1 q g
      · exact r1.1 q g
    · have h1 := left_in p.2 hs p.1 hh.1 a ha
      obtain ⟨q, hq, hb⟩ := List.mem_flatMap.1 hb
      have h2 := left_in q.2 hs q.1 hh.1 b hb
      have h3 := hpw.1 q hq
      omega
    · rw [cov_append, s2 x, r2 x, cov_cons]
      cases decide (p.1 ≤ x ∧ x < p.2) <;> cases cov ps x <;> cases cov hs x <;> rfl
end Go.Proofs.Ytpdboefaedocfaa.Tm
