/- Intervals: a normal form is determined by what it covers; lengths count seconds; how many pieces. Plain. No conditions. -/
import Derived.Test.YtpdboefaedocfaaTmR
namespace Go.Proofs.Ytpdboefaedocfaa.Tm

theorem norm_cons {p : Int × Int} {L : List (Int × Int)} (h : Norm (p :: L)) : p.1 < p.2 ∧ Norm L ∧ ∀ q ∈ L, p.2 < q.1 := by
  have hpw := List.pairwise_cons.1 h.2
  exact ⟨h.1 p (by simp), ⟨fun q hq => h.1 q (List.mem_cons_of_mem _ hq), hpw.2⟩, hpw.1⟩
theorem cov_far {p : Int × Int} {L : List (Int × Int)} (h : ∀ q ∈ L, p.2 < q.1) {x : Int} (hx : x ≤ p.2) : cov L x = false := by
  cases hc : cov L x with
  | false => rfl
  | true =>
    obtain ⟨q, hq, hqx⟩ := cov_iff.1 hc
    have := h q hq
    omega
/-- Two normal forms that cover the same are one. -/
theorem norm_unique : ∀ (L M : List (Int × Int)), Norm L → Norm M → (∀ x, cov L x = cov M x) → L = M
  | [], [], _, _, _ => rfl
  | [], q :: M, _, hM, h => by
    obtain ⟨h1, -, -⟩ := norm_cons hM
    have := h q.1
    rw [cov_nil, cov_cons] at this
    have e : decide (q.1 ≤ q.1 ∧ q.1 < q.2) = true := by rw [decide_eq_true_iff]; omega
    rw [e] at this
    cases this
  | p :: L, [], hL, _, h => by
    obtain ⟨h1, -, -⟩ := norm_cons hL
    have := h p.1
    rw [cov_nil, cov_cons] at this
    have e : decide (p.1 ≤ p.1 ∧ p.1 < p.2) = true := by rw [decide_eq_true_iff]; omega
    rw [e] at this
    cases this
  | p :: L, q :: M, hL, hM, h => by
    obtain ⟨p1, nL, pL⟩ := norm_cons hL
    obtain ⟨q1, nM, qM⟩ := norm_cons hM
    have inL : ∀ x, cov (p :: L) x = true ↔ (p.1 ≤ x ∧ x < p.2) ∨ cov L x = true := fun x => by rw [cov_cons, Bool.or_eq_true, decide_eq_true_iff]
    have inM : ∀ x, cov (q :: M) x = true ↔ (q.1 ≤ x ∧ x < q.2) ∨ cov M x = true := fun x => by rw [cov_cons, Bool.or_eq_true, decide_eq_true_iff]
    have fL : ∀ x, cov L x = true → p.2 < x := fun x hx => by
      obtain ⟨r, hr, hrx⟩ := cov_iff.1 hx
      have := pL r hr
      omega
    have fM : ∀ x, cov M x = true → q.2 < x := fun x hx => by
      obtain ⟨r, hr, hrx⟩ := cov_iff.1 hx
      have := qM r hr
      omega
    have a1 : q.1 ≤ p.1 := by
      have := (inM p.1).1 (by rw [← h]; exact (inL p.1).2 (Or.inl (by omega)))
      rcases this with g | g
      · omega
      · have := fM _ g; omega
    have a2 : p.1 ≤ q.1 := by
      have := (inL q.1).1 (by rw [h]; exact (inM q.1).2 (Or.inl (by omega)))
      rcases this with g | g
      · omega
      · have := fL _ g; omega
    have b1 : q.2 ≤ p.2 := by
      rcases Int.lt_or_le p.2 q.2 with g | g
      · have := (inL p.2).1 (by rw [h]; exact (inM p.2).2 (Or.inl (by omega)))
        rcases this with g2 | g2
        · omega
        · have := fL _ g2; omega
      · exact g
    have b2 : p.2 ≤ q.2 := by
      rcases Int.lt_or_le q.2 p.2 with g | g
      · have := (inM q.2).1 (by rw [← h]; exact (inL q.2).2 (Or.inl (by omega)))
        rcases this with g2 | g2
        · omega
        · have := fM _ g2; omega
      · exact g
    have e : p = q := Prod.ext (by omega) (by omega)
    subst e
    rw [norm_unique L M nL nM (fun x => by
      rcases Int.lt_or_le p.2 x with g | g
      · have := h x
        rw [cov_cons, cov_cons] at this
        have e : decide (p.1 ≤ x ∧ x < p.2) = false := by rw [decide_eq_false_iff_not]; omega
        rw [e] at this
        simpa using this
      · rw [cov_far pL g, cov_far qM g])]

/-- How many seconds below N the intervals cover. -/
def mea (N : Nat) (L : List (Int × Int)) : Nat := (List.range N).countP fun x : Nat => cov L (x : Int)
theorem mea_one (N : Nat) (p : Int × Int) (h0 : 0 ≤ p.1) (h1 : p.1 ≤ p.2) : (((List.range N).countP fun x : Nat => decide (p.1 ≤ (x : Int) ∧ (x : Int) < p.2) : Nat) : Int) = max 0 (min p.2 N - p.1) := by
  induction N with
  | zero => simp; omega
  | succ N ih =>
    rw [List.range_succ, List.countP_append]
    rw [show (((List.range N).countP (fun x : Nat => decide (p.1 ≤ (x : Int) ∧ (x : Int) < p.2)) + List.countP (fun x : Nat => decide (p.1 ≤ (x : Int) ∧ (x : Int) < p.2)) [N] : Nat) : Int) = (((List.range N).countP fun x : Nat => decide (p.1 ≤ (x : Int) ∧ (x : Int) < p.2) : Nat) : Int) + ((List.countP (fun x : Nat => decide (p.1 ≤ (x : Int) ∧ (x : Int) < p.2)) [N] : Nat) : Int) from by omega, ih]
    by_cases hN : p.1 ≤ (N : Int) ∧ (N : Int) < p.2
    · simp [hN]; omega
    · simp [hN]; omega
theorem count_or {α : Type} (l : List α) (p q : α → Bool) (h : ∀ x, ¬ (p x = true ∧ q x = true)) : l.countP (fun x => p x || q x) = l.countP p + l.countP q := by
  induction l with
  | nil => rfl
  | cons a l ih =>
    rw [List.countP_cons, List.countP_cons, List.countP_cons, ih]
    have := h a
    cases hp : p a <;> cases hq : q a <;> simp_all <;> omega
theorem count_or_le {α : Type} (l : List α) (p q : α → Bool) : l.countP (fun x => p x || q x) ≤ l.countP p + l.countP q := by
  induction l with
  | nil => simp
  | cons a l ih =>
    rw [List.countP_cons, List.countP_cons, List.countP_cons]
    cases hp : p a <;> cases hq : q a <;> simp <;> omega
/-- The length of a normal form is how many seconds it covers. -/
theorem len_cons (p : Int × Int) (L : List (Int × Int)) : len (p :: L) = (p.2 - p.1) + len L := by
  have : ∀ (L : List (Int × Int)) (a : Int), L.foldl (fun n p => n + (p.2 - p.1)) a = a + L.foldl (fun n p => n + (p.2 - p.1)) 0 := by
    intro L
    induction L with
    | nil => intro a; simp
    | cons q L ih => intro a; rw [List.foldl_cons, List.foldl_cons, ih, ih (0 + _)]; omega
  unfold len
  rw [List.foldl_cons, this]
  omega
theorem len_mea (N : Nat) : ∀ L : List (Int × Int), Norm L → (∀ p ∈ L, 0 ≤ p.1 ∧ p.2 ≤ N) → len L = mea N L
  | [], _, _ => by simp [len, mea, cov]
  | p :: L, h, hb => by
    obtain ⟨h1, h2, h3⟩ := norm_cons h
    have hp := hb p (by simp)
    have ih := len_mea N L h2 (fun q hq => hb q (List.mem_cons_of_mem _ hq))
    rw [len_cons, ih]
    unfold mea
    have e : (List.range N).countP (fun x : Nat => cov (p :: L) (x : Int)) = (List.range N).countP (fun x : Nat => decide (p.1 ≤ (x : Int) ∧ (x : Int) < p.2)) + (List.range N).countP (fun x : Nat => cov L (x : Int)) := by
      rw [← count_or]
      · rfl
      · rintro x ⟨g1, g2⟩
        rw [decide_eq_true_iff] at g1
        rw [cov_far h3 (by omega)] at g2
        cases g2
    rw [e]
    have := mea_one N p hp.1 (by omega)
    omega
theorem mea_le (N : Nat) : ∀ L : List (Int × Int), (∀ p ∈ L, 0 ≤ p.1 ∧ p.1 ≤ p.2 ∧ p.2 ≤ N) → (mea N L : Int) ≤ len L
  | [], _ => by simp [len, mea, cov]
  | p :: L, hb => by
    have hp := hb p (by simp)
    have ih := mea_le N L (fun q hq => hb q (List.mem_cons_of_mem _ hq))
    rw [len_cons]
    unfold mea at *
    have e : ∀ l : List Nat, l.countP (fun x : Nat => cov (p :: L) (x : Int)) ≤ l.countP (fun x : Nat => decide (p.1 ≤ (x : Int) ∧ (x : Int) < p.2)) + l.countP (fun x : Nat => cov L (x : Int)) := by
      intro l
      exact count_or_le l (fun x : Nat => decide (p.1 ≤ (x : Int) ∧ (x : Int) < p.2)) (fun x : Nat => cov L (x : Int))
    have := e (List.range N)
    have := mea_one N p hp.1 hp.2.1
    omega
/-- The ends of the pieces are ends of intervals or beginnings of holes. -/
theorem left_ends (e : Int) : ∀ (hs : List (Int × Int)) (f : Int), ∀ d ∈ left e hs f, d.2 = e ∨ ∃ h ∈ hs, d.2 = h.1
  | [], f, d, hd => by
    rw [left] at hd
    split at hd
    · simp at hd; subst hd; exact Or.inl rfl
    · cases hd
  | h :: hs, f, d, hd => by
    rw [left] at hd
    split at hd
    · rcases left_ends e hs f d hd with g | ⟨q, hq, g⟩
      · exact Or.inl g
      · exact Or.inr ⟨q, List.mem_cons_of_mem _ hq, g⟩
    · rcases List.mem_append.1 hd with g | g
      · split at g
        · simp at g; subst g; exact Or.inr ⟨h, by simp, rfl⟩
        · cases g
      · rcases left_ends e hs h.2 d g with g | ⟨q, hq, g⟩
        · exact Or.inl g
        · exact Or.inr ⟨q, List.mem_cons_of_mem _ hq, g⟩
theorem len_sub {l m : List Int} (hl : l.Pairwise (· < ·)) (h : ∀ x ∈ l, x ∈ m) : l.length ≤ m.length := by
  induction l generalizing m with
  | nil => simp
  | cons a l ih =>
    have hpw := List.pairwise_cons.1 hl
    have ha : a ∈ m := h a (by simp)
    have h2 := ih (m := m.erase a) hpw.2 (fun x hx => by
      have hne : x ≠ a := by have := hpw.1 x hx; omega
      exact (List.mem_erase_of_ne hne).2 (h x (List.mem_cons_of_mem _ hx)))
    rw [List.length_erase_of_mem ha] at h2
    have : 0 < m.length := List.length_pos_of_mem ha
    simp only [List.length_cons]
    omega
theorem norm_ends {L : List (Int × Int)} (h : Norm L) : (L.map (·.2)).Pairwise (· < ·) := by
  rw [List.pairwise_map]
  refine h.2.imp_of_mem fun {a b} _ hb hab => ?_
  have := h.1 b hb
  omega
theorem mns_len {ps hs : List (Int × Int)} (hp : Norm ps) (hh : Norm hs) : (mns ps hs).length ≤ ps.length + hs.length := by
  have h1 := (mns_norm ps hs hp hh).1
  have := len_sub (l := (mns ps hs).map (·.2)) (m := ps.map (·.2) ++ hs.map (·.1)) (norm_ends h1) (fun x hx => by
    obtain ⟨d, hd, rfl⟩ := List.mem_map.1 hx
    rw [mns_flat] at hd
    obtain ⟨p, hp, hd⟩ := List.mem_flatMap.1 hd
    rcases left_ends p.2 hs p.1 d hd with g | ⟨q, hq, g⟩
    · exact List.mem_append_left _ (by rw [g]; exact List.mem_map_of_mem hp)
    · exact List.mem_append_right _ (by rw [g]; exact List.mem_map_of_mem hq))
  simpa using this
end Go.Proofs.Ytpdboefaedocfaa.Tm
