/- Plain laws of medians, totals and distances: no program in sight. No conditions. -/
import Derived.Test.YthjledbomonfpaaRubQ
namespace Go.Proofs.Ythjledbomonfpaa.Rub

theorem mids_rot : ∀ a b d : List Int, mids d a b = mids a b d
  | [], b, d => by cases d <;> simp [mids]
  | x :: a, [], d => by cases d <;> simp [mids]
  | x :: a, y :: b, [] => by simp [mids]
  | x :: a, y :: b, z :: d => by
    simp only [mids, mids_rot a b d]
    congr 1
    unfold mid
    omega
theorem mids_swap : ∀ a b d : List Int, mids b a d = mids a b d
  | [], b, d => by cases b <;> simp [mids]
  | x :: a, [], d => by simp [mids]
  | x :: a, y :: b, [] => by simp [mids]
  | x :: a, y :: b, z :: d => by
    simp only [mids, mids_swap a b d]
    congr 1
    unfold mid
    omega
theorem mids_same : ∀ a d : List Int, d.length = a.length → mids a d a = a
  | [], d, _ => by simp [mids]
  | x :: a, [], h => by simp at h
  | x :: a, z :: d, h => by
    simp only [mids, mids_same a d (by simpa using h)]
    congr 1
    unfold mid
    omega

/-- Better marks never give a lower total. -/
theorem tot_mono : ∀ (ts : List Trait) (a b : List Int), a.length = ts.length → b.length = ts.length → (∀ t ∈ ts, 0 ≤ t.weight) → (∀ (j : Nat) (x y : Int), a[j]? = some x → b[j]? = some y → x ≤ y) → tot (ts.zip a) ≤ tot (ts.zip b)
  | [], a, b, _, _, _, _ => by simp [tot]
  | t :: ts, [], b, h, _, _, _ => by simp at h
  | t :: ts, x :: a, [], _, h, _, _ => by simp at h
  | t :: ts, x :: a, y :: b, h1, h2, hw, hle => by
    simp only [List.zip_cons_cons, tot]
    have ih := tot_mono ts a b (by simpa using h1) (by simpa using h2) (fun t ht => hw t (List.mem_cons_of_mem _ ht)) (fun j x y hx hy => hle (j + 1) x y (by simpa using hx) (by simpa using hy))
    have hxy : x ≤ y := hle 0 x y rfl rfl
    have := Int.mul_le_mul_of_nonneg_right hxy (hw t List.mem_cons_self)
    omega
theorem tot_most : ∀ (ts : List Trait) (a : List Int), a.length = ts.length → (∀ t ∈ ts, 0 ≤ t.weight) → (∀ (j : Nat) (t : Trait) (x : Int), ts[j]? = some t → a[j]? = some x → 0 ≤ x ∧ x ≤ t.max) → 0 ≤ tot (ts.zip a) ∧ tot (ts.zip a) ≤ most ts
  | [], a, _, _, _ => by simp [tot, most]
  | t :: ts, [], h, _, _ => by simp at h
  | t :: ts, x :: a, h1, hw, hle => by
    simp only [List.zip_cons_cons, tot, most]
    have ih := tot_most ts a (by simpa using h1) (fun t ht => hw t (List.mem_cons_of_mem _ ht)) (fun j t x hx hy => hle (j + 1) t x (by simpa using hx) (by simpa using hy))
    have hx := hle 0 t x rfl rfl
    have h2 := Int.mul_le_mul_of_nonneg_right hx.2 (hw t List.mem_cons_self)
    have h3 := Int.mul_nonneg hx.1 (hw t List.mem_cons_self)
    omega
theorem most_ge : ∀ ts : List Trait, (∀ t ∈ ts, 1 ≤ t.max ∧ t.max ≤ 10 ∧ 1 ≤ t.weight ∧ t.weight ≤ 10) → (ts.length : Int) ≤ most ts ∧ most ts ≤ 100 * ts.length
  | [], _ => by simp [most]
  | t :: ts, h => by
    have ih := most_ge ts (fun t ht => h t (List.mem_cons_of_mem _ ht))
    have ht := h t List.mem_cons_self
    have h1 := mark_weight (m := t.max) (x := t.max) (w := t.weight) (by omega) (Int.le_refl _) ht.2.1 ht.2.2.1 ht.2.2.2
    have h2 : 1 * 1 ≤ t.max * t.weight := Int.mul_le_mul ht.1 ht.2.2.1 (by omega) (by omega)
    simp only [most, List.length_cons]
    omega

/-- Distance as a bound: it is at most n exactly if every difference is. -/
theorem dist_le_iff : ∀ (l : List (Int × Int)) (m n : Int), dist l m ≤ n ↔ m ≤ n ∧ ∀ p ∈ l, p.1 - p.2 ≤ n ∧ p.2 - p.1 ≤ n
  | [], m, n => by simp [dist]
  | p :: l, m, n => by
    rw [dist, dist_le_iff l]
    constructor
    · rintro ⟨h1, h2⟩
      refine ⟨by omega, fun q hq => ?_⟩
      rcases List.mem_cons.1 hq with rfl | hq
      · omega
      · exact h2 q hq
    · rintro ⟨h1, h2⟩
      have := h2 p List.mem_cons_self
      exact ⟨by omega, fun q hq => h2 q (List.mem_cons_of_mem _ hq)⟩
theorem dist_nonneg (l : List (Int × Int)) : 0 ≤ dist l 0 := ((dist_le_iff l 0 (dist l 0)).1 (Int.le_refl _)).1
theorem dist_comm (a b : List Int) : dist (a.zip b) 0 = dist (b.zip a) 0 := by
  have key : ∀ a b : List Int, dist (a.zip b) 0 ≤ dist (b.zip a) 0 := fun a b => by
    rw [dist_le_iff]
    refine ⟨dist_nonneg _, fun p hp => ?_⟩
    obtain ⟨j, hj⟩ := List.mem_iff_getElem?.1 hp
    rw [List.getElem?_zip_eq_some] at hj
    have := ((dist_le_iff (b.zip a) 0 _).1 (Int.le_refl _)).2 (p.2, p.1) (List.mem_of_getElem? (i := j) (by rw [List.getElem?_zip_eq_some]; exact ⟨hj.2, hj.1⟩))
    omega
  exact Int.le_antisymm (key a b) (key b a)
theorem dist_zero_iff (a b : List Int) (h : a.length = b.length) : dist (a.zip b) 0 = 0 ↔ a = b := by
  constructor
  · intro h0
    apply List.ext_getElem?
    intro j
    rcases Nat.lt_or_ge j a.length with g | g
    · have ea := List.getElem?_eq_getElem g
      have eb := List.getElem?_eq_getElem (l := b) (i := j) (by omega)
      have := ((dist_le_iff (a.zip b) 0 0).1 (by omega)).2 (a[j], b[j]) (List.mem_of_getElem? (i := j) (by rw [List.getElem?_zip_eq_some]; exact ⟨ea, eb⟩))
      simp only at this
      rw [ea, eb, show a[j] = b[j] by omega]
    · rw [List.getElem?_eq_none g, List.getElem?_eq_none (by omega)]
  · rintro rfl
    refine Int.le_antisymm ?_ (dist_nonneg _)
    rw [dist_le_iff]
    refine ⟨Int.le_refl _, fun p hp => ?_⟩
    obtain ⟨j, hj⟩ := List.mem_iff_getElem?.1 hp
    rw [List.getElem?_zip_eq_some] at hj
    have : p.1 = p.2 := by
      have := hj.1.symm.trans hj.2
      injection this
    omega
theorem dist_triangle (a b d : List Int) (h1 : b.length = a.length) (_h2 : d.length = a.length) : dist (a.zip d) 0 ≤ dist (a.zip b) 0 + dist (b.zip d) 0 := by
  rw [dist_le_iff]
  have n1 := dist_nonneg (a.zip b)
  have n2 := dist_nonneg (b.zip d)
  refine ⟨by omega, fun p hp => ?_⟩
  obtain ⟨j, hj⟩ := List.mem_iff_getElem?.1 hp
  rw [List.getElem?_zip_eq_some] at hj
  have hja : j < a.length := by
    rcases Nat.lt_or_ge j a.length with g | g
    · exact g
    · rw [List.getElem?_eq_none g] at hj; cases hj.1
  have eb := List.getElem?_eq_getElem (l := b) (i := j) (by omega)
  have k1 := ((dist_le_iff (a.zip b) 0 _).1 (Int.le_refl _)).2 (p.1, b[j]) (List.mem_of_getElem? (i := j) (by rw [List.getElem?_zip_eq_some]; exact ⟨hj.1, eb⟩))
  have k2 := ((dist_le_iff (b.zip d) 0 _).1 (Int.le_refl _)).2 (b[j], p.2) (List.mem_of_getElem? (i := j) (by rw [List.getElem?_zip_eq_some]; exact ⟨eb, hj.2⟩))
  simp only at k1 k2
  omega
theorem dist_le10 (a b : List Int) (ha : ∀ x ∈ a, 0 ≤ x ∧ x ≤ 10) (hb : ∀ x ∈ b, 0 ≤ x ∧ x ≤ 10) : dist (a.zip b) 0 ≤ 10 := by
  rw [dist_le_iff]
  refine ⟨by omega, fun p hp => ?_⟩
  have h1 := ha p.1 (List.of_mem_zip (a := p.1) (b := p.2) hp).1
  have h2 := hb p.2 (List.of_mem_zip (a := p.1) (b := p.2) hp).2
  omega
theorem max3 (x y z : Int) : (if (if x < y then y else x) < z then z else if x < y then y else x) = max (max x y) z := ite_max2 x y z
theorem min3 (x y z : Int) : (if z < (if y < x then y else x) then z else if y < x then y else x) = min (min x y) z := by rw [ite_min, ite_min]
end Go.Proofs.Ythjledbomonfpaa.Rub
