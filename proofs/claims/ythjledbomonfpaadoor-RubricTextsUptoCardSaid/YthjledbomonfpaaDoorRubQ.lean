/- More plain facts on rubrics: what a valid rubric and fitting marks are, totals, distances, medians: no program in sight. No conditions. -/
import Derived.Test.YthjledbomonfpaaDoorRubP
namespace Go.Proofs.YthjledbomonfpaaDoor.Rub

theorem te_zero {e : List Trait} {t : Trait} (h : traitErr e t = 0) : 1 ≤ t.max ∧ t.max ≤ 10 ∧ 1 ≤ t.weight ∧ t.weight ≤ 10 := by
  unfold traitErr at h
  by_cases h1 : named t.name = false
  · rw [if_pos h1] at h; cases h
  · rw [if_neg h1] at h
    by_cases h2 : e.any (fun e => e.name.toList == t.name.toList) = true
    · rw [if_pos h2] at h; cases h
    · rw [if_neg h2] at h
      by_cases h3 : t.max < 1 ∨ 10 < t.max ∨ t.weight < 1 ∨ 10 < t.weight
      · rw [if_pos h3] at h; cases h
      · omega
theorem first_zero : ∀ {r e : List Trait}, firstErr e r = 0 → ∀ t ∈ r, 1 ≤ t.max ∧ t.max ≤ 10 ∧ 1 ≤ t.weight ∧ t.weight ≤ 10
  | [], _, _, t, ht => by cases ht
  | a :: r, e, h, t, ht => by
    rw [firstErr] at h
    by_cases h0 : traitErr e a = 0
    · rw [if_pos h0] at h
      rcases List.mem_cons.1 ht with rfl | ht
      · exact te_zero h0
      · exact first_zero h t ht
    · rw [if_neg h0] at h; exact absurd h h0
theorem valid_zero {id : Int} {ts : List Trait} (h : validE id ts = 0) : 1 ≤ ts.length ∧ ts.length ≤ 6 ∧ ∀ t ∈ ts, 1 ≤ t.max ∧ t.max ≤ 10 ∧ 1 ≤ t.weight ∧ t.weight ≤ 10 := by
  unfold validE at h
  by_cases h1 : id < 1 ∨ 9999999 < id
  · rw [if_pos h1] at h; cases h
  · rw [if_neg h1] at h
    by_cases h2 : 6 < ts.length
    · rw [if_pos h2] at h; cases h
    · rw [if_neg h2] at h
      by_cases h3 : ts.length = 0
      · rw [if_pos h3] at h; cases h
      · rw [if_neg h3] at h
        exact ⟨by omega, by omega, first_zero h⟩
theorem check_zero {id : Int} {ts : List Trait} {ms : List Int} (h : checkE id ts ms = 0) : validE id ts = 0 ∧ ms.length = ts.length ∧ marksOk ts ms = true := by
  unfold checkE at h
  by_cases h1 : validE id ts ≠ 0
  · rw [if_pos h1] at h; exact absurd h h1
  · rw [if_neg h1] at h
    by_cases h2 : ms.length ≠ ts.length
    · rw [if_pos h2] at h; cases h
    · rw [if_neg h2] at h
      by_cases h3 : marksOk ts ms = true
      · exact ⟨by simpa using h1, by simpa using h2, h3⟩
      · rw [if_neg h3] at h; cases h
theorem marks_at {ts : List Trait} {ms : List Int} {j : Nat} {t : Trait} {m : Int} (h : marksOk ts ms = true) (h1 : ts[j]? = some t) (h2 : ms[j]? = some m) : 0 ≤ m ∧ m ≤ t.max := by
  unfold marksOk at h
  rw [List.all_eq_true] at h
  have := h (t, m) (List.mem_of_getElem? (zip_at h1 h2))
  simpa using this

/-- The weighted total of marks with their traits. -/
def tot : List (Trait × Int) → Int
  | [] => 0
  | p :: r => p.2 * p.1.weight + tot r
theorem tot_snoc (l : List (Trait × Int)) (p : Trait × Int) : tot (l ++ [p]) = tot l + p.2 * p.1.weight := by
  induction l with
  | nil => simp [tot]
  | cons a l ih => simp only [List.cons_append, tot, ih]; omega
theorem take_snoc {α : Type} {l : List α} {k : Nat} {a : α} (h : l[k]? = some a) : l.take (k + 1) = l.take k ++ [a] := by
  have hk : k < l.length := by
    rcases Nat.lt_or_ge k l.length with g | g
    · exact g
    · rw [List.getElem?_eq_none g] at h; cases h
  rw [List.getElem?_eq_getElem hk] at h
  injection h with h
  subst h
  exact List.take_succ_eq_append_getElem hk
def totV (id : Int) (ts : List Trait) (ms : List Int) : Int := if checkE id ts ms = 0 then tot (ts.zip ms) else 0
theorem mark_weight {m x w : Int} (h1 : 0 ≤ m) (h2 : m ≤ x) (h3 : x ≤ 10) (h4 : 1 ≤ w) (h5 : w ≤ 10) : 0 ≤ m * w ∧ m * w ≤ 100 := by
  refine ⟨Int.mul_nonneg h1 (by omega), ?_⟩
  have := Int.mul_le_mul (show m ≤ 10 by omega) h5 (by omega) (by omega)
  omega

/-- The greatest total. -/
def most : List Trait → Int
  | [] => 0
  | t :: r => t.max * t.weight + most r
theorem most_snoc (l : List Trait) (t : Trait) : most (l ++ [t]) = most l + t.max * t.weight := by
  induction l with
  | nil => simp [most]
  | cons a l ih => simp only [List.cons_append, most, ih]; omega
def mostV (id : Int) (ts : List Trait) : Int := if validE id ts = 0 then most ts else 0

def checkAllE (id : Int) (ts : List Trait) : List (List Int) → Int
  | [] => 0
  | m :: r => if checkE id ts m = 0 then checkAllE id ts r else checkE id ts m
theorem all_step {id : Int} {ts : List Trait} {ls : List (List Int)} {k : Nat} {m : List Int} (h : ls[k]? = some m) : checkAllE id ts (ls.drop k) = if checkE id ts m = 0 then checkAllE id ts (ls.drop (k + 1)) else checkE id ts m := by
  have hk : k < ls.length := by
    rcases Nat.lt_or_ge k ls.length with g | g
    · exact g
    · rw [List.getElem?_eq_none g] at h; cases h
  rw [List.getElem?_eq_getElem hk] at h
  injection h with h
  subst h
  rw [List.drop_eq_getElem_cons hk, checkAllE]
theorem all_zero {id : Int} {ts : List Trait} : ∀ {ls : List (List Int)}, checkAllE id ts ls = 0 → ∀ m ∈ ls, checkE id ts m = 0
  | [], _, m, hm => by cases hm
  | a :: r, h, m, hm => by
    rw [checkAllE] at h
    by_cases h0 : checkE id ts a = 0
    · rw [if_pos h0] at h
      rcases List.mem_cons.1 hm with rfl | hm
      · exact h0
      · exact all_zero h m hm
    · rw [if_neg h0] at h; exact absurd h h0

/-- The greatest difference of two lists of marks. -/
def dist : List (Int × Int) → Int → Int
  | [], n => n
  | p :: r, n => dist r (max (max n (p.1 - p.2)) (p.2 - p.1))
theorem dist_snoc (l : List (Int × Int)) (p : Int × Int) (n : Int) : dist (l ++ [p]) n = max (max (dist l n) (p.1 - p.2)) (p.2 - p.1) := by
  induction l generalizing n with
  | nil => rfl
  | cons a l ih => simp only [List.cons_append, dist, ih]
theorem ite_max (n p : Int) : (if n < p then p else n) = max n p := by split <;> omega
theorem ite_min (n p : Int) : (if p < n then p else n) = min n p := by split <;> omega
theorem ite_max2 (n p q : Int) : (if (if n < p then p else n) < q then q else if n < p then p else n) = max (max n p) q := by rw [ite_max, ite_max]
def apartV (id : Int) (ts : List Trait) (a b : List Int) : Int := if checkAllE id ts [a, b] = 0 then dist (a.zip b) 0 else 0

/-- The middle one of three. -/
def mid (a b c : Int) : Int := max (min a b) (min (max a b) c)
def mids : List Int → List Int → List Int → List Int
  | a :: as, b :: bs, c :: cs => mid a b c :: mids as bs cs
  | _, _, _ => []
def medV (id : Int) (ts : List Trait) (a b c : List Int) : List Int := if checkAllE id ts [a, b, c] = 0 then mids a b c else []
theorem mids_length : ∀ (a b c : List Int), b.length = a.length → c.length = a.length → (mids a b c).length = a.length
  | [], _, _, _, _ => rfl
  | x :: a, y :: b, z :: c, h1, h2 => by
    simp only [mids, List.length_cons]
    rw [mids_length a b c (by simpa using h1) (by simpa using h2)]
  | x :: a, [], _, h1, _ => by simp at h1
  | x :: a, y :: b, [], _, h2 => by simp at h2
theorem mids_at : ∀ (a b c : List Int) (k : Nat) (x y z : Int), a[k]? = some x → b[k]? = some y → c[k]? = some z → (mids a b c)[k]? = some (mid x y z)
  | [], _, _, _, _, _, _, h, _, _ => by simp at h
  | _ :: _, [], _, _, _, _, _, _, h, _ => by simp at h
  | _ :: _, _ :: _, [], _, _, _, _, _, _, h => by simp at h
  | _ :: _, _ :: _, _ :: _, 0, _, _, _, h1, h2, h3 => by
    simp at h1 h2 h3
    subst h1 h2 h3
    rfl
  | _ :: a, _ :: b, _ :: c, k + 1, x, y, z, h1, h2, h3 => by
    simp only [mids, List.getElem?_cons_succ] at h1 h2 h3 ⊢
    exact mids_at a b c k x y z h1 h2 h3
end Go.Proofs.YthjledbomonfpaaDoor.Rub
