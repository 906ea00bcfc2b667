/- Rubrics as plain data, and what validity, marks, totals, distances and medians are: no program in sight. No conditions. -/
import Init.Data.List.Lemmas
import Init.Omega
namespace Go.Proofs.YthjledbomonfpaaDoor.Rub

structure Trait where
  name : ByteArray
  max : Int
  weight : Int
instance : Inhabited Trait := ⟨⟨ByteArray.empty, 0, 0⟩⟩

def low (c : UInt8) : Bool := decide (97 ≤ c.toNat ∧ c.toNat ≤ 122)
def named (s : ByteArray) : Bool := decide (1 ≤ s.size ∧ s.size ≤ 20) && s.data.toList.all low

theorem named_no {s : ByteArray} {k : Nat} (h : k < s.size) (hb : low s[k] = false) : named s = false := by
  unfold named
  rw [Bool.and_eq_false_iff]
  right
  rw [List.all_eq_false]
  refine ⟨s[k], ?_, by simp [hb]⟩
  show s.data[k] ∈ s.data.toList
  simp
theorem named_len {s : ByteArray} (h : ¬ (1 ≤ s.size ∧ s.size ≤ 20)) : named s = false := by
  unfold named; simp only [h, decide_false, Bool.false_and]
theorem named_yes {s : ByteArray} (h : 1 ≤ s.size) (h' : s.size ≤ 20) (hb : ∀ k (hk : k < s.size), low s[k] = true) : named s = true := by
  unfold named
  simp only [h, h', and_self, decide_true, Bool.true_and, List.all_eq_true]
  intro c hc
  obtain ⟨k, hk, rfl⟩ := List.mem_iff_getElem.1 hc
  have := hb k (by simpa using hk)
  exact this

def traitErr (earlier : List Trait) (t : Trait) : Int :=
  if named t.name = false then 2 else if earlier.any (fun e => e.name.toList == t.name.toList) = true then 7
  else if t.max < 1 ∨ 10 < t.max ∨ t.weight < 1 ∨ 10 < t.weight then 3 else 0
def firstErr : List Trait → List Trait → Int
  | _, [] => 0
  | e, t :: r => if traitErr e t = 0 then firstErr (e ++ [t]) r else traitErr e t

def validE (id : Int) (ts : List Trait) : Int :=
  if id < 1 ∨ 9999999 < id then 3 else if 6 < ts.length then 5 else if ts.length = 0 then 20 else firstErr [] ts

theorem first_step {ts : List Trait} {k : Nat} {t : Trait} (h : ts[k]? = some t) : firstErr (ts.take k) (ts.drop k) = if traitErr (ts.take k) t = 0 then firstErr (ts.take (k + 1)) (ts.drop (k + 1)) else traitErr (ts.take k) t := by
  have hk : k < ts.length := by
    rcases Nat.lt_or_ge k ts.length with g | g
    · exact g
    · rw [List.getElem?_eq_none g] at h; cases h
  rw [List.getElem?_eq_getElem hk] at h
  injection h with h
  subst h
  rw [List.drop_eq_getElem_cons hk, firstErr, List.take_succ_eq_append_getElem hk]

theorem any_no {ts : List Trait} {k : Nat} {n : List UInt8} (h : ∀ j, j < k → ∀ t', ts[j]? = some t' → (t'.name.toList == n) = false) : (ts.take k).any (fun e => e.name.toList == n) = false := by
  rw [List.any_eq_false]
  intro e he
  obtain ⟨j, hj, rfl⟩ := List.mem_iff_getElem.1 he
  have hj1 : j < k := by have := List.length_take_le k ts; omega
  have := h j hj1 _ (by rw [← List.getElem?_take_of_lt hj1]; exact List.getElem?_eq_getElem hj)
  exact Bool.not_eq_true _ ▸ this
theorem any_yes {ts : List Trait} {k j : Nat} {t' : Trait} {n : List UInt8} (hj : j < k) (ht : ts[j]? = some t') (h : (t'.name.toList == n) = true) : (ts.take k).any (fun e => e.name.toList == n) = true := by
  rw [List.any_eq_true]
  refine ⟨t', List.mem_of_getElem? (i := j) ?_, h⟩
  rw [List.getElem?_take_of_lt hj]; exact ht

theorem te_name {e : List Trait} {t : Trait} (h : named t.name = false) : traitErr e t = 2 := by unfold traitErr; rw [if_pos h]
theorem te_twice {e : List Trait} {t : Trait} (h : named t.name = true) (h2 : e.any (fun e => e.name.toList == t.name.toList) = true) : traitErr e t = 7 := by
  unfold traitErr; rw [if_neg (by simp [h]), if_pos h2]
theorem te_range {e : List Trait} {t : Trait} (h : named t.name = true) (h2 : e.any (fun e => e.name.toList == t.name.toList) = false) (h3 : t.max < 1 ∨ 10 < t.max ∨ t.weight < 1 ∨ 10 < t.weight) : traitErr e t = 3 := by
  unfold traitErr; rw [if_neg (by simp [h]), if_neg (by simp [h2]), if_pos h3]
theorem te_ok {e : List Trait} {t : Trait} (h : named t.name = true) (h2 : e.any (fun e => e.name.toList == t.name.toList) = false) (h3 : ¬ (t.max < 1 ∨ 10 < t.max ∨ t.weight < 1 ∨ 10 < t.weight)) : traitErr e t = 0 := by
  unfold traitErr; rw [if_neg (by simp [h]), if_neg (by simp [h2]), if_neg h3]
theorem first_bad {ts : List Trait} {k : Nat} {t : Trait} {n : Int} (h : ts[k]? = some t) (hn : traitErr (ts.take k) t = n) (h0 : n ≠ 0) : firstErr (ts.take k) (ts.drop k) = n := by
  rw [first_step h, hn, if_neg h0]
theorem first_good {ts : List Trait} {k : Nat} {t : Trait} (h : ts[k]? = some t) (hn : traitErr (ts.take k) t = 0) : firstErr (ts.take k) (ts.drop k) = firstErr (ts.take (k + 1)) (ts.drop (k + 1)) := by
  rw [first_step h, hn, if_pos rfl]
theorem first_end {ts : List Trait} {k : Nat} (h : ts.length ≤ k) : firstErr (ts.take k) (ts.drop k) = 0 := by
  rw [List.drop_eq_nil_of_le h, firstErr]

/-- Marks against traits. -/
def marksOk (ts : List Trait) (ms : List Int) : Bool := (ts.zip ms).all fun p => decide (0 ≤ p.2 ∧ p.2 ≤ p.1.max)
def checkE (id : Int) (ts : List Trait) (ms : List Int) : Int :=
  if validE id ts ≠ 0 then validE id ts else if ms.length ≠ ts.length then 1 else if marksOk ts ms = true then 0 else 3
theorem zip_at {ts : List Trait} {ms : List Int} {j : Nat} {t : Trait} {m : Int} (h1 : ts[j]? = some t) (h2 : ms[j]? = some m) : (ts.zip ms)[j]? = some (t, m) := by
  rw [List.getElem?_zip_eq_some]; exact ⟨h1, h2⟩
theorem marks_no {ts : List Trait} {ms : List Int} {j : Nat} {t : Trait} {m : Int} (h1 : ts[j]? = some t) (h2 : ms[j]? = some m) (h : m < 0 ∨ t.max < m) : marksOk ts ms = false := by
  unfold marksOk
  rw [List.all_eq_false]
  refine ⟨(t, m), List.mem_of_getElem? (zip_at h1 h2), ?_⟩
  simp
  omega
theorem marks_yes {ts : List Trait} {ms : List Int} (h : ∀ (j : Nat) (t : Trait) (m : Int), ts[j]? = some t → ms[j]? = some m → 0 ≤ m ∧ m ≤ t.max) : marksOk ts ms = true := by
  unfold marksOk
  rw [List.all_eq_true]
  rintro ⟨t, m⟩ hp
  obtain ⟨j, hj⟩ := List.mem_iff_getElem?.1 hp
  rw [List.getElem?_zip_eq_some] at hj
  simp
  exact h j t m hj.1 hj.2
theorem check_valid {id : Int} {ts : List Trait} {ms : List Int} (h : validE id ts ≠ 0) : checkE id ts ms = validE id ts := by unfold checkE; rw [if_pos h]
theorem check_len {id : Int} {ts : List Trait} {ms : List Int} (h : validE id ts = 0) (h2 : ms.length ≠ ts.length) : checkE id ts ms = 1 := by unfold checkE; rw [if_neg (by simp [h]), if_pos h2]
theorem check_ok {id : Int} {ts : List Trait} {ms : List Int} (h : validE id ts = 0) (h2 : ms.length = ts.length) (h3 : marksOk ts ms = true) : checkE id ts ms = 0 := by unfold checkE; rw [if_neg (by simp [h]), if_neg (by simp [h2]), if_pos h3]
theorem check_range {id : Int} {ts : List Trait} {ms : List Int} (h : validE id ts = 0) (h2 : ms.length = ts.length) (h3 : marksOk ts ms = false) : checkE id ts ms = 3 := by unfold checkE; rw [if_neg (by simp [h]), if_neg (by simp [h2]), if_neg (by simp [h3])]
end Go.Proofs.YthjledbomonfpaaDoor.Rub
