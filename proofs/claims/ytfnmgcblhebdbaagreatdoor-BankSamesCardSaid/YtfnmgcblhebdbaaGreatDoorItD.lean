/- Plain laws on the library's words: prefix, suffix, a double blank; texts cut at points; the reference's way to read a content code. No conditions. -/
import Derived.Test.YtfnmgcblhebdbaaGreatDoorItC
namespace Go.Proofs.YtfnmgcblhebdbaaGreatDoor
open Go.RowKit Go.Lib

namespace It
theorem by_iff (s : ByteArray) (i : Nat) : by_ s i = 32 ↔ s.data.toList[i]? = some 32 := by
  unfold by_
  rw [List.getD_eq_getElem?_getD]
  cases h : s.data.toList[i]? with
  | none => simp
  | some c =>
    simp only [Option.getD_some, Option.some.injEq]
    constructor
    · intro e
      have : c.toNat = 32 := by omega
      exact UInt8.toNat_inj.1 (by rw [this]; rfl)
    · intro e; subst e; rfl
theorem len_eq (s : ByteArray) : s.data.toList.length = s.size := rfl
theorem pre_blank (s : ByteArray) : Lib.hasPrefix s.data.toList [32] = (decide (0 < s.size) && decide (by_ s 0 = 32)) := by
  rw [Bool.eq_iff_iff]
  simp only [Bool.and_eq_true, decide_eq_true_eq, by_iff]
  rw [← len_eq]
  unfold Lib.hasPrefix
  generalize s.data.toList = l
  cases l with
  | nil => simp
  | cons a r => simp [List.isPrefixOf]; exact eq_comm
theorem suf_blank (s : ByteArray) : Lib.hasSuffix s.data.toList [32] = (decide (0 < s.size) && decide (by_ s (s.size - 1) = 32)) := by
  rw [Bool.eq_iff_iff]
  simp only [Bool.and_eq_true, decide_eq_true_eq, by_iff]
  rw [← len_eq]
  unfold Lib.hasSuffix
  generalize s.data.toList = l
  rw [List.isSuffixOf_iff_suffix]
  constructor
  · rintro ⟨t, rfl⟩
    simp
  · rintro ⟨h0, h1⟩
    have hne : l ≠ [] := List.length_pos_iff.1 h0
    refine ⟨l.dropLast, ?_⟩
    have e := List.dropLast_concat_getLast hne
    have h2 : l.getLast hne = 32 := by
      rw [List.getLast_eq_getElem]
      rw [List.getElem?_eq_getElem (by omega)] at h1
      exact Option.some.inj h1
    rw [h2] at e
    exact e
theorem occ_two (l : List UInt8) (i : Nat) : Lib.occAt l [32, 32] i = true ↔ l[i]? = some 32 ∧ l[i + 1]? = some 32 := by
  constructor
  · intro h
    exact ⟨Lib.occAt_head rfl h, Lib.occAt_second rfl h⟩
  · rintro ⟨h1, h2⟩
    obtain ⟨a1, e1⟩ := List.getElem?_eq_some_iff.1 h1
    obtain ⟨a2, e2⟩ := List.getElem?_eq_some_iff.1 h2
    unfold Lib.occAt
    rw [List.drop_eq_getElem_cons a1, List.drop_eq_getElem_cons a2, e1, e2]
    simp [List.isPrefixOf]
theorem two_blanks (s : ByteArray) : Lib.contains s.data.toList [32, 32] = !allN (fun i => !(decide (i + 1 < s.size) && decide (by_ s i = 32) && decide (by_ s (i + 1) = 32))) s.size := by
  rw [Bool.eq_iff_iff]
  unfold Lib.contains
  rw [decide_eq_true_eq, Bool.not_eq_true', ← Bool.not_eq_true, allN_iff]
  rcases Lib.index_spec s.data.toList [32, 32] with ⟨h1, h2⟩ | ⟨i, h1, h2, h3, _⟩
  · rw [h1]
    constructor
    · intro h; exact absurd h (by decide)
    · intro h
      exact absurd (fun i hi => by
        have h3 := h2 i (by rw [len_eq]; omega)
        have h4 : ¬ (s.data.toList[i]? = some 32 ∧ s.data.toList[i + 1]? = some 32) := fun g => by
          rw [(occ_two _ _).2 g] at h3; cases h3
        rw [← by_iff, ← by_iff] at h4
        simp only [Bool.not_eq_true', Bool.and_eq_false_iff, decide_eq_false_iff_not]
        by_cases g : by_ s i = 32
        · exact Or.inr (fun g2 => h4 ⟨g, g2⟩)
        · exact Or.inl (Or.inr g)) h
  · constructor
    · intro _ h
      obtain ⟨g1, g2⟩ := (occ_two _ _).1 h3
      obtain ⟨a2, _⟩ := List.getElem?_eq_some_iff.1 g2
      rw [len_eq] at a2
      rw [← by_iff] at g1 g2
      have := h i (by omega)
      rw [g1, g2, decide_eq_true a2] at this
      simp at this
    · intro _; omega
/-- The code's last test of a normalized text. -/
theorem nrmC_eq (s : ByteArray) : nrmC s = (allN (fun i => ltr (by_ s i) || decide (by_ s i = 32)) s.size && !Lib.hasPrefix s.data.toList [32] && !Lib.hasSuffix s.data.toList [32] && !Lib.contains s.data.toList [32, 32]) := by
  unfold nrmC
  rw [pre_blank, suf_blank, two_blanks, Bool.not_not]

/-- A text cut at its points. -/
def cuts : List UInt8 → List (List UInt8)
  | [] => [[]]
  | c :: l => if c = 46 then [] :: cuts l else (c :: (cuts l).headD []) :: (cuts l).tail
theorem cuts_ne (l : List UInt8) : cuts l ≠ [] := by cases l <;> simp [cuts]; split <;> simp
def ofL (l : List UInt8) : ByteArray := ⟨l.toArray⟩
theorem ofL_list (l : List UInt8) : (ofL l).data.toList = l := rfl
theorem ofL_size (l : List UInt8) : (ofL l).size = l.length := rfl
theorem cut_no {l : List UInt8} (h : (Lib.cut l [46]).2.2 = false) : cuts l = [l] ∧ (Lib.cut l [46]).1 = l := by
  have hix : Lib.index l [46] = -1 := by
    unfold Lib.cut at h
    have := Lib.index_ge l [46]
    by_cases g : 0 ≤ Lib.index l [46]
    · rw [if_pos g] at h; cases h
    · omega
  refine ⟨?_, by unfold Lib.cut; rw [hix, if_neg (by decide)]⟩
  clear h
  induction l with
  | nil => rfl
  | cons b l ih =>
    rw [Lib.index] at hix
    by_cases hb : b = 46
    · subst hb; simp [List.isPrefixOf] at hix
    · have hp : ([46] : List UInt8).isPrefixOf (b :: l) = false := by simp [List.isPrefixOf, Ne.symm hb]
      rw [hp] at hix
      have : Lib.index l [46] = -1 := by
        have := Lib.index_ge l [46]
        by_cases g : Lib.index l [46] = -1
        · exact g
        · simp [g] at hix; omega
      rw [cuts, if_neg hb, ih this]
      rfl
theorem cut_yes {l : List UInt8} (h : (Lib.cut l [46]).2.2 = true) : cuts l = (Lib.cut l [46]).1 :: cuts (Lib.cut l [46]).2.1 := by
  induction l with
  | nil => revert h; decide
  | cons b l ih =>
    by_cases hb : b = 46
    · subst hb
      have hix : Lib.index (46 :: l) [46] = 0 := by rw [Lib.index]; simp [List.isPrefixOf]
      have e : Lib.cut (46 :: l) [46] = ([], l, true) := by unfold Lib.cut; rw [hix]; simp
      rw [e, cuts, if_pos rfl]
    · have hp : ([46] : List UInt8).isPrefixOf (b :: l) = false := by simp [List.isPrefixOf, Ne.symm hb]
      have hix : Lib.index (b :: l) [46] = if Lib.index l [46] == -1 then -1 else Lib.index l [46] + 1 := by rw [Lib.index, hp]; simp
      have hge := Lib.index_ge l [46]
      have hm : Lib.index l [46] ≠ -1 := fun g => by
        unfold Lib.cut at h
        rw [hix, g] at h
        simp at h
      obtain ⟨i, hi⟩ : ∃ i : Nat, Lib.index l [46] = i := ⟨(Lib.index l [46]).toNat, by omega⟩
      have h2 : Lib.index (b :: l) [46] = ((i + 1 : Nat) : Int) := by rw [hix, hi, if_neg (by rw [beq_iff_eq]; omega)]; omega
      have e1 : Lib.cut l [46] = (l.take i, l.drop (i + 1), true) := by unfold Lib.cut; rw [hi, if_pos (by omega)]; rfl
      have e2 : Lib.cut (b :: l) [46] = (b :: l.take i, l.drop (i + 1), true) := by unfold Lib.cut; rw [h2, if_pos (by omega)]; simp
      have := ih (by rw [e1])
      rw [e1] at this
      rw [e2, cuts, if_neg hb, this]
      rfl
/-- A segment as a list of bytes. -/
def segL (l : List UInt8) : Bool := seg (ofL l)
def capB (c : UInt8) : Bool := cap (c.toNat : Int)
theorem segL_eq (l : List UInt8) : segL l = (decide (1 ≤ l.length) && decide (l.length ≤ 8) && l.all capB) := by
  unfold segL seg
  rw [ofL_size]
  congr 1
  rw [Bool.eq_iff_iff, allN_iff, List.all_eq_true]
  constructor
  · intro h c hc
    obtain ⟨i, hi, rfl⟩ := List.mem_iff_getElem.1 hc
    have := h i hi
    unfold by_ at this
    rw [ofL_list, List.getD_eq_getElem?_getD, List.getElem?_eq_getElem hi] at this
    exact this
  · intro h i hi
    unfold by_
    rw [ofL_list, List.getD_eq_getElem?_getD, List.getElem?_eq_getElem hi]
    exact h _ (List.getElem_mem hi)
/-- A content code as the content package reads it. -/
def codeC (s : ByteArray) : Bool := decide (s.size ≤ 24) && (decide ((cuts s.data.toList).length ≤ 5) && (cuts s.data.toList).all segL)
/-- The reference's reader: so many segments are begun, the last one holds so many bytes. -/
def run : List UInt8 → Nat → Nat → Bool
  | [], sg, sz => decide (0 < sz) && decide (sg ≤ 5)
  | c :: l, sg, sz => if c = 46 then (if sz = 0 then false else run l (sg + 1) 0) else if capB c = false then false else if 8 < sz + 1 then false else run l sg (sz + 1)
theorem run_iff : ∀ (l : List UInt8) (sg sz : Nat), sz ≤ 8 →
    (run l sg sz = true ↔ (1 ≤ sz + ((cuts l).headD []).length ∧ sz + ((cuts l).headD []).length ≤ 8) ∧ ((cuts l).headD []).all capB = true ∧ (cuts l).tail.all segL = true ∧ sg + (cuts l).tail.length ≤ 5)
  | [], sg, sz, h => by
    have e1 : (cuts []).headD [] = [] := rfl
    have e2 : (cuts []).tail = [] := rfl
    rw [e1, e2]
    simp [run]
    omega
  | c :: l, sg, sz, h => by
    by_cases hc : c = 46
    · have e1 : (cuts (c :: l)).headD [] = [] := by rw [cuts, if_pos hc]; rfl
      have e2 : (cuts (c :: l)).tail = cuts l := by rw [cuts, if_pos hc]; rfl
      rw [e1, e2, run, if_pos hc]
      by_cases h0 : sz = 0
      · rw [if_pos h0]
        constructor
        · intro g; cases g
        · rintro ⟨⟨g, _⟩, _⟩; simp at g; omega
      · rw [if_neg h0, run_iff l (sg + 1) 0 (by omega)]
        obtain ⟨a, r, e⟩ : ∃ a r, cuts l = a :: r := by
          cases hl : cuts l with
          | nil => exact absurd hl (cuts_ne l)
          | cons a r => exact ⟨a, r, rfl⟩
        rw [e]
        simp only [List.headD_cons, List.tail_cons, List.all_cons, List.length_cons, List.length_nil, Nat.zero_add, segL_eq, Bool.and_eq_true, decide_eq_true_eq, List.all_nil]
        constructor
        · rintro ⟨⟨g1, g2⟩, g3, g4, g5⟩; exact ⟨⟨by omega, by omega⟩, trivial, ⟨⟨⟨g1, g2⟩, g3⟩, g4⟩, by omega⟩
        · rintro ⟨_, _, ⟨⟨⟨g1, g2⟩, g3⟩, g4⟩, g5⟩; exact ⟨⟨g1, g2⟩, g3, g4, by omega⟩
    · have e1 : (cuts (c :: l)).headD [] = c :: (cuts l).headD [] := by rw [cuts, if_neg hc]; rfl
      have e2 : (cuts (c :: l)).tail = (cuts l).tail := by rw [cuts, if_neg hc]; rfl
      rw [e1, e2, run, if_neg hc]
      cases hcap : capB c with
      | false => simp [hcap]
      | true =>
        rw [if_neg (by simp)]
        by_cases h8 : 8 < sz + 1
        · rw [if_pos h8]
          constructor
          · intro g; cases g
          · rintro ⟨⟨_, g⟩, _⟩; simp at g; omega
        · rw [if_neg h8, run_iff l sg (sz + 1) (by omega)]
          simp only [List.length_cons, List.all_cons, hcap, Bool.true_and]
          rw [show sz + 1 + ((cuts l).headD []).length = sz + (((cuts l).headD []).length + 1) by omega]
theorem code_eq (s : ByteArray) : codeC s = (decide (s.size ≤ 24) && run s.data.toList 1 0) := by
  unfold codeC
  rw [Bool.eq_iff_iff]
  rw [Bool.and_eq_true, Bool.and_eq_true, Bool.and_eq_true, run_iff _ _ _ (by omega)]
  obtain ⟨a, r, e⟩ : ∃ a r, cuts s.data.toList = a :: r := by
    cases hl : cuts s.data.toList with
    | nil => exact absurd hl (cuts_ne _)
    | cons a r => exact ⟨a, r, rfl⟩
  rw [e]
  simp only [List.headD_cons, List.tail_cons, List.all_cons, List.length_cons, Nat.zero_add, segL_eq, Bool.and_eq_true, decide_eq_true_eq]
  constructor
  · rintro ⟨h, g5, ⟨⟨⟨g1, g2⟩, g3⟩, g4⟩⟩; exact ⟨h, ⟨g1, g2⟩, g3, g4, by omega⟩
  · rintro ⟨h, ⟨g1, g2⟩, g3, g4, g5⟩; exact ⟨h, by omega, ⟨⟨g1, g2⟩, g3⟩, g4⟩
/-- Printable texts with line feeds: those whose line feeds made blanks are printable. -/
theorem prn_feed (s : ByteArray) (most : Nat) : prn (feed s) most false = prn s most true := by
  have hsz : (feed s).size = s.size := by
    show (s.data.toList.map _).toArray.size = s.data.toList.length
    simp
  unfold prn
  rw [hsz]
  congr 1
  refine allN_congr fun i hi => ?_
  have hi' : i < s.data.toList.length := hi
  have e1 : by_ (feed s) i = if by_ s i = 10 then 32 else by_ s i := by
    unfold by_ feed
    rw [List.getD_eq_getElem?_getD, List.getD_eq_getElem?_getD, List.getElem?_map, List.getElem?_eq_getElem hi']
    simp only [Option.map_some, Option.getD_some]
    by_cases h : s.data.toList[i] = 10
    · rw [if_pos h, h]; rfl
    · rw [if_neg h, if_neg (fun e => h (UInt8.toNat_inj.1 (by have : (s.data.toList[i]).toNat = 10 := by omega
                                                              rw [this]; rfl)))]
  rw [e1]
  unfold okc
  by_cases h : by_ s i = 10
  · rw [if_pos h, h]; rfl
  · rw [if_neg h, decide_eq_false h]; simp
end It
end Go.Proofs.YtfnmgcblhebdbaaGreatDoor
