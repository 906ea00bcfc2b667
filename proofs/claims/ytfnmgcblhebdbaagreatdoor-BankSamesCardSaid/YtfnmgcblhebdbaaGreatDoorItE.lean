/- Equality of lists, add, the reference's Diff, the law's sameNames and contains: contracts. Conditions: those of each theorem. -/
import Derived.Test.YtfnmgcblhebdbaaGreatDoorItB
namespace Go.Proofs.YtfnmgcblhebdbaaGreatDoor
open Go.RowKit

namespace It
def eqI (xs ys : List Int) : Bool := decide (xs = ys)
def eqS (xs ys : List ByteArray) : Bool := decide (xs = ys)
def eqB (a b : ByteArray) : Bool := decide (a = b)
theorem neqB (a b : ByteArray) : (a.toList != b.toList) = !eqB a b := by
  unfold eqB
  by_cases h : a = b
  · subst h; simp
  · have : ¬ (a.toList = b.toList) := fun e => h (by
      rw [ByteArray.toList_eq, ByteArray.toList_eq] at e
      cases a; cases b; simp at e; rw [e])
    simp [h, this]
theorem beqB (a b : ByteArray) : (a.toList == b.toList) = eqB a b := by
  have := neqB a b
  rw [bne] at this
  cases h : (a.toList == b.toList) <;> cases g : eqB a b <;> simp_all
theorem eq_at {α : Type} {xs ys : List α} (hl : xs.length = ys.length) (h : ∀ i, i < xs.length → xs[i]? = ys[i]?) : xs = ys := by
  apply List.ext_getElem?
  intro i
  by_cases hi : i < xs.length
  · exact h i hi
  · rw [List.getElem?_eq_none (by omega), List.getElem?_eq_none (by omega)]
def addL (xs : List ByteArray) (d : Bool) (name : ByteArray) : List ByteArray := if d then xs ++ [name] else xs
def foldN (ps : List (Bool × ByteArray)) : List ByteArray := ps.foldl (fun xs p => addL xs p.1 p.2) []
theorem foldN_snoc {ps : List (Bool × ByteArray)} {k : Nat} {p : Bool × ByteArray} (h : ps[k]? = some p) : foldN (ps.take (k + 1)) = addL (foldN (ps.take k)) p.1 p.2 := by
  unfold foldN; rw [List.take_add_one, h, List.foldl_append]; rfl
theorem addL_len (xs : List ByteArray) (d : Bool) (name : ByteArray) : (addL xs d name).length ≤ xs.length + 1 := by unfold addL; split <;> simp
theorem addL_no (xs : List ByteArray) (name : ByteArray) : addL xs false name = xs := rfl
theorem addL_yes (xs : List ByteArray) (name : ByteArray) : addL xs true name = xs ++ [name] := rfl
/-- The fields' names, each with whether two items differ there. -/
def pairs (a b : Item) : List (Bool × ByteArray) := [(a.id != b.id, ⟨#[73, 100]⟩), (a.ver != b.ver, ⟨#[86, 101, 114, 115, 105, 111, 110]⟩), (a.kind != b.kind, ⟨#[75, 105, 110, 100]⟩), (!eqB a.stem b.stem, ⟨#[83, 116, 101, 109]⟩), (!eqS a.opts b.opts, ⟨#[79, 112, 116, 105, 111, 110, 115]⟩), (!eqI a.chs b.chs, ⟨#[67, 104, 111, 105, 99, 101, 115]⟩), (a.value != b.value, ⟨#[86, 97, 108, 117, 101]⟩), (a.tol != b.tol, ⟨#[84, 111, 108]⟩), (!eqS a.texts b.texts, ⟨#[84, 101, 120, 116, 115]⟩), (a.pts != b.pts, ⟨#[80, 111, 105, 110, 116, 115]⟩), (!eqB a.cont b.cont, ⟨#[67, 111, 110, 116, 101, 110, 116]⟩), (a.fam != b.fam, ⟨#[70, 97, 109, 105, 108, 121]⟩), (a.set_ != b.set_, ⟨#[83, 101, 116]⟩), (a.wrd != b.wrd, ⟨#[87, 111, 114, 100, 115]⟩), (a.sec != b.sec, ⟨#[83, 101, 99, 111, 110, 100, 115]⟩), (!eqI a.assets b.assets, ⟨#[65, 115, 115, 101, 116, 115]⟩), (a.rub != b.rub, ⟨#[82, 117, 98, 114, 105, 99]⟩)]
/-- The names of the fields in which two items differ. -/
def diff (a b : Item) : List ByteArray := foldN (pairs a b)
theorem foldN_le : ∀ (ps : List (Bool × ByteArray)), (foldN ps).length ≤ ps.length := by
  intro ps
  suffices h : ∀ (ps : List (Bool × ByteArray)) (xs : List ByteArray), (ps.foldl (fun xs p => addL xs p.1 p.2) xs).length ≤ xs.length + ps.length by have := h ps []; simpa [foldN] using this
  intro ps
  induction ps with
  | nil => intro xs; simp
  | cons p ps ih => intro xs; rw [List.foldl_cons]; have := ih (addL xs p.1 p.2); have := addL_len xs p.1 p.2; simp only [List.length_cons]; omega
theorem diff_le (a b : Item) : (diff a b).length ≤ 17 := foldN_le (pairs a b)
end It
theorem hne_of (a b : ByteArray) (h : a ≠ b) : (a.toList != b.toList) = true := by rw [It.neqB]; simp [It.eqB, h]
theorem hbeq_of (a b : ByteArray) (h : a ≠ b) : (a.toList == b.toList) = false := by rw [It.beqB]; simp [It.eqB, h]
theorem heq_of (a b : ByteArray) (h : a = b) : (a.toList != b.toList) = false := by rw [It.neqB]; simp [It.eqB, h]


theorem Tryz.infoStr : (Tryz.prog.info? 9).map (fun i => (i.zero, i.size, i.bytes)) = some (some (.string ⟨#[]⟩), 1, 16) := by kernel_rfl
/-- A row of names that the call owns. -/
def RowS (base : Nat) (xs : List ByteArray) (w : World) (v : Value) : Prop := w.ownsRow base 9 1 v xs.length (xs.map Value.string)
theorem RowS.sl {base : Nat} {xs : List ByteArray} {w : World} {v : Value} (h : RowS base xs w v) : ∃ A c, v = .slice A xs.length c ∧ xs.length ≤ c ∧ c ≤ maxLen ∧ SlS w A xs := by
  have h' : w.ownsRow base 9 1 v xs.length (xs.map fun s => [Value.string s]).flatten := by
    have e : (xs.map fun s => [Value.string s]).flatten = xs.map Value.string := by clear h; induction xs with | nil => rfl | cons x xs ih => simp only [List.map_cons, List.flatten_cons, ih]; rfl
    rw [e]; exact h
  obtain ⟨A, c, h1, h2, h3, h4⟩ := Sl.of_own (xs := xs.map fun s => [Value.string s]) (fun c hc => by obtain ⟨s, _, rfl⟩ := List.mem_map.1 hc; rfl) (by simp) h'
  rw [List.length_map] at h1 h2
  exact ⟨A, c, h1, h2, h3, h4⟩
end Go.Proofs.YtfnmgcblhebdbaaGreatDoor
