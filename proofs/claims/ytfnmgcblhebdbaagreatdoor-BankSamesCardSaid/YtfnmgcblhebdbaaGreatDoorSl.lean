/- Slices that read as lists: 'Sl' says that a slice's address leads to the cells of the listed elements; how such slices come out of a row's reading, and how they are kept. No conditions. -/
import Derived.Test.YtfnmgcblhebdbaaGreatDoorBase
namespace Go.Proofs.YtfnmgcblhebdbaaGreatDoor
open Go.ChangeShapes Go.WideShapes Go.ChangeAt Go.RowKit

/-- The elements xs, each a list of k cells, lie one after another at A. -/
def Sl (w : World) (k : Nat) (A : Option Addr) (xs : List (List Value)) : Prop :=
  xs = [] ∨ ∃ b off, A = some ⟨b, off, none⟩ ∧ b < w.heap.size ∧ ∀ i cs, xs[i]? = some cs → ∀ j v, cs[j]? = some v → w.cell? ⟨b, off + (i * k + j), none⟩ = some v

theorem Sl.nil (w : World) (k : Nat) (A : Option Addr) : Sl w k A [] := Or.inl rfl

theorem Sl.ext {w w' : World} {k : Nat} {A : Option Addr} {xs : List (List Value)} (h : Sl w k A xs) (he : Ext w w') : Sl w' k A xs := by
  rcases h with h | ⟨b, off, hA, hb, hc⟩
  · exact Or.inl h
  · exact Or.inr ⟨b, off, hA, Nat.lt_of_lt_of_le hb he.size, fun i cs hi j v hv => he.keep (hc i cs hi j v hv)⟩

theorem Sl.at_ {w : World} {k : Nat} {A : Option Addr} {xs : List (List Value)} (h : Sl w k A xs) {i : Nat} {cs : List Value} (hi : xs[i]? = some cs) :
    ∃ b off, A = some ⟨b, off, none⟩ ∧ b < w.heap.size ∧ ∀ j v, cs[j]? = some v → w.cell? ⟨b, off + (i * k + j), none⟩ = some v := by
  rcases h with h | ⟨b, off, hA, hb, hc⟩
  · subst h; simp at hi
  · exact ⟨b, off, hA, hb, hc i cs hi⟩

/-- A slice of integers. -/
def SlI (w : World) (A : Option Addr) (xs : List Int) : Prop := Sl w 1 A (xs.map fun x => [.int .i64 x])
theorem SlI.ext {w w' : World} {A : Option Addr} {xs : List Int} (h : SlI w A xs) (he : Ext w w') : SlI w' A xs := Sl.ext h he
theorem SlI.nil (w : World) (A : Option Addr) : SlI w A [] := Or.inl rfl
theorem SlI.at_ {w : World} {A : Option Addr} {xs : List Int} (h : SlI w A xs) {i : Nat} (hi : i < xs.length) :
    ∃ b off x, A = some ⟨b, off, none⟩ ∧ b < w.heap.size ∧ xs[i]? = some x ∧ w.cell? ⟨b, off + i, none⟩ = some (.int .i64 x) := by
  obtain ⟨b, off, hA, hb, hc⟩ := Sl.at_ (i := i) (cs := [.int .i64 xs[i]]) h (by simp [hi])
  refine ⟨b, off, xs[i], hA, hb, List.getElem?_eq_getElem hi, ?_⟩
  have := hc 0 _ rfl
  simpa using this

theorem str_empty {s : ByteArray} (h : s.size = 0) : s.toList = [] := by
  rw [ByteArray.toList_eq]
  exact List.eq_nil_of_length_eq_zero (by simpa using h)
theorem str_some {s : ByteArray} (h : 1 ≤ s.size) : s.toList.isEmpty = false ∧ ¬ s.toList = [] := by
  have hne : ¬ s.toList = [] := fun e => by
    have h1 := congrArg List.length e
    rw [ByteArray.toList_eq] at h1
    have h2 : s.size = 0 := by simpa using h1
    omega
  exact ⟨by cases h : s.toList with | nil => exact absurd h hne | cons a l => rfl, hne⟩

/-- An integer that an i64 holds. -/
def In64 (x : Int) : Prop := -9223372036854775808 ≤ x ∧ x ≤ 9223372036854775807
theorem in64_of_wf {x : Int} (h : (Lit.int .i64 x).wf = true) : In64 x := by
  simp only [Lit.wf, Bool.and_eq_true, decide_eq_true_eq] at h
  exact h

section
variable {H : Type} {enc : TypeId × Value → H} {P : Program} {w : World} {base : Nat} {spare : Nat → Bool} {held : Bool}

theorem open_sl {X : Type} [Inhabited X] (encX : X → List Value) (Good : X → Prop) {t e : TypeId} {k fuel : Nat} {cs : List Value} {y : DataW H × List MemPlace}
    (ht : P.underlying t = some (.slice e)) (hk : P.cellsOf e = k) (hk0 : 0 < k)
    (hel : ∀ n cs y, DataW.trod enc P w base spare held n e cs = some y → ∃ x, cs = encX x ∧ Good x)
    (h : DataW.trod enc P w base spare held fuel t cs = some y) :
    ∃ (A : Option Addr) (xs : List X) (c : Nat), cs = [.slice A xs.length c] ∧ xs.length ≤ c ∧ c ≤ maxLen ∧ (∀ x ∈ xs, Good x) ∧ Sl w k A (xs.map encX) := by
  rcases Deep.open_slice ht h with ⟨rfl, _⟩ | ⟨a, len, cap, m, n, D, Pl, rfl, hb, hl, hm, hmm, _, hx⟩
  · exact ⟨none, [], 0, rfl, Nat.le_refl _, Nat.zero_le _, fun x hx => by simp at hx, Or.inl rfl⟩
  · have hlen : len ≤ m := by rw [hmm]; split <;> omega
    obtain ⟨f, hf⟩ := Deep.choose_lt (α := X) (n := len) (p := fun i x => w.cells? base (a.add (i * k)) k = some (encX x) ∧ Good x) (fun i hi => by
      obtain ⟨cs', h1, h2⟩ := hx i (by omega)
      obtain ⟨x, rfl, hg⟩ := hel _ _ _ h2
      rw [hk] at h1
      exact ⟨x, h1, hg⟩)
    refine ⟨some a, (List.range len).map f, cap, by simp, by simpa using hl, hm, fun x hx => ?_, ?_⟩
    · obtain ⟨i, hi, rfl⟩ := List.mem_map.1 hx
      exact (hf i (by simpa using hi)).2
    · rcases Nat.eq_zero_or_pos len with h0 | h0
      · subst h0; exact Or.inl rfl
      · have key : ∀ i, i < len → ∀ j v, (encX (f i))[j]? = some v → w.cell? (a.add (i * k + j)) = some v := fun i hi j v hv => by
          obtain ⟨_, hlen', hc⟩ := World.cells?_some (hf i hi).1
          have hj : j < k := by
            have : j < (encX (f i)).length := by
              rcases Nat.lt_or_ge j (encX (f i)).length with g | g
              · exact g
              · rw [List.getElem?_eq_none g] at hv; cases hv
            omega
          have := hc j hj
          rw [Deep.add_add] at this
          rw [this]; exact hv
        have h00 : ∃ v, w.cell? a = some v := by
          obtain ⟨_, hlen', hc⟩ := World.cells?_some (hf 0 h0).1
          have h1 : 0 < (encX (f 0)).length := by omega
          have := key 0 h0 0 ((encX (f 0))[0]) (List.getElem?_eq_getElem h1)
          rw [Nat.zero_mul, Nat.add_zero] at this
          exact ⟨_, by simpa [Addr.add] using this⟩
        obtain ⟨v0, hv0⟩ := h00
        obtain ⟨b, off, spot⟩ := a
        have hspot : spot = none := by
          cases spot with
          | none => rfl
          | some z =>
            unfold World.cell? at hv0
            simp at hv0
            split at hv0 <;> simp at hv0
        subst hspot
        refine Or.inr ⟨b, off, rfl, World.block_lt_of_cell? w _ hv0, fun i cs hi j v hv => ?_⟩
        have hi' : i < len := by
          rcases Nat.lt_or_ge i len with g | g
          · exact g
          · rw [List.getElem?_eq_none (by simpa using g)] at hi; cases hi
        have hcs : cs = encX (f i) := by
          simp [hi'] at hi
          exact hi.symm
        subst hcs
        have := key i hi' j v hv
        rwa [add_plain] at this

theorem open_sli {t e : TypeId} {v : Value} {d : DataW H} {p : List MemPlace} (ht : P.underlying t = some (.slice e)) (hk : P.cellsOf e = 1) (he : P.underlying e = some (.int .i64))
    (hv : ∃ A n c, v = .slice A n c) (h : DataW.Trod enc P w base spare held t v d p) :
    ∃ (A : Option Addr) (xs : List Int) (c : Nat), v = .slice A xs.length c ∧ xs.length ≤ c ∧ c ≤ maxLen ∧ (∀ x ∈ xs, In64 x) ∧ SlI w A xs := by
  obtain ⟨A0, n0, c0, rfl⟩ := hv
  obtain ⟨fuel, hf⟩ := h
  obtain ⟨A, xs, c, h1, h2, h3, h4, h5⟩ := open_sl (fun x : Int => [.int .i64 x]) In64 ht hk (by omega) (fun n cs y hy => by
    obtain ⟨x, h1, _, h3⟩ := DataW.trod_int he hy
    exact ⟨x, h1, in64_of_wf h3⟩) hf
  simp [Value.cells] at h1
  obtain ⟨rfl, rfl, rfl⟩ := h1
  exact ⟨_, xs, _, rfl, h2, h3, h4, h5⟩
end
end Go.Proofs.YtfnmgcblhebdbaaGreatDoor
