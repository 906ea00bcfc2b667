/- Trees of nodes: what they say, how they lie in memory. No conditions. -/
import Derived.Test.YtdaccamiipknmaaGreatDoorApp
namespace Go.Proofs.YtdaccamiipknmaaGreatDoor
open Go.RowKit

/-- What a node says. -/
inductive Nd where
  | mk (tag kind n : Int) (s : ByteArray) (kids : List Nd) : Nd
instance : Inhabited Nd := ⟨.mk 0 0 0 ⟨#[]⟩ []⟩
def Nd.tag : Nd → Int | .mk t _ _ _ _ => t
def Nd.kind : Nd → Int | .mk _ k _ _ _ => k
def Nd.n : Nd → Int | .mk _ _ n _ _ => n
def Nd.s : Nd → ByteArray | .mk _ _ _ s _ => s
def Nd.kids : Nd → List Nd | .mk _ _ _ _ l => l
/-- A node's cells; its children lie at L. -/
def ndc (x : Nd) (L : Option Addr × Nat) : List Value := [.int .i64 x.tag, .int .i64 x.kind, .int .i64 x.n, .string x.s, .slice L.1 x.kids.length L.2]
/-- A node as a value. -/
def nda (x : Nd) (L : Option Addr × Nat) : Value := .agg #[.int .i64 x.tag, .int .i64 x.kind, .int .i64 x.n, .string x.s, .slice L.1 x.kids.length L.2]
/-- Children ks, d levels deep at most, lie at L, in blocks from lo on; no list is longer than B. -/
def KidsAt (B lo : Nat) : Nat → World → Option Addr × Nat → List Nd → Prop
  | 0, _, L, ks => ks = [] ∧ L.2 ≤ maxLen
  | d + 1, w, L, ks => ks.length ≤ B ∧ ks.length ≤ L.2 ∧ L.2 ≤ maxLen ∧ (ks = [] ∨ ∃ (b off : Nat) (Ls : List (Option Addr × Nat)), L.1 = some ⟨b, off, none⟩ ∧ lo ≤ b ∧ b < w.heap.size ∧ Ls.length = ks.length ∧
      ∀ i x M, ks[i]? = some x → Ls[i]? = some M → (∀ j v, (ndc x M)[j]? = some v → w.cell? ⟨b, off + (i * 5 + j), none⟩ = some v) ∧ KidsAt B lo d w M x.kids)
theorem KidsAt.ext {B lo : Nat} : ∀ {d : Nat} {w w' : World} {L : Option Addr × Nat} {ks : List Nd}, KidsAt B lo d w L ks → Ext w w' → KidsAt B lo d w' L ks
  | 0, _, _, _, _, h, _ => h
  | d + 1, w, w', L, ks, ⟨h1, h2, h3, h⟩, he => by
    refine ⟨h1, h2, h3, ?_⟩
    rcases h with h | ⟨b, off, Ls, e, hl, hb, hL, hc⟩
    · exact Or.inl h
    · exact Or.inr ⟨b, off, Ls, e, hl, Nat.lt_of_lt_of_le hb he.size, hL, fun i x M hx hM => ⟨fun j v hv => he.keep ((hc i x M hx hM).1 j v hv), (hc i x M hx hM).2.ext he⟩⟩
theorem KidsAt.setCell {B lo : Nat} : ∀ {d : Nat} {w : World} {L : Option Addr × Nat} {ks : List Nd} {p : Addr} {v : Value}, KidsAt B lo d w L ks → p.block < lo → KidsAt B lo d (w.setCell p v) L ks
  | 0, _, _, _, _, _, h, _ => h
  | d + 1, w, L, ks, p, v, ⟨h1, h2, h3, h⟩, hp => by
    refine ⟨h1, h2, h3, ?_⟩
    rcases h with h | ⟨b, off, Ls, e, hl, hb, hL, hc⟩
    · exact Or.inl h
    · refine Or.inr ⟨b, off, Ls, e, hl, by simpa using hb, hL, fun i x M hx hM => ⟨fun j u hu => ?_, (hc i x M hx hM).2.setCell hp⟩⟩
      rw [World.cell?_of_block (w := w) (w' := w.setCell p v) (Below.heap_setCell _ _ _ _ (show b ≠ p.block by omega))]
      exact (hc i x M hx hM).1 j u hu
theorem KidsAt.lower {B lo lo' : Nat} (hlo : lo' ≤ lo) : ∀ {d : Nat} {w : World} {L : Option Addr × Nat} {ks : List Nd}, KidsAt B lo d w L ks → KidsAt B lo' d w L ks
  | 0, _, _, _, h => h
  | d + 1, w, L, ks, ⟨h1, h2, h3, h⟩ => by
    refine ⟨h1, h2, h3, ?_⟩
    rcases h with h | ⟨b, off, Ls, e, hl, hb, hL, hc⟩
    · exact Or.inl h
    · exact Or.inr ⟨b, off, Ls, e, Nat.le_trans hlo hl, hb, hL, fun i x M hx hM => ⟨(hc i x M hx hM).1, (hc i x M hx hM).2.lower hlo⟩⟩
theorem KidsAt.deeper {B lo : Nat} : ∀ {d : Nat} {w : World} {L : Option Addr × Nat} {ks : List Nd}, KidsAt B lo d w L ks → KidsAt B lo (d + 1) w L ks
  | 0, _, L, ks, ⟨h, hm⟩ => by subst h; exact ⟨Nat.zero_le _, Nat.zero_le _, hm, Or.inl rfl⟩
  | d + 1, w, L, ks, ⟨h1, h2, h3, h⟩ => by
    refine ⟨h1, h2, h3, ?_⟩
    rcases h with h | ⟨b, off, Ls, e, hl, hb, hL, hc⟩
    · exact Or.inl h
    · exact Or.inr ⟨b, off, Ls, e, hl, hb, hL, fun i x M hx hM => ⟨(hc i x M hx hM).1, (hc i x M hx hM).2.deeper⟩⟩
theorem KidsAt.nil (B lo d : Nat) (w : World) (A : Option Addr) : KidsAt B lo d w (A, 0) [] := by
  cases d with
  | zero => exact ⟨rfl, Nat.zero_le _⟩
  | succ d => exact ⟨Nat.zero_le _, Nat.zero_le _, Nat.zero_le _, Or.inl rfl⟩
theorem KidsAt.few {B lo d : Nat} {w : World} {L : Option Addr × Nat} {ks : List Nd} (h : KidsAt B lo d w L ks) : ks.length ≤ B := by
  cases d with
  | zero => obtain ⟨rfl, _⟩ := h; exact Nat.zero_le _
  | succ d => exact h.1
theorem KidsAt.at_ {B lo d : Nat} {w : World} {L : Option Addr × Nat} {ks : List Nd} (h : KidsAt B lo (d + 1) w L ks) {i : Nat} {x : Nd} (hi : ks[i]? = some x) :
    ∃ (b off : Nat) (M : Option Addr × Nat), L.1 = some ⟨b, off, none⟩ ∧ b < w.heap.size ∧ w.cell? ⟨b, off + i * 5, none⟩ = some (.int .i64 x.tag) ∧ w.cell? ⟨b, off + i * 5 + 1, none⟩ = some (.int .i64 x.kind) ∧ w.cell? ⟨b, off + i * 5 + 1 + 1, none⟩ = some (.int .i64 x.n) ∧
      w.cell? ⟨b, off + i * 5 + 1 + 1 + 1, none⟩ = some (.string x.s) ∧ w.cell? ⟨b, off + i * 5 + 1 + 1 + 1 + 1, none⟩ = some (.slice M.1 x.kids.length M.2) ∧ KidsAt B lo d w M x.kids := by
  obtain ⟨_, _, _, h⟩ := h
  rcases h with h | ⟨b, off, Ls, e, hl, hb, hL, hc⟩
  · subst h; simp at hi
  · have hlt : i < ks.length := by
      rcases Nat.lt_or_ge i ks.length with g | g
      · exact g
      · rw [List.getElem?_eq_none g] at hi; cases hi
    have hM : Ls[i]? = some (Ls[i]'(by omega)) := List.getElem?_eq_getElem (by omega)
    obtain ⟨h1, h2⟩ := hc i x _ hi hM
    exact ⟨b, off, _, e, hb, h1 0 _ rfl, h1 1 _ rfl, h1 2 _ rfl, h1 3 _ rfl, h1 4 _ rfl, h2⟩
/-- A row of n nodes, the first k of which are those of ks (their children in later blocks). -/
def RowN (B d : Nat) (w : World) (g n k : Nat) (ks : List Nd) : Prop :=
  (∃ f, w.rowIs g 34 (n * 5) f) ∧ ∃ Ls : List (Option Addr × Nat), Ls.length = k ∧ ∀ i x M, ks[i]? = some x → Ls[i]? = some M → (∀ j v, (ndc x M)[j]? = some v → w.cell? ⟨g, i * 5 + j, none⟩ = some v) ∧ KidsAt B (g + 1) d w M x.kids
theorem RowN.lt {B d : Nat} {w : World} {g n k : Nat} {ks : List Nd} (h : RowN B d w g n k ks) : g < w.heap.size := by
  obtain ⟨⟨f, hf⟩, _⟩ := h
  exact hf.lt
theorem RowN.ext {B d : Nat} {w w' : World} {g n k : Nat} {ks : List Nd} (h : RowN B d w g n k ks) (he : Ext w w') : RowN B d w' g n k ks := by
  have hlt := h.lt
  obtain ⟨⟨f, hf⟩, Ls, hL, hc⟩ := h
  exact ⟨⟨f, hf.of_block (Below.block he g hlt)⟩, Ls, hL, fun i x M hx hM => ⟨fun j v hv => he.keep ((hc i x M hx hM).1 j v hv), (hc i x M hx hM).2.ext he⟩⟩
/-- The row's cells can be written. -/
theorem RowN.cells {B d : Nat} {w : World} {g n k : Nat} {ks : List Nd} (h : RowN B d w g n k ks) (hk : k < n) : ∃ v0 v1 v2 v3 v4 : Value,
    (w.cell? ⟨g, k * 5, none⟩ = some v0 ∧ w.cell? ⟨g, k * 5 + 1, none⟩ = some v1 ∧ w.cell? ⟨g, k * 5 + 1 + 1, none⟩ = some v2 ∧ w.cell? ⟨g, k * 5 + 1 + 1 + 1, none⟩ = some v3 ∧ w.cell? ⟨g, k * 5 + 1 + 1 + 1 + 1, none⟩ = some v4) ∧ (∀ i, w.frozen? ⟨g, i, none⟩ = false) := by
  obtain ⟨⟨f, hf⟩, _⟩ := h
  exact ⟨_, _, _, _, _, ⟨hf.cell (by omega), hf.cell (by omega), hf.cell (by omega), hf.cell (by omega), hf.cell (by omega)⟩, fun i => hf.frozen i⟩
/-- One more cell is written, beyond the first k nodes. -/
theorem RowN.put {B d : Nat} {w : World} {g n k : Nat} {ks : List Nd} (h : RowN B d w g n k ks) {o : Nat} (ho : k * 5 ≤ o) (v : Value) : RowN B d (w.setCell ⟨g, o, none⟩ v) g n k ks := by
  obtain ⟨⟨f, hf⟩, Ls, hL, hc⟩ := h
  refine ⟨⟨_, hf.set o v⟩, Ls, hL, fun i x M hx hM => ⟨fun j u hu => ?_, (hc i x M hx hM).2.setCell (by simp)⟩⟩
  have hik : i < k := by
    rcases Nat.lt_or_ge i Ls.length with g | g
    · omega
    · rw [List.getElem?_eq_none g] at hM; cases hM
  have hj : j < 5 := by
    rcases Nat.lt_or_ge j (ndc x M).length with g | g
    · exact g
    · rw [List.getElem?_eq_none g] at hu; cases hu
  rw [World.cell?_setCell_other _ _ _ _ (by simp <;> omega)]
  exact (hc i x M hx hM).1 j u hu
/-- The k-th node stands. -/
theorem RowN.next {B d : Nat} {w : World} {g n k : Nat} {ks : List Nd} (h : RowN B d w g n k ks) {x : Nd} {M : Option Addr × Nat} (hx : ks[k]? = some x) (hc : ∀ j v, (ndc x M)[j]? = some v → w.cell? ⟨g, k * 5 + j, none⟩ = some v) (hM : KidsAt B (g + 1) d w M x.kids) : RowN B d w g n (k + 1) ks := by
  obtain ⟨hf, Ls, hL, hcs⟩ := h
  refine ⟨hf, Ls ++ [M], by simp [hL], fun i y N hy hN => ?_⟩
  rcases Nat.lt_or_ge i k with g | g
  · rw [List.getElem?_append_left (by omega)] at hN
    exact hcs i y N hy hN
  · rw [List.getElem?_append_right (by omega)] at hN
    have e : i = k := by
      rcases Nat.eq_zero_or_pos (i - Ls.length) with e | e
      · omega
      · rw [List.getElem?_eq_none (by simp; omega)] at hN; cases hN
    subst e
    rw [hx] at hy
    obtain rfl := Option.some.inj hy
    rw [hL, Nat.sub_self] at hN
    obtain rfl : M = N := by simpa using hN
    exact ⟨hc, hM⟩
/-- A full row is a list of children. -/
theorem RowN.done {B d lo : Nat} {w : World} {g n : Nat} {ks : List Nd} (h : RowN B d w g n ks.length ks) (hn : ks.length = n) (hB : n ≤ B) (hm : n ≤ maxLen) (hlo : lo ≤ g) : KidsAt B lo (d + 1) w (some ⟨g, 0, none⟩, n) ks := by
  have hlt := h.lt
  obtain ⟨_, Ls, hL, hc⟩ := h
  refine ⟨by omega, by simp only; omega, hm, Or.inr ⟨g, 0, Ls, rfl, hlo, hlt, hL, fun i x M hx hM => ⟨fun j v hv => ?_, ((hc i x M hx hM).2).lower (by omega)⟩⟩⟩
  rw [Nat.zero_add]
  exact (hc i x M hx hM).1 j v hv
theorem RowN.start {B d : Nat} {w : World} {g n : Nat} {f : Nat → Value} (h : w.rowIs g 34 (n * 5) f) (ks : List Nd) : RowN B d w g n 0 ks :=
  ⟨⟨f, h⟩, [], rfl, fun i x M _ hM => by simp at hM⟩
end Go.Proofs.YtdaccamiipknmaaGreatDoor
