/- item.Decode: an item out of its tree: a contract. Conditions: those of each theorem. -/
import Derived.Test.YtdaccamiipknmaaGreatDoorItR
import Derived.Test.YtdaccamiipknmaaGreatDoorItM
namespace Go.Proofs.YtdaccamiipknmaaGreatDoor
open Go.RowKit Go.Shelf

/-- The item that the nodes of a tree say. -/
def itemOf (ks : List Nd) : It.Item := ⟨(ks.getD 0 default).n, (ks.getD 1 default).n, (ks.getD 2 default).n, (ks.getD 3 default).s, (ks.getD 4 default).kids.map Nd.s, (ks.getD 5 default).kids.map Nd.n, (ks.getD 6 default).n, (ks.getD 7 default).n, (ks.getD 8 default).kids.map Nd.s, (ks.getD 9 default).n, (ks.getD 10 default).s, (ks.getD 11 default).n, (ks.getD 12 default).n, (ks.getD 13 default).n, (ks.getD 14 default).n, (ks.getD 15 default).kids.map Nd.n, (ks.getD 16 default).n⟩
/-- Where an item's lists lie, in blocks of their own kind. -/
structure InX (w : World) (it : It.Item) (L : It.Loc) : Prop where
  o : SlS w L.oA it.opts
  c : SlI w L.cA it.chs
  t : SlS w L.tA it.texts
  s : SlI w L.sA it.assets
  oc : it.opts.length ≤ L.oc ∧ L.oc ≤ maxLen
  cc : it.chs.length ≤ L.cc ∧ L.cc ≤ maxLen
  tc : it.texts.length ≤ L.tc ∧ L.tc ≤ maxLen
  sc : it.assets.length ≤ L.sc ∧ L.sc ≤ maxLen
  ob : TyB w L.oA 9
  cb : TyB w L.cA 3
  tb : TyB w L.tA 9
  sb : TyB w L.sA 3
theorem InX.ext {w w' : World} {it : It.Item} {L : It.Loc} (h : InX w it L) (he : Ext w w') : InX w' it L :=
  ⟨h.o.ext he, h.c.ext he, h.t.ext he, h.s.ext he, h.oc, h.cc, h.tc, h.sc, h.ob.ext he, h.cb.ext he, h.tb.ext he, h.sb.ext he⟩
theorem InX.in_ {w : World} {it : It.Item} {L : It.Loc} (h : InX w it L) (hok : It.Ok it) : It.In w it L := ⟨hok, h.o, h.c, h.t, h.s, h.oc, h.cc, h.tc, h.sc⟩
theorem TyB.other {w : World} {A : Option Addr} {t t' : TypeId} {q : Nat} {cs : Array Value} {fr : Nat × Nat} (h : TyB w A t) (hq : w.heap[q]? = some (.cells cs t' fr)) (hne : t ≠ t') : ∀ a, A = some a → a.block ≠ q := by
  rintro a ha rfl
  obtain ⟨cur, h1⟩ := h a ha
  rw [hq] at h1
  injection h1 with h1
  injection h1 with _ ht
  exact hne ht.symm
theorem TyB.setCell {w : World} {A : Option Addr} {t : TypeId} (h : TyB w A t) {p : Addr} (hp : ∀ a, A = some a → a.block ≠ p.block) (v : Value) : TyB (w.setCell p v) A t := fun a ha => by
  obtain ⟨cur, h1⟩ := h a ha
  exact ⟨cur, by rw [Below.heap_setCell _ _ _ _ (hp a ha)]; exact h1⟩
/-- A block of an item's cells. -/
def BlkI (w : World) (q : Nat) : Prop := ∃ cs : Array Value, w.heap[q]? = some (.cells cs 25 (0, 0)) ∧ cs.size = 17
theorem BlkI.ext {w w' : World} {q : Nat} (h : BlkI w q) (he : Ext w w') : BlkI w' q := by obtain ⟨cs, h1, h2⟩ := h; exact ⟨cs, he.blockAt h1, h2⟩
theorem BlkI.cell {w : World} {q : Nat} (h : BlkI w q) {i : Nat} (hi : i < 17) : ∃ v, w.cell? ⟨q, i, none⟩ = some v := by
  obtain ⟨cs, h1, h2⟩ := h
  exact ⟨cs[i], by rw [cell_of_row w q i cs _ _ h1]; exact Array.getElem?_eq_getElem (by omega)⟩
theorem BlkI.free {w : World} {q : Nat} (h : BlkI w q) (i : Nat) : w.frozen? ⟨q, i, none⟩ = false := by
  obtain ⟨cs, h1, h2⟩ := h
  simp [World.frozen?, h1]
theorem BlkI.lt {w : World} {q : Nat} (h : BlkI w q) : q < w.heap.size := by
  obtain ⟨cs, h1, _⟩ := h
  rcases Nat.lt_or_ge q w.heap.size with g | g
  · exact g
  · rw [Array.getElem?_eq_none g] at h1; cases h1
theorem BlkI.set {w : World} {q : Nat} (h : BlkI w q) (i : Nat) (v : Value) : BlkI (w.setCell ⟨q, i, none⟩ v) q := by
  obtain ⟨cs, h1, h2⟩ := h
  exact ⟨cs.setIfInBounds i v, by simp [World.setCell, Array.getElem?_modify, h1], by simpa using h2⟩
theorem InX.set {w : World} {it : It.Item} {L : It.Loc} (h : InX w it L) {q : Nat} (hq : BlkI w q) (i : Nat) (v : Value) : InX (w.setCell ⟨q, i, none⟩ v) it L := by
  obtain ⟨cs, h1, h2⟩ := hq
  have o := h.ob.other h1 (by decide)
  have c := h.cb.other h1 (by decide)
  have t := h.tb.other h1 (by decide)
  have s := h.sb.other h1 (by decide)
  exact ⟨Sl.setCell h.o o v, Sl.setCell h.c c v, Sl.setCell h.t t v, Sl.setCell h.s s v, h.oc, h.cc, h.tc, h.sc, h.ob.setCell o v, h.cb.setCell c v, h.tb.setCell t v, h.sb.setCell s v⟩

/-- An item's cells, stored one after another. -/
abbrev put17 (w : World) (q : Nat) (v0 v1 v2 v3 v4 v5 v6 v7 v8 v9 v10 v11 v12 v13 v14 v15 v16 : Value) : World := (((((((((((((((((w.setCell ⟨q, 0, none⟩ v0).setCell ⟨q, 1, none⟩ v1).setCell ⟨q, 2, none⟩ v2).setCell ⟨q, 3, none⟩ v3).setCell ⟨q, 4, none⟩ v4).setCell ⟨q, 5, none⟩ v5).setCell ⟨q, 6, none⟩ v6).setCell ⟨q, 7, none⟩ v7).setCell ⟨q, 8, none⟩ v8).setCell ⟨q, 9, none⟩ v9).setCell ⟨q, 10, none⟩ v10).setCell ⟨q, 11, none⟩ v11).setCell ⟨q, 12, none⟩ v12).setCell ⟨q, 13, none⟩ v13).setCell ⟨q, 14, none⟩ v14).setCell ⟨q, 15, none⟩ v15).setCell ⟨q, 16, none⟩ v16)
theorem put17_block {w : World} {q : Nat} (h : BlkI w q) (v0 v1 v2 v3 v4 v5 v6 v7 v8 v9 v10 v11 v12 v13 v14 v15 v16 : Value) : (put17 w q v0 v1 v2 v3 v4 v5 v6 v7 v8 v9 v10 v11 v12 v13 v14 v15 v16).heap[q]? = some (.cells #[v0, v1, v2, v3, v4, v5, v6, v7, v8, v9, v10, v11, v12, v13, v14, v15, v16] 25 (0, 0)) := by
  obtain ⟨cs, h1, h2⟩ := h
  obtain ⟨c0, c1, c2, c3, c4, c5, c6, c7, c8, c9, c10, c11, c12, c13, c14, c15, c16, rfl⟩ : ∃ c0 c1 c2 c3 c4 c5 c6 c7 c8 c9 c10 c11 c12 c13 c14 c15 c16, cs = #[c0, c1, c2, c3, c4, c5, c6, c7, c8, c9, c10, c11, c12, c13, c14, c15, c16] := by
    obtain ⟨l⟩ := cs
    match l, h2 with
    | [c0, c1, c2, c3, c4, c5, c6, c7, c8, c9, c10, c11, c12, c13, c14, c15, c16], _ => exact ⟨c0, c1, c2, c3, c4, c5, c6, c7, c8, c9, c10, c11, c12, c13, c14, c15, c16, rfl⟩
  simp [World.setCell, Array.getElem?_modify, h1]
theorem put17_ext {a w : World} {q : Nat} (h : Ext a w) (hq : a.heap.size ≤ q) (v0 v1 v2 v3 v4 v5 v6 v7 v8 v9 v10 v11 v12 v13 v14 v15 v16 : Value) : Ext a (put17 w q v0 v1 v2 v3 v4 v5 v6 v7 v8 v9 v10 v11 v12 v13 v14 v15 v16) :=
  ((((((((((((((((h.setCell hq _).setCell hq _).setCell hq _).setCell hq _).setCell hq _).setCell hq _).setCell hq _).setCell hq _).setCell hq _).setCell hq _).setCell hq _).setCell hq _).setCell hq _).setCell hq _).setCell hq _).setCell hq _).setCell hq _
theorem seen17 {w : World} {q : Nat} (h : BlkI w q) (v0 v1 v2 v3 v4 v5 v6 v7 v8 v9 v10 v11 v12 v13 v14 v15 v16 : Value) :
    (w.setCell ⟨q, 0, none⟩ v0).cell? ⟨q, 0, none⟩ = some v0 ∧
    ((w.setCell ⟨q, 0, none⟩ v0).setCell ⟨q, 1, none⟩ v1).cell? ⟨q, 1, none⟩ = some v1 ∧
    (((w.setCell ⟨q, 0, none⟩ v0).setCell ⟨q, 1, none⟩ v1).setCell ⟨q, 2, none⟩ v2).cell? ⟨q, 2, none⟩ = some v2 ∧
    ((((w.setCell ⟨q, 0, none⟩ v0).setCell ⟨q, 1, none⟩ v1).setCell ⟨q, 2, none⟩ v2).setCell ⟨q, 3, none⟩ v3).cell? ⟨q, 3, none⟩ = some v3 ∧
    (((((w.setCell ⟨q, 0, none⟩ v0).setCell ⟨q, 1, none⟩ v1).setCell ⟨q, 2, none⟩ v2).setCell ⟨q, 3, none⟩ v3).setCell ⟨q, 4, none⟩ v4).cell? ⟨q, 4, none⟩ = some v4 ∧
    ((((((w.setCell ⟨q, 0, none⟩ v0).setCell ⟨q, 1, none⟩ v1).setCell ⟨q, 2, none⟩ v2).setCell ⟨q, 3, none⟩ v3).setCell ⟨q, 4, none⟩ v4).setCell ⟨q, 5, none⟩ v5).cell? ⟨q, 5, none⟩ = some v5 ∧
    (((((((w.setCell ⟨q, 0, none⟩ v0).setCell ⟨q, 1, none⟩ v1).setCell ⟨q, 2, none⟩ v2).setCell ⟨q, 3, none⟩ v3).setCell ⟨q, 4, none⟩ v4).setCell ⟨q, 5, none⟩ v5).setCell ⟨q, 6, none⟩ v6).cell? ⟨q, 6, none⟩ = some v6 ∧
    ((((((((w.setCell ⟨q, 0, none⟩ v0).setCell ⟨q, 1, none⟩ v1).setCell ⟨q, 2, none⟩ v2).setCell ⟨q, 3, none⟩ v3).setCell ⟨q, 4, none⟩ v4).setCell ⟨q, 5, none⟩ v5).setCell ⟨q, 6, none⟩ v6).setCell ⟨q, 7, none⟩ v7).cell? ⟨q, 7, none⟩ = some v7 ∧
    (((((((((w.setCell ⟨q, 0, none⟩ v0).setCell ⟨q, 1, none⟩ v1).setCell ⟨q, 2, none⟩ v2).setCell ⟨q, 3, none⟩ v3).setCell ⟨q, 4, none⟩ v4).setCell ⟨q, 5, none⟩ v5).setCell ⟨q, 6, none⟩ v6).setCell ⟨q, 7, none⟩ v7).setCell ⟨q, 8, none⟩ v8).cell? ⟨q, 8, none⟩ = some v8 ∧
    ((((((((((w.setCell ⟨q, 0, none⟩ v0).setCell ⟨q, 1, none⟩ v1).setCell ⟨q, 2, none⟩ v2).setCell ⟨q, 3, none⟩ v3).setCell ⟨q, 4, none⟩ v4).setCell ⟨q, 5, none⟩ v5).setCell ⟨q, 6, none⟩ v6).setCell ⟨q, 7, none⟩ v7).setCell ⟨q, 8, none⟩ v8).setCell ⟨q, 9, none⟩ v9).cell? ⟨q, 9, none⟩ = some v9 ∧
    (((((((((((w.setCell ⟨q, 0, none⟩ v0).setCell ⟨q, 1, none⟩ v1).setCell ⟨q, 2, none⟩ v2).setCell ⟨q, 3, none⟩ v3).setCell ⟨q, 4, none⟩ v4).setCell ⟨q, 5, none⟩ v5).setCell ⟨q, 6, none⟩ v6).setCell ⟨q, 7, none⟩ v7).setCell ⟨q, 8, none⟩ v8).setCell ⟨q, 9, none⟩ v9).setCell ⟨q, 10, none⟩ v10).cell? ⟨q, 10, none⟩ = some v10 ∧
    ((((((((((((w.setCell ⟨q, 0, none⟩ v0).setCell ⟨q, 1, none⟩ v1).setCell ⟨q, 2, none⟩ v2).setCell ⟨q, 3, none⟩ v3).setCell ⟨q, 4, none⟩ v4).setCell ⟨q, 5, none⟩ v5).setCell ⟨q, 6, none⟩ v6).setCell ⟨q, 7, none⟩ v7).setCell ⟨q, 8, none⟩ v8).setCell ⟨q, 9, none⟩ v9).setCell ⟨q, 10, none⟩ v10).setCell ⟨q, 11, none⟩ v11).cell? ⟨q, 11, none⟩ = some v11 ∧
    (((((((((((((w.setCell ⟨q, 0, none⟩ v0).setCell ⟨q, 1, none⟩ v1).setCell ⟨q, 2, none⟩ v2).setCell ⟨q, 3, none⟩ v3).setCell ⟨q, 4, none⟩ v4).setCell ⟨q, 5, none⟩ v5).setCell ⟨q, 6, none⟩ v6).setCell ⟨q, 7, none⟩ v7).setCell ⟨q, 8, none⟩ v8).setCell ⟨q, 9, none⟩ v9).setCell ⟨q, 10, none⟩ v10).setCell ⟨q, 11, none⟩ v11).setCell ⟨q, 12, none⟩ v12).cell? ⟨q, 12, none⟩ = some v12 ∧
    ((((((((((((((w.setCell ⟨q, 0, none⟩ v0).setCell ⟨q, 1, none⟩ v1).setCell ⟨q, 2, none⟩ v2).setCell ⟨q, 3, none⟩ v3).setCell ⟨q, 4, none⟩ v4).setCell ⟨q, 5, none⟩ v5).setCell ⟨q, 6, none⟩ v6).setCell ⟨q, 7, none⟩ v7).setCell ⟨q, 8, none⟩ v8).setCell ⟨q, 9, none⟩ v9).setCell ⟨q, 10, none⟩ v10).setCell ⟨q, 11, none⟩ v11).setCell ⟨q, 12, none⟩ v12).setCell ⟨q, 13, none⟩ v13).cell? ⟨q, 13, none⟩ = some v13 ∧
    (((((((((((((((w.setCell ⟨q, 0, none⟩ v0).setCell ⟨q, 1, none⟩ v1).setCell ⟨q, 2, none⟩ v2).setCell ⟨q, 3, none⟩ v3).setCell ⟨q, 4, none⟩ v4).setCell ⟨q, 5, none⟩ v5).setCell ⟨q, 6, none⟩ v6).setCell ⟨q, 7, none⟩ v7).setCell ⟨q, 8, none⟩ v8).setCell ⟨q, 9, none⟩ v9).setCell ⟨q, 10, none⟩ v10).setCell ⟨q, 11, none⟩ v11).setCell ⟨q, 12, none⟩ v12).setCell ⟨q, 13, none⟩ v13).setCell ⟨q, 14, none⟩ v14).cell? ⟨q, 14, none⟩ = some v14 ∧
    ((((((((((((((((w.setCell ⟨q, 0, none⟩ v0).setCell ⟨q, 1, none⟩ v1).setCell ⟨q, 2, none⟩ v2).setCell ⟨q, 3, none⟩ v3).setCell ⟨q, 4, none⟩ v4).setCell ⟨q, 5, none⟩ v5).setCell ⟨q, 6, none⟩ v6).setCell ⟨q, 7, none⟩ v7).setCell ⟨q, 8, none⟩ v8).setCell ⟨q, 9, none⟩ v9).setCell ⟨q, 10, none⟩ v10).setCell ⟨q, 11, none⟩ v11).setCell ⟨q, 12, none⟩ v12).setCell ⟨q, 13, none⟩ v13).setCell ⟨q, 14, none⟩ v14).setCell ⟨q, 15, none⟩ v15).cell? ⟨q, 15, none⟩ = some v15 ∧
    (((((((((((((((((w.setCell ⟨q, 0, none⟩ v0).setCell ⟨q, 1, none⟩ v1).setCell ⟨q, 2, none⟩ v2).setCell ⟨q, 3, none⟩ v3).setCell ⟨q, 4, none⟩ v4).setCell ⟨q, 5, none⟩ v5).setCell ⟨q, 6, none⟩ v6).setCell ⟨q, 7, none⟩ v7).setCell ⟨q, 8, none⟩ v8).setCell ⟨q, 9, none⟩ v9).setCell ⟨q, 10, none⟩ v10).setCell ⟨q, 11, none⟩ v11).setCell ⟨q, 12, none⟩ v12).setCell ⟨q, 13, none⟩ v13).setCell ⟨q, 14, none⟩ v14).setCell ⟨q, 15, none⟩ v15).setCell ⟨q, 16, none⟩ v16).cell? ⟨q, 16, none⟩ = some v16 := by
  obtain ⟨c0, k0⟩ := h.cell (i := 0) (by omega)
  obtain ⟨c1, k1⟩ := h.cell (i := 1) (by omega)
  obtain ⟨c2, k2⟩ := h.cell (i := 2) (by omega)
  obtain ⟨c3, k3⟩ := h.cell (i := 3) (by omega)
  obtain ⟨c4, k4⟩ := h.cell (i := 4) (by omega)
  obtain ⟨c5, k5⟩ := h.cell (i := 5) (by omega)
  obtain ⟨c6, k6⟩ := h.cell (i := 6) (by omega)
  obtain ⟨c7, k7⟩ := h.cell (i := 7) (by omega)
  obtain ⟨c8, k8⟩ := h.cell (i := 8) (by omega)
  obtain ⟨c9, k9⟩ := h.cell (i := 9) (by omega)
  obtain ⟨c10, k10⟩ := h.cell (i := 10) (by omega)
  obtain ⟨c11, k11⟩ := h.cell (i := 11) (by omega)
  obtain ⟨c12, k12⟩ := h.cell (i := 12) (by omega)
  obtain ⟨c13, k13⟩ := h.cell (i := 13) (by omega)
  obtain ⟨c14, k14⟩ := h.cell (i := 14) (by omega)
  obtain ⟨c15, k15⟩ := h.cell (i := 15) (by omega)
  obtain ⟨c16, k16⟩ := h.cell (i := 16) (by omega)
  refine ⟨World.cell?_setCell_same' _ _ _ ?_, World.cell?_setCell_same' _ _ _ ?_, World.cell?_setCell_same' _ _ _ ?_, World.cell?_setCell_same' _ _ _ ?_, World.cell?_setCell_same' _ _ _ ?_, World.cell?_setCell_same' _ _ _ ?_, World.cell?_setCell_same' _ _ _ ?_, World.cell?_setCell_same' _ _ _ ?_, World.cell?_setCell_same' _ _ _ ?_, World.cell?_setCell_same' _ _ _ ?_, World.cell?_setCell_same' _ _ _ ?_, World.cell?_setCell_same' _ _ _ ?_, World.cell?_setCell_same' _ _ _ ?_, World.cell?_setCell_same' _ _ _ ?_, World.cell?_setCell_same' _ _ _ ?_, World.cell?_setCell_same' _ _ _ ?_, World.cell?_setCell_same' _ _ _ ?_⟩
  · rw [k0]; rfl
  · rw [World.cell?_setCell_other _ _ _ _ (by simp), k1]; rfl
  · rw [World.cell?_setCell_other _ _ _ _ (by simp), World.cell?_setCell_other _ _ _ _ (by simp), k2]; rfl
  · rw [World.cell?_setCell_other _ _ _ _ (by simp), World.cell?_setCell_other _ _ _ _ (by simp), World.cell?_setCell_other _ _ _ _ (by simp), k3]; rfl
  · rw [World.cell?_setCell_other _ _ _ _ (by simp), World.cell?_setCell_other _ _ _ _ (by simp), World.cell?_setCell_other _ _ _ _ (by simp), World.cell?_setCell_other _ _ _ _ (by simp), k4]; rfl
  · rw [World.cell?_setCell_other _ _ _ _ (by simp), World.cell?_setCell_other _ _ _ _ (by simp), World.cell?_setCell_other _ _ _ _ (by simp), World.cell?_setCell_other _ _ _ _ (by simp), World.cell?_setCell_other _ _ _ _ (by simp), k5]; rfl
  · rw [World.cell?_setCell_other _ _ _ _ (by simp), World.cell?_setCell_other _ _ _ _ (by simp), World.cell?_setCell_other _ _ _ _ (by simp), World.cell?_setCell_other _ _ _ _ (by simp), World.cell?_setCell_other _ _ _ _ (by simp), World.cell?_setCell_other _ _ _ _ (by simp), k6]; rfl
  · rw [World.cell?_setCell_other _ _ _ _ (by simp), World.cell?_setCell_other _ _ _ _ (by simp), World.cell?_setCell_other _ _ _ _ (by simp), World.cell?_setCell_other _ _ _ _ (by simp), World.cell?_setCell_other _ _ _ _ (by simp), World.cell?_setCell_other _ _ _ _ (by simp), World.cell?_setCell_other _ _ _ _ (by simp), k7]; rfl
  · rw [World.cell?_setCell_other _ _ _ _ (by simp), World.cell?_setCell_other _ _ _ _ (by simp), World.cell?_setCell_other _ _ _ _ (by simp), World.cell?_setCell_other _ _ _ _ (by simp), World.cell?_setCell_other _ _ _ _ (by simp), World.cell?_setCell_other _ _ _ _ (by simp), World.cell?_setCell_other _ _ _ _ (by simp), World.cell?_setCell_other _ _ _ _ (by simp), k8]; rfl
  · rw [World.cell?_setCell_other _ _ _ _ (by simp), World.cell?_setCell_other _ _ _ _ (by simp), World.cell?_setCell_other _ _ _ _ (by simp), World.cell?_setCell_other _ _ _ _ (by simp), World.cell?_setCell_other _ _ _ _ (by simp), World.cell?_setCell_other _ _ _ _ (by simp), World.cell?_setCell_other _ _ _ _ (by simp), World.cell?_setCell_other _ _ _ _ (by simp), World.cell?_setCell_other _ _ _ _ (by simp), k9]; rfl
  · rw [World.cell?_setCell_other _ _ _ _ (by simp), World.cell?_setCell_other _ _ _ _ (by simp), World.cell?_setCell_other _ _ _ _ (by simp), World.cell?_setCell_other _ _ _ _ (by simp), World.cell?_setCell_other _ _ _ _ (by simp), World.cell?_setCell_other _ _ _ _ (by simp), World.cell?_setCell_other _ _ _ _ (by simp), World.cell?_setCell_other _ _ _ _ (by simp), World.cell?_setCell_other _ _ _ _ (by simp), World.cell?_setCell_other _ _ _ _ (by simp), k10]; rfl
  · rw [World.cell?_setCell_other _ _ _ _ (by simp), World.cell?_setCell_other _ _ _ _ (by simp), World.cell?_setCell_other _ _ _ _ (by simp), World.cell?_setCell_other _ _ _ _ (by simp), World.cell?_setCell_other _ _ _ _ (by simp), World.cell?_setCell_other _ _ _ _ (by simp), World.cell?_setCell_other _ _ _ _ (by simp), World.cell?_setCell_other _ _ _ _ (by simp), World.cell?_setCell_other _ _ _ _ (by simp), World.cell?_setCell_other _ _ _ _ (by simp), World.cell?_setCell_other _ _ _ _ (by simp), k11]; rfl
  · rw [World.cell?_setCell_other _ _ _ _ (by simp), World.cell?_setCell_other _ _ _ _ (by simp), World.cell?_setCell_other _ _ _ _ (by simp), World.cell?_setCell_other _ _ _ _ (by simp), World.cell?_setCell_other _ _ _ _ (by simp), World.cell?_setCell_other _ _ _ _ (by simp), World.cell?_setCell_other _ _ _ _ (by simp), World.cell?_setCell_other _ _ _ _ (by simp), World.cell?_setCell_other _ _ _ _ (by simp), World.cell?_setCell_other _ _ _ _ (by simp), World.cell?_setCell_other _ _ _ _ (by simp), World.cell?_setCell_other _ _ _ _ (by simp), k12]; rfl
  · rw [World.cell?_setCell_other _ _ _ _ (by simp), World.cell?_setCell_other _ _ _ _ (by simp), World.cell?_setCell_other _ _ _ _ (by simp), World.cell?_setCell_other _ _ _ _ (by simp), World.cell?_setCell_other _ _ _ _ (by simp), World.cell?_setCell_other _ _ _ _ (by simp), World.cell?_setCell_other _ _ _ _ (by simp), World.cell?_setCell_other _ _ _ _ (by simp), World.cell?_setCell_other _ _ _ _ (by simp), World.cell?_setCell_other _ _ _ _ (by simp), World.cell?_setCell_other _ _ _ _ (by simp), World.cell?_setCell_other _ _ _ _ (by simp), World.cell?_setCell_other _ _ _ _ (by simp), k13]; rfl
  · rw [World.cell?_setCell_other _ _ _ _ (by simp), World.cell?_setCell_other _ _ _ _ (by simp), World.cell?_setCell_other _ _ _ _ (by simp), World.cell?_setCell_other _ _ _ _ (by simp), World.cell?_setCell_other _ _ _ _ (by simp), World.cell?_setCell_other _ _ _ _ (by simp), World.cell?_setCell_other _ _ _ _ (by simp), World.cell?_setCell_other _ _ _ _ (by simp), World.cell?_setCell_other _ _ _ _ (by simp), World.cell?_setCell_other _ _ _ _ (by simp), World.cell?_setCell_other _ _ _ _ (by simp), World.cell?_setCell_other _ _ _ _ (by simp), World.cell?_setCell_other _ _ _ _ (by simp), World.cell?_setCell_other _ _ _ _ (by simp), k14]; rfl
  · rw [World.cell?_setCell_other _ _ _ _ (by simp), World.cell?_setCell_other _ _ _ _ (by simp), World.cell?_setCell_other _ _ _ _ (by simp), World.cell?_setCell_other _ _ _ _ (by simp), World.cell?_setCell_other _ _ _ _ (by simp), World.cell?_setCell_other _ _ _ _ (by simp), World.cell?_setCell_other _ _ _ _ (by simp), World.cell?_setCell_other _ _ _ _ (by simp), World.cell?_setCell_other _ _ _ _ (by simp), World.cell?_setCell_other _ _ _ _ (by simp), World.cell?_setCell_other _ _ _ _ (by simp), World.cell?_setCell_other _ _ _ _ (by simp), World.cell?_setCell_other _ _ _ _ (by simp), World.cell?_setCell_other _ _ _ _ (by simp), World.cell?_setCell_other _ _ _ _ (by simp), k15]; rfl
  · rw [World.cell?_setCell_other _ _ _ _ (by simp), World.cell?_setCell_other _ _ _ _ (by simp), World.cell?_setCell_other _ _ _ _ (by simp), World.cell?_setCell_other _ _ _ _ (by simp), World.cell?_setCell_other _ _ _ _ (by simp), World.cell?_setCell_other _ _ _ _ (by simp), World.cell?_setCell_other _ _ _ _ (by simp), World.cell?_setCell_other _ _ _ _ (by simp), World.cell?_setCell_other _ _ _ _ (by simp), World.cell?_setCell_other _ _ _ _ (by simp), World.cell?_setCell_other _ _ _ _ (by simp), World.cell?_setCell_other _ _ _ _ (by simp), World.cell?_setCell_other _ _ _ _ (by simp), World.cell?_setCell_other _ _ _ _ (by simp), World.cell?_setCell_other _ _ _ _ (by simp), World.cell?_setCell_other _ _ _ _ (by simp), k16]; rfl

set_option maxRecDepth 100000 in
set_option maxHeartbeats 1600000 in
theorem number_any (g b off len c K : Nat) (n : Int) (w : World) (h1 : w.cell? ⟨g, 4, none⟩ = some (.slice (some ⟨b, off, none⟩) len c)) (h2 : w.cell? ⟨b, off + K * 5 + 2, none⟩ = some (.int .i64 n)) (hK : K < len) (hl : len ≤ 1000000) :
    Calls Tryz.prog 42 #[.int .i64 ((K : Int) + 1), .pointer (some ⟨g, 0, none⟩)] w fun e w' => e = .returned (.int .i64 n) ∧ w = w' := by
  have e1 : (K : Int) + 1 - 1 = (K : Int) := by omega
  have k0 : (0 : Int) ≤ (K : Int) := by omega
  have k1 : (K : Int) < (len : Int) := by omega
  go_enter Tryz.func42, Tryz.ntmps42
  go_wp2
  go_ret
  exact ⟨rfl, rfl⟩
end Go.Proofs.YtdaccamiipknmaaGreatDoor
