/- item.Encode: an item as a tree: a contract. Conditions: those of each theorem. item.Decode: an item out of its tree: a contract. Conditions: those of each theorem. The reference's Diff: a contract. Conditions: those of each theorem. -/
import Derived.Test.YtgaepmddbjdhfaaGreatDoorP12
import Derived.Test.YtgaepmddbjdhfaaGreatDoorP25
import Derived.Shelf.Abstract
namespace Go.Proofs.YtgaepmddbjdhfaaGreatDoor
open Go.RowKit Go.Shelf

/-- The nodes of an item's fields. -/
def flds (it : It.Item) : List Nd := [.mk 1 1 it.id ⟨#[]⟩ [], .mk 2 1 it.ver ⟨#[]⟩ [], .mk 3 1 it.kind ⟨#[]⟩ [], .mk 4 2 0 it.stem [], .mk 5 3 0 ⟨#[]⟩ (it.opts.map leafS), .mk 6 3 0 ⟨#[]⟩ (it.chs.map leafI), .mk 7 1 it.value ⟨#[]⟩ [], .mk 8 1 it.tol ⟨#[]⟩ [], .mk 9 3 0 ⟨#[]⟩ (it.texts.map leafS), .mk 10 1 it.pts ⟨#[]⟩ [], .mk 11 2 0 it.cont [], .mk 12 1 it.fam ⟨#[]⟩ [], .mk 13 1 it.set_ ⟨#[]⟩ [], .mk 14 1 it.wrd ⟨#[]⟩ [], .mk 15 1 it.sec ⟨#[]⟩ [], .mk 16 3 0 ⟨#[]⟩ (it.assets.map leafI), .mk 17 1 it.rub ⟨#[]⟩ []]
/-- An item as a tree. -/
def tree (it : It.Item) : Nd := .mk 14 3 0 ⟨#[]⟩ (flds it)
/-- A list of nodes laid in a new block. -/
theorem kids_block {B lo d : Nat} {w : World} {ks : List Nd} {Ms : List (Option Addr × Nat)} (T : TypeId) (hl : Ms.length = ks.length) (hk : ∀ (i : Nat) (x : Nd) (M : Option Addr × Nat), ks[i]? = some x → Ms[i]? = some M → KidsAt B lo d w M x.kids) (hB : ks.length ≤ B) (hm : ks.length ≤ maxLen) (hlo : lo ≤ w.heap.size) :
    KidsAt B lo (d + 1) (w.alloc (.cells ((List.zipWith ndc ks Ms).flatten).toArray T)) (some ⟨w.heap.size, 0, none⟩, ks.length) ks := by
  refine ⟨hB, Nat.le_refl _, hm, Or.inr ⟨w.heap.size, 0, Ms, rfl, hlo, by simp, hl, fun i x M hx hM => ⟨fun j v hv => ?_, (hk i x M hx hM).ext ((Ext.refl _).alloc _)⟩⟩⟩
  rw [World.cell?_alloc_new, Nat.zero_add]
  have hz : (List.zipWith ndc ks Ms)[i]? = some (ndc x M) := by rw [List.getElem?_zipWith, hx, hM]
  have := flatten_at (k := 5) (xs := List.zipWith ndc ks Ms) (fun c hc => by
    obtain ⟨i, hi, rfl⟩ := List.mem_iff_getElem.1 hc
    rw [List.getElem_zipWith]; rfl) hz hv
  simpa using this
/-- The item's box. -/
def BoxI (it : It.Item) (L : It.Loc) (g : Nat) (w : World) : Prop := g < w.heap.size ∧ ∀ i v, (It.cells it L)[i]? = some v → w.cell? ⟨g, i, none⟩ = some v
theorem BoxI.ext {it : It.Item} {L : It.Loc} {g : Nat} {w w' : World} (h : BoxI it L g w) (he : Ext w w') : BoxI it L g w' := ⟨Nat.lt_of_lt_of_le h.1 he.size, fun i v hv => he.keep (h.2 i v hv)⟩
theorem BoxI.set {it : It.Item} {L : It.Loc} {g : Nat} {w : World} (h : BoxI it L g w) {p : Addr} (hp : p.block ≠ g) (v : Value) : BoxI it L g (w.setCell p v) :=
  ⟨by simpa using h.1, fun i u hu => by rw [World.cell?_of_block (w := w) (w' := w.setCell p v) (Below.heap_setCell _ _ _ _ (Ne.symm hp))]; exact h.2 i u hu⟩
/-- A fact that stands while the world grows, and while the result is stored. -/
def Stb (g : Nat) (p : Option Value → World → Prop) : Prop := (∀ u w w', Ext w w' → p u w → p u w') ∧ ∀ u w i v, p u w → p u (w.setCell ⟨g + 1, i, none⟩ v)
theorem stb_val (g : Nat) (v : Value) : Stb g (fun u _ => u = some v) := ⟨fun _ _ _ _ h => h, fun _ _ _ _ h => h⟩
theorem stb_true (g : Nat) : Stb g (fun _ _ => True) := ⟨fun _ _ _ _ _ => trivial, fun _ _ _ _ _ => trivial⟩
theorem stb_nd (g B d : Nat) (x : Nd) : Stb g (fun u w => ∃ M : Option Addr × Nat, u = some (nda x M) ∧ KidsAt B (g + 2) d w M x.kids) :=
  ⟨fun _ _ _ he ⟨M, e, h⟩ => ⟨M, e, h.ext he⟩, fun _ _ _ _ ⟨M, e, h⟩ => ⟨M, e, h.setCell (Nat.lt_succ_self _)⟩⟩
theorem stb_sl (g B d n : Nat) (ks : List Nd) : Stb g (fun u w => ∃ q : Nat, u = some (.slice (some ⟨q, 0, none⟩) n n) ∧ KidsAt B (g + 2) d w (some ⟨q, 0, none⟩, n) ks) :=
  ⟨fun _ _ _ he ⟨M, e, h⟩ => ⟨M, e, h.ext he⟩, fun _ _ _ _ ⟨M, e, h⟩ => ⟨M, e, h.setCell (Nat.lt_succ_self _)⟩⟩
def AllStb (g : Nat) : List (Option Value → World → Prop) → Prop
  | [] => True
  | p :: l => Stb g p ∧ AllStb g l
theorem AllStb.at_ {g : Nat} : ∀ {l : List (Option Value → World → Prop)}, AllStb g l → ∀ j, Stb g (l.getD j fun _ _ => True)
  | [], _, j => by simpa using stb_true g
  | p :: l, h, 0 => h.1
  | p :: l, h, j + 1 => by simpa using AllStb.at_ h.2 j

def encD : List Nat := [11, 12, 13, 14, 15, 16, 17, 18, 19, 20, 21, 22, 23, 24, 25, 26, 27, 28, 29, 30, 31, 32, 33, 34, 35, 36, 37, 38, 39, 40, 41, 42, 43, 44, 45, 46, 47, 48, 49, 50, 51, 52, 53, 54, 55, 56, 57, 58, 59, 60, 61, 62, 63, 1000, 3, 1001]
def encE (g : Nat) (t : Array Value) : Prop := t.getD 1 undef = .pointer (some ⟨g, 0, none⟩) ∧ t.getD 2 undef = .pointer (some ⟨g + 1, 0, none⟩) ∧ t.size = 64
theorem kids_all17 (it : It.Item) (lo : Nat) (w : World) {M0 : Option Addr × Nat} (k0 : KidsAt 1000 lo 1 w M0 (Nd.kids (.mk 1 1 it.id ⟨#[]⟩ []))) {M1 : Option Addr × Nat} (k1 : KidsAt 1000 lo 1 w M1 (Nd.kids (.mk 2 1 it.ver ⟨#[]⟩ []))) {M2 : Option Addr × Nat} (k2 : KidsAt 1000 lo 1 w M2 (Nd.kids (.mk 3 1 it.kind ⟨#[]⟩ []))) {M3 : Option Addr × Nat} (k3 : KidsAt 1000 lo 1 w M3 (Nd.kids (.mk 4 2 0 it.stem []))) {M4 : Option Addr × Nat} (k4 : KidsAt 1000 lo 1 w M4 (Nd.kids (.mk 5 3 0 ⟨#[]⟩ (it.opts.map leafS)))) {M5 : Option Addr × Nat} (k5 : KidsAt 1000 lo 1 w M5 (Nd.kids (.mk 6 3 0 ⟨#[]⟩ (it.chs.map leafI)))) {M6 : Option Addr × Nat} (k6 : KidsAt 1000 lo 1 w M6 (Nd.kids (.mk 7 1 it.value ⟨#[]⟩ []))) {M7 : Option Addr × Nat} (k7 : KidsAt 1000 lo 1 w M7 (Nd.kids (.mk 8 1 it.tol ⟨#[]⟩ []))) {M8 : Option Addr × Nat} (k8 : KidsAt 1000 lo 1 w M8 (Nd.kids (.mk 9 3 0 ⟨#[]⟩ (it.texts.map leafS)))) {M9 : Option Addr × Nat} (k9 : KidsAt 1000 lo 1 w M9 (Nd.kids (.mk 10 1 it.pts ⟨#[]⟩ []))) {M10 : Option Addr × Nat} (k10 : KidsAt 1000 lo 1 w M10 (Nd.kids (.mk 11 2 0 it.cont []))) {M11 : Option Addr × Nat} (k11 : KidsAt 1000 lo 1 w M11 (Nd.kids (.mk 12 1 it.fam ⟨#[]⟩ []))) {M12 : Option Addr × Nat} (k12 : KidsAt 1000 lo 1 w M12 (Nd.kids (.mk 13 1 it.set_ ⟨#[]⟩ []))) {M13 : Option Addr × Nat} (k13 : KidsAt 1000 lo 1 w M13 (Nd.kids (.mk 14 1 it.wrd ⟨#[]⟩ []))) {M14 : Option Addr × Nat} (k14 : KidsAt 1000 lo 1 w M14 (Nd.kids (.mk 15 1 it.sec ⟨#[]⟩ []))) {M15 : Option Addr × Nat} (k15 : KidsAt 1000 lo 1 w M15 (Nd.kids (.mk 16 3 0 ⟨#[]⟩ (it.assets.map leafI)))) {M16 : Option Addr × Nat} (k16 : KidsAt 1000 lo 1 w M16 (Nd.kids (.mk 17 1 it.rub ⟨#[]⟩ []))) :
    ∀ (i : Nat) (x : Nd) (M : Option Addr × Nat), (flds it)[i]? = some x → [M0, M1, M2, M3, M4, M5, M6, M7, M8, M9, M10, M11, M12, M13, M14, M15, M16][i]? = some M → KidsAt 1000 lo 1 w M x.kids := by
  intro i x M hx hM
  match i, hx, hM with
  | 0, hx, hM => obtain rfl := Option.some.inj hx; obtain rfl := Option.some.inj hM; exact k0
  | 1, hx, hM => obtain rfl := Option.some.inj hx; obtain rfl := Option.some.inj hM; exact k1
  | 2, hx, hM => obtain rfl := Option.some.inj hx; obtain rfl := Option.some.inj hM; exact k2
  | 3, hx, hM => obtain rfl := Option.some.inj hx; obtain rfl := Option.some.inj hM; exact k3
  | 4, hx, hM => obtain rfl := Option.some.inj hx; obtain rfl := Option.some.inj hM; exact k4
  | 5, hx, hM => obtain rfl := Option.some.inj hx; obtain rfl := Option.some.inj hM; exact k5
  | 6, hx, hM => obtain rfl := Option.some.inj hx; obtain rfl := Option.some.inj hM; exact k6
  | 7, hx, hM => obtain rfl := Option.some.inj hx; obtain rfl := Option.some.inj hM; exact k7
  | 8, hx, hM => obtain rfl := Option.some.inj hx; obtain rfl := Option.some.inj hM; exact k8
  | 9, hx, hM => obtain rfl := Option.some.inj hx; obtain rfl := Option.some.inj hM; exact k9
  | 10, hx, hM => obtain rfl := Option.some.inj hx; obtain rfl := Option.some.inj hM; exact k10
  | 11, hx, hM => obtain rfl := Option.some.inj hx; obtain rfl := Option.some.inj hM; exact k11
  | 12, hx, hM => obtain rfl := Option.some.inj hx; obtain rfl := Option.some.inj hM; exact k12
  | 13, hx, hM => obtain rfl := Option.some.inj hx; obtain rfl := Option.some.inj hM; exact k13
  | 14, hx, hM => obtain rfl := Option.some.inj hx; obtain rfl := Option.some.inj hM; exact k14
  | 15, hx, hM => obtain rfl := Option.some.inj hx; obtain rfl := Option.some.inj hM; exact k15
  | 16, hx, hM => obtain rfl := Option.some.inj hx; obtain rfl := Option.some.inj hM; exact k16
  | i + 17, hx, _ => exact absurd hx (by simp [flds])
end Go.Proofs.YtgaepmddbjdhfaaGreatDoor
namespace Go.Proofs.YtgaepmddbjdhfaaGreatDoor
open Go.RowKit Go.Shelf

/-- The item that the nodes of a tree say. -/
def itemOf (ks : List Nd) : It.Item := ⟨(ks.getD 0 default).n, (ks.getD 1 default).n, (ks.getD 2 default).n, (ks.getD 3 default).s, (ks.getD 4 default).kids.map Nd.s, (ks.getD 5 default).kids.map Nd.n, (ks.getD 6 default).n, (ks.getD 7 default).n, (ks.getD 8 default).kids.map Nd.s, (ks.getD 9 default).n, (ks.getD 10 default).s, (ks.getD 11 default).n, (ks.getD 12 default).n, (ks.getD 13 default).n, (ks.getD 14 default).n, (ks.getD 15 default).kids.map Nd.n, (ks.getD 16 default).n⟩
/-- Where an item's lists lie, in blocks of their own kind. -/
structure InX (w : World) (it : It.Item) (L : It.Loc) : Prop where
  o : SlS w L.oA it.opts
  c : SlI w L.cA it.chs
  t : SlS w L.tA it.texts
  s : SlI w L.sA it.assets
  oc : it.opts.length ≤ L.oc ∧ L.oc ≤ maxLen
  cc : it.chs.length ≤ L.cc ∧ L.cc ≤ maxLen
  tc : it.texts.length ≤ L.tc ∧ L.tc ≤ maxLen
  sc : it.assets.length ≤ L.sc ∧ L.sc ≤ maxLen
  ob : TyB w L.oA 9
  cb : TyB w L.cA 3
  tb : TyB w L.tA 9
  sb : TyB w L.sA 3
theorem InX.ext {w w' : World} {it : It.Item} {L : It.Loc} (h : InX w it L) (he : Ext w w') : InX w' it L :=
  ⟨h.o.ext he, h.c.ext he, h.t.ext he, h.s.ext he, h.oc, h.cc, h.tc, h.sc, h.ob.ext he, h.cb.ext he, h.tb.ext he, h.sb.ext he⟩
theorem InX.in_ {w : World} {it : It.Item} {L : It.Loc} (h : InX w it L) (hok : It.Ok it) : It.In w it L := ⟨hok, h.o, h.c, h.t, h.s, h.oc, h.cc, h.tc, h.sc⟩
theorem TyB.other {w : World} {A : Option Addr} {t t' : TypeId} {q : Nat} {cs : Array Value} {fr : Nat × Nat} (h : TyB w A t) (hq : w.heap[q]? = some (.cells cs t' fr)) (hne : t ≠ t') : ∀ a, A = some a → a.block ≠ q := by
  rintro a ha rfl
  obtain ⟨cur, h1⟩ := h a ha
  rw [hq] at h1
  injection h1 with h1
  injection h1 with _ ht
  exact hne ht.symm
theorem TyB.setCell {w : World} {A : Option Addr} {t : TypeId} (h : TyB w A t) {p : Addr} (hp : ∀ a, A = some a → a.block ≠ p.block) (v : Value) : TyB (w.setCell p v) A t := fun a ha => by
  obtain ⟨cur, h1⟩ := h a ha
  exact ⟨cur, by rw [Below.heap_setCell _ _ _ _ (hp a ha)]; exact h1⟩
/-- A block of an item's cells. -/
def BlkI (w : World) (q : Nat) : Prop := ∃ cs : Array Value, w.heap[q]? = some (.cells cs 55 (0, 0)) ∧ cs.size = 17
theorem BlkI.ext {w w' : World} {q : Nat} (h : BlkI w q) (he : Ext w w') : BlkI w' q := by obtain ⟨cs, h1, h2⟩ := h; exact ⟨cs, he.blockAt h1, h2⟩
theorem BlkI.cell {w : World} {q : Nat} (h : BlkI w q) {i : Nat} (hi : i < 17) : ∃ v, w.cell? ⟨q, i, none⟩ = some v := by
  obtain ⟨cs, h1, h2⟩ := h
  exact ⟨cs[i], by rw [cell_of_row w q i cs _ _ h1]; exact Array.getElem?_eq_getElem (by omega)⟩
theorem BlkI.free {w : World} {q : Nat} (h : BlkI w q) (i : Nat) : w.frozen? ⟨q, i, none⟩ = false := by
  obtain ⟨cs, h1, h2⟩ := h
  simp [World.frozen?, h1]
theorem BlkI.lt {w : World} {q : Nat} (h : BlkI w q) : q < w.heap.size := by
  obtain ⟨cs, h1, _⟩ := h
  rcases Nat.lt_or_ge q w.heap.size with g | g
  · exact g
  · rw [Array.getElem?_eq_none g] at h1; cases h1
theorem BlkI.set {w : World} {q : Nat} (h : BlkI w q) (i : Nat) (v : Value) : BlkI (w.setCell ⟨q, i, none⟩ v) q := by
  obtain ⟨cs, h1, h2⟩ := h
  exact ⟨cs.setIfInBounds i v, by simp [World.setCell, Array.getElem?_modify, h1], by simpa using h2⟩
theorem InX.set {w : World} {it : It.Item} {L : It.Loc} (h : InX w it L) {q : Nat} (hq : BlkI w q) (i : Nat) (v : Value) : InX (w.setCell ⟨q, i, none⟩ v) it L := by
  obtain ⟨cs, h1, h2⟩ := hq
  have o := h.ob.other h1 (by decide)
  have c := h.cb.other h1 (by decide)
  have t := h.tb.other h1 (by decide)
  have s := h.sb.other h1 (by decide)
  exact ⟨Sl.setCell h.o o v, Sl.setCell h.c c v, Sl.setCell h.t t v, Sl.setCell h.s s v, h.oc, h.cc, h.tc, h.sc, h.ob.setCell o v, h.cb.setCell c v, h.tb.setCell t v, h.sb.setCell s v⟩

/-- An item's cells, stored one after another. -/
abbrev put17 (w : World) (q : Nat) (v0 v1 v2 v3 v4 v5 v6 v7 v8 v9 v10 v11 v12 v13 v14 v15 v16 : Value) : World := (((((((((((((((((w.setCell ⟨q, 0, none⟩ v0).setCell ⟨q, 1, none⟩ v1).setCell ⟨q, 2, none⟩ v2).setCell ⟨q, 3, none⟩ v3).setCell ⟨q, 4, none⟩ v4).setCell ⟨q, 5, none⟩ v5).setCell ⟨q, 6, none⟩ v6).setCell ⟨q, 7, none⟩ v7).setCell ⟨q, 8, none⟩ v8).setCell ⟨q, 9, none⟩ v9).setCell ⟨q, 10, none⟩ v10).setCell ⟨q, 11, none⟩ v11).setCell ⟨q, 12, none⟩ v12).setCell ⟨q, 13, none⟩ v13).setCell ⟨q, 14, none⟩ v14).setCell ⟨q, 15, none⟩ v15).setCell ⟨q, 16, none⟩ v16)
theorem put17_block {w : World} {q : Nat} (h : BlkI w q) (v0 v1 v2 v3 v4 v5 v6 v7 v8 v9 v10 v11 v12 v13 v14 v15 v16 : Value) : (put17 w q v0 v1 v2 v3 v4 v5 v6 v7 v8 v9 v10 v11 v12 v13 v14 v15 v16).heap[q]? = some (.cells #[v0, v1, v2, v3, v4, v5, v6, v7, v8, v9, v10, v11, v12, v13, v14, v15, v16] 55 (0, 0)) := by
  obtain ⟨cs, h1, h2⟩ := h
  obtain ⟨c0, c1, c2, c3, c4, c5, c6, c7, c8, c9, c10, c11, c12, c13, c14, c15, c16, rfl⟩ : ∃ c0 c1 c2 c3 c4 c5 c6 c7 c8 c9 c10 c11 c12 c13 c14 c15 c16, cs = #[c0, c1, c2, c3, c4, c5, c6, c7, c8, c9, c10, c11, c12, c13, c14, c15, c16] := by
    obtain ⟨l⟩ := cs
    match l, h2 with
    | [c0, c1, c2, c3, c4, c5, c6, c7, c8, c9, c10, c11, c12, c13, c14, c15, c16], _ => exact ⟨c0, c1, c2, c3, c4, c5, c6, c7, c8, c9, c10, c11, c12, c13, c14, c15, c16, rfl⟩
  simp [World.setCell, Array.getElem?_modify, h1]
theorem put17_ext {a w : World} {q : Nat} (h : Ext a w) (hq : a.heap.size ≤ q) (v0 v1 v2 v3 v4 v5 v6 v7 v8 v9 v10 v11 v12 v13 v14 v15 v16 : Value) : Ext a (put17 w q v0 v1 v2 v3 v4 v5 v6 v7 v8 v9 v10 v11 v12 v13 v14 v15 v16) :=
  ((((((((((((((((h.setCell hq _).setCell hq _).setCell hq _).setCell hq _).setCell hq _).setCell hq _).setCell hq _).setCell hq _).setCell hq _).setCell hq _).setCell hq _).setCell hq _).setCell hq _).setCell hq _).setCell hq _).setCell hq _).setCell hq _
theorem seen17 {w : World} {q : Nat} (h : BlkI w q) (v0 v1 v2 v3 v4 v5 v6 v7 v8 v9 v10 v11 v12 v13 v14 v15 v16 : Value) :
    (w.setCell ⟨q, 0, none⟩ v0).cell? ⟨q, 0, none⟩ = some v0 ∧
    ((w.setCell ⟨q, 0, none⟩ v0).setCell ⟨q, 1, none⟩ v1).cell? ⟨q, 1, none⟩ = some v1 ∧
    (((w.setCell ⟨q, 0, none⟩ v0).setCell ⟨q, 1, none⟩ v1).setCell ⟨q, 2, none⟩ v2).cell? ⟨q, 2, none⟩ = some v2 ∧
    ((((w.setCell ⟨q, 0, none⟩ v0).setCell ⟨q, 1, none⟩ v1).setCell ⟨q, 2, none⟩ v2).setCell ⟨q, 3, none⟩ v3).cell? ⟨q, 3, none⟩ = some v3 ∧
    (((((w.setCell ⟨q, 0, none⟩ v0).setCell ⟨q, 1, none⟩ v1).setCell ⟨q, 2, none⟩ v2).setCell ⟨q, 3, none⟩ v3).setCell ⟨q, 4, none⟩ v4).cell? ⟨q, 4, none⟩ = some v4 ∧
    ((((((w.setCell ⟨q, 0, none⟩ v0).setCell ⟨q, 1, none⟩ v1).setCell ⟨q, 2, none⟩ v2).setCell ⟨q, 3, none⟩ v3).setCell ⟨q, 4, none⟩ v4).setCell ⟨q, 5, none⟩ v5).cell? ⟨q, 5, none⟩ = some v5 ∧
    (((((((w.setCell ⟨q, 0, none⟩ v0).setCell ⟨q, 1, none⟩ v1).setCell ⟨q, 2, none⟩ v2).setCell ⟨q, 3, none⟩ v3).setCell ⟨q, 4, none⟩ v4).setCell ⟨q, 5, none⟩ v5).setCell ⟨q, 6, none⟩ v6).cell? ⟨q, 6, none⟩ = some v6 ∧
    ((((((((w.setCell ⟨q, 0, none⟩ v0).setCell ⟨q, 1, none⟩ v1).setCell ⟨q, 2, none⟩ v2).setCell ⟨q, 3, none⟩ v3).setCell ⟨q, 4, none⟩ v4).setCell ⟨q, 5, none⟩ v5).setCell ⟨q, 6, none⟩ v6).setCell ⟨q, 7, none⟩ v7).cell? ⟨q, 7, none⟩ = some v7 ∧
    (((((((((w.setCell ⟨q, 0, none⟩ v0).setCell ⟨q, 1, none⟩ v1).setCell ⟨q, 2, none⟩ v2).setCell ⟨q, 3, none⟩ v3).setCell ⟨q, 4, none⟩ v4).setCell ⟨q, 5, none⟩ v5).setCell ⟨q, 6, none⟩ v6).setCell ⟨q, 7, none⟩ v7).setCell ⟨q, 8, none⟩ v8).cell? ⟨q, 8, none⟩ = some v8 ∧
    ((((((((((w.setCell ⟨q, 0, none⟩ v0).setCell ⟨q, 1, none⟩ v1).setCell ⟨q, 2, none⟩ v2).setCell ⟨q, 3, none⟩ v3).setCell ⟨q, 4, none⟩ v4).setCell ⟨q, 5, none⟩ v5).setCell ⟨q, 6, none⟩ v6).setCell ⟨q, 7, none⟩ v7).setCell ⟨q, 8, none⟩ v8).setCell ⟨q, 9, none⟩ v9).cell? ⟨q, 9, none⟩ = some v9 ∧
    (((((((((((w.setCell ⟨q, 0, none⟩ v0).setCell ⟨q, 1, none⟩ v1).setCell ⟨q, 2, none⟩ v2).setCell ⟨q, 3, none⟩ v3).setCell ⟨q, 4, none⟩ v4).setCell ⟨q, 5, none⟩ v5).setCell ⟨q, 6, none⟩ v6).setCell ⟨q, 7, none⟩ v7).setCell ⟨q, 8, none⟩ v8).setCell ⟨q, 9, none⟩ v9).setCell ⟨q, 10, none⟩ v10).cell? ⟨q, 10, none⟩ = some v10 ∧
    ((((((((((((w.setCell ⟨q, 0, none⟩ v0).setCell ⟨q, 1, none⟩ v1).setCell ⟨q, 2, none⟩ v2).setCell ⟨q, 3, none⟩ v3).setCell ⟨q, 4, none⟩ v4).setCell ⟨q, 5, none⟩ v5).setCell ⟨q, 6, none⟩ v6).setCell ⟨q, 7, none⟩ v7).setCell ⟨q, 8, none⟩ v8).setCell ⟨q, 9, none⟩ v9).setCell ⟨q, 10, none⟩ v10).setCell ⟨q, 11, none⟩ v11).cell? ⟨q, 11, none⟩ = some v11 ∧
    (((((((((((((w.setCell ⟨q, 0, none⟩ v0).setCell ⟨q, 1, none⟩ v1).setCell ⟨q, 2, none⟩ v2).setCell ⟨q, 3, none⟩ v3).setCell ⟨q, 4, none⟩ v4).setCell ⟨q, 5, none⟩ v5).setCell ⟨q, 6, none⟩ v6).setCell ⟨q, 7, none⟩ v7).setCell ⟨q, 8, none⟩ v8).setCell ⟨q, 9, none⟩ v9).setCell ⟨q, 10, none⟩ v10).setCell ⟨q, 11, none⟩ v11).setCell ⟨q, 12, none⟩ v12).cell? ⟨q, 12, none⟩ = some v12 ∧
    ((((((((((((((w.setCell ⟨q, 0, none⟩ v0).setCell ⟨q, 1, none⟩ v1).setCell ⟨q, 2, none⟩ v2).setCell ⟨q, 3, none⟩ v3).setCell ⟨q, 4, none⟩ v4).setCell ⟨q, 5, none⟩ v5).setCell ⟨q, 6, none⟩ v6).setCell ⟨q, 7, none⟩ v7).setCell ⟨q, 8, none⟩ v8).setCell ⟨q, 9, none⟩ v9).setCell ⟨q, 10, none⟩ v10).setCell ⟨q, 11, none⟩ v11).setCell ⟨q, 12, none⟩ v12).setCell ⟨q, 13, none⟩ v13).cell? ⟨q, 13, none⟩ = some v13 ∧
    (((((((((((((((w.setCell ⟨q, 0, none⟩ v0).setCell ⟨q, 1, none⟩ v1).setCell ⟨q, 2, none⟩ v2).setCell ⟨q, 3, none⟩ v3).setCell ⟨q, 4, none⟩ v4).setCell ⟨q, 5, none⟩ v5).setCell ⟨q, 6, none⟩ v6).setCell ⟨q, 7, none⟩ v7).setCell ⟨q, 8, none⟩ v8).setCell ⟨q, 9, none⟩ v9).setCell ⟨q, 10, none⟩ v10).setCell ⟨q, 11, none⟩ v11).setCell ⟨q, 12, none⟩ v12).setCell ⟨q, 13, none⟩ v13).setCell ⟨q, 14, none⟩ v14).cell? ⟨q, 14, none⟩ = some v14 ∧
    ((((((((((((((((w.setCell ⟨q, 0, none⟩ v0).setCell ⟨q, 1, none⟩ v1).setCell ⟨q, 2, none⟩ v2).setCell ⟨q, 3, none⟩ v3).setCell ⟨q, 4, none⟩ v4).setCell ⟨q, 5, none⟩ v5).setCell ⟨q, 6, none⟩ v6).setCell ⟨q, 7, none⟩ v7).setCell ⟨q, 8, none⟩ v8).setCell ⟨q, 9, none⟩ v9).setCell ⟨q, 10, none⟩ v10).setCell ⟨q, 11, none⟩ v11).setCell ⟨q, 12, none⟩ v12).setCell ⟨q, 13, none⟩ v13).setCell ⟨q, 14, none⟩ v14).setCell ⟨q, 15, none⟩ v15).cell? ⟨q, 15, none⟩ = some v15 ∧
    (((((((((((((((((w.setCell ⟨q, 0, none⟩ v0).setCell ⟨q, 1, none⟩ v1).setCell ⟨q, 2, none⟩ v2).setCell ⟨q, 3, none⟩ v3).setCell ⟨q, 4, none⟩ v4).setCell ⟨q, 5, none⟩ v5).setCell ⟨q, 6, none⟩ v6).setCell ⟨q, 7, none⟩ v7).setCell ⟨q, 8, none⟩ v8).setCell ⟨q, 9, none⟩ v9).setCell ⟨q, 10, none⟩ v10).setCell ⟨q, 11, none⟩ v11).setCell ⟨q, 12, none⟩ v12).setCell ⟨q, 13, none⟩ v13).setCell ⟨q, 14, none⟩ v14).setCell ⟨q, 15, none⟩ v15).setCell ⟨q, 16, none⟩ v16).cell? ⟨q, 16, none⟩ = some v16 := by
  obtain ⟨c0, k0⟩ := h.cell (i := 0) (by omega)
  obtain ⟨c1, k1⟩ := h.cell (i := 1) (by omega)
  obtain ⟨c2, k2⟩ := h.cell (i := 2) (by omega)
  obtain ⟨c3, k3⟩ := h.cell (i := 3) (by omega)
  obtain ⟨c4, k4⟩ := h.cell (i := 4) (by omega)
  obtain ⟨c5, k5⟩ := h.cell (i := 5) (by omega)
  obtain ⟨c6, k6⟩ := h.cell (i := 6) (by omega)
  obtain ⟨c7, k7⟩ := h.cell (i := 7) (by omega)
  obtain ⟨c8, k8⟩ := h.cell (i := 8) (by omega)
  obtain ⟨c9, k9⟩ := h.cell (i := 9) (by omega)
  obtain ⟨c10, k10⟩ := h.cell (i := 10) (by omega)
  obtain ⟨c11, k11⟩ := h.cell (i := 11) (by omega)
  obtain ⟨c12, k12⟩ := h.cell (i := 12) (by omega)
  obtain ⟨c13, k13⟩ := h.cell (i := 13) (by omega)
  obtain ⟨c14, k14⟩ := h.cell (i := 14) (by omega)
  obtain ⟨c15, k15⟩ := h.cell (i := 15) (by omega)
  obtain ⟨c16, k16⟩ := h.cell (i := 16) (by omega)
  refine ⟨World.cell?_setCell_same' _ _ _ ?_, World.cell?_setCell_same' _ _ _ ?_, World.cell?_setCell_same' _ _ _ ?_, World.cell?_setCell_same' _ _ _ ?_, World.cell?_setCell_same' _ _ _ ?_, World.cell?_setCell_same' _ _ _ ?_, World.cell?_setCell_same' _ _ _ ?_, World.cell?_setCell_same' _ _ _ ?_, World.cell?_setCell_same' _ _ _ ?_, World.cell?_setCell_same' _ _ _ ?_, World.cell?_setCell_same' _ _ _ ?_, World.cell?_setCell_same' _ _ _ ?_, World.cell?_setCell_same' _ _ _ ?_, World.cell?_setCell_same' _ _ _ ?_, World.cell?_setCell_same' _ _ _ ?_, World.cell?_setCell_same' _ _ _ ?_, World.cell?_setCell_same' _ _ _ ?_⟩
  · rw [k0]; rfl
  · rw [World.cell?_setCell_other _ _ _ _ (by simp), k1]; rfl
  · rw [World.cell?_setCell_other _ _ _ _ (by simp), World.cell?_setCell_other _ _ _ _ (by simp), k2]; rfl
  · rw [World.cell?_setCell_other _ _ _ _ (by simp), World.cell?_setCell_other _ _ _ _ (by simp), World.cell?_setCell_other _ _ _ _ (by simp), k3]; rfl
  · rw [World.cell?_setCell_other _ _ _ _ (by simp), World.cell?_setCell_other _ _ _ _ (by simp), World.cell?_setCell_other _ _ _ _ (by simp), World.cell?_setCell_other _ _ _ _ (by simp), k4]; rfl
  · rw [World.cell?_setCell_other _ _ _ _ (by simp), World.cell?_setCell_other _ _ _ _ (by simp), World.cell?_setCell_other _ _ _ _ (by simp), World.cell?_setCell_other _ _ _ _ (by simp), World.cell?_setCell_other _ _ _ _ (by simp), k5]; rfl
  · rw [World.cell?_setCell_other _ _ _ _ (by simp), World.cell?_setCell_other _ _ _ _ (by simp), World.cell?_setCell_other _ _ _ _ (by simp), World.cell?_setCell_other _ _ _ _ (by simp), World.cell?_setCell_other _ _ _ _ (by simp), World.cell?_setCell_other _ _ _ _ (by simp), k6]; rfl
  · rw [World.cell?_setCell_other _ _ _ _ (by simp), World.cell?_setCell_other _ _ _ _ (by simp), World.cell?_setCell_other _ _ _ _ (by simp), World.cell?_setCell_other _ _ _ _ (by simp), World.cell?_setCell_other _ _ _ _ (by simp), World.cell?_setCell_other _ _ _ _ (by simp), World.cell?_setCell_other _ _ _ _ (by simp), k7]; rfl
  · rw [World.cell?_setCell_other _ _ _ _ (by simp), World.cell?_setCell_other _ _ _ _ (by simp), World.cell?_setCell_other _ _ _ _ (by simp), World.cell?_setCell_other _ _ _ _ (by simp), World.cell?_setCell_other _ _ _ _ (by simp), World.cell?_setCell_other _ _ _ _ (by simp), World.cell?_setCell_other _ _ _ _ (by simp), World.cell?_setCell_other _ _ _ _ (by simp), k8]; rfl
  · rw [World.cell?_setCell_other _ _ _ _ (by simp), World.cell?_setCell_other _ _ _ _ (by simp), World.cell?_setCell_other _ _ _ _ (by simp), World.cell?_setCell_other _ _ _ _ (by simp), World.cell?_setCell_other _ _ _ _ (by simp), World.cell?_setCell_other _ _ _ _ (by simp), World.cell?_setCell_other _ _ _ _ (by simp), World.cell?_setCell_other _ _ _ _ (by simp), World.cell?_setCell_other _ _ _ _ (by simp), k9]; rfl
  · rw [World.cell?_setCell_other _ _ _ _ (by simp), World.cell?_setCell_other _ _ _ _ (by simp), World.cell?_setCell_other _ _ _ _ (by simp), World.cell?_setCell_other _ _ _ _ (by simp), World.cell?_setCell_other _ _ _ _ (by simp), World.cell?_setCell_other _ _ _ _ (by simp), World.cell?_setCell_other _ _ _ _ (by simp), World.cell?_setCell_other _ _ _ _ (by simp), World.cell?_setCell_other _ _ _ _ (by simp), World.cell?_setCell_other _ _ _ _ (by simp), k10]; rfl
  · rw [World.cell?_setCell_other _ _ _ _ (by simp), World.cell?_setCell_other _ _ _ _ (by simp), World.cell?_setCell_other _ _ _ _ (by simp), World.cell?_setCell_other _ _ _ _ (by simp), World.cell?_setCell_other _ _ _ _ (by simp), World.cell?_setCell_other _ _ _ _ (by simp), World.cell?_setCell_other _ _ _ _ (by simp), World.cell?_setCell_other _ _ _ _ (by simp), World.cell?_setCell_other _ _ _ _ (by simp), World.cell?_setCell_other _ _ _ _ (by simp), World.cell?_setCell_other _ _ _ _ (by simp), k11]; rfl
  · rw [World.cell?_setCell_other _ _ _ _ (by simp), World.cell?_setCell_other _ _ _ _ (by simp), World.cell?_setCell_other _ _ _ _ (by simp), World.cell?_setCell_other _ _ _ _ (by simp), World.cell?_setCell_other _ _ _ _ (by simp), World.cell?_setCell_other _ _ _ _ (by simp), World.cell?_setCell_other _ _ _ _ (by simp), World.cell?_setCell_other _ _ _ _ (by simp), World.cell?_setCell_other _ _ _ _ (by simp), World.cell?_setCell_other _ _ _ _ (by simp), World.cell?_setCell_other _ _ _ _ (by simp), World.cell?_setCell_other _ _ _ _ (by simp), k12]; rfl
  · rw [World.cell?_setCell_other _ _ _ _ (by simp), World.cell?_setCell_other _ _ _ _ (by simp), World.cell?_setCell_other _ _ _ _ (by simp), World.cell?_setCell_other _ _ _ _ (by simp), World.cell?_setCell_other _ _ _ _ (by simp), World.cell?_setCell_other _ _ _ _ (by simp), World.cell?_setCell_other _ _ _ _ (by simp), World.cell?_setCell_other _ _ _ _ (by simp), World.cell?_setCell_other _ _ _ _ (by simp), World.cell?_setCell_other _ _ _ _ (by simp), World.cell?_setCell_other _ _ _ _ (by simp), World.cell?_setCell_other _ _ _ _ (by simp), World.cell?_setCell_other _ _ _ _ (by simp), k13]; rfl
  · rw [World.cell?_setCell_other _ _ _ _ (by simp), World.cell?_setCell_other _ _ _ _ (by simp), World.cell?_setCell_other _ _ _ _ (by simp), World.cell?_setCell_other _ _ _ _ (by simp), World.cell?_setCell_other _ _ _ _ (by simp), World.cell?_setCell_other _ _ _ _ (by simp), World.cell?_setCell_other _ _ _ _ (by simp), World.cell?_setCell_other _ _ _ _ (by simp), World.cell?_setCell_other _ _ _ _ (by simp), World.cell?_setCell_other _ _ _ _ (by simp), World.cell?_setCell_other _ _ _ _ (by simp), World.cell?_setCell_other _ _ _ _ (by simp), World.cell?_setCell_other _ _ _ _ (by simp), World.cell?_setCell_other _ _ _ _ (by simp), k14]; rfl
  · rw [World.cell?_setCell_other _ _ _ _ (by simp), World.cell?_setCell_other _ _ _ _ (by simp), World.cell?_setCell_other _ _ _ _ (by simp), World.cell?_setCell_other _ _ _ _ (by simp), World.cell?_setCell_other _ _ _ _ (by simp), World.cell?_setCell_other _ _ _ _ (by simp), World.cell?_setCell_other _ _ _ _ (by simp), World.cell?_setCell_other _ _ _ _ (by simp), World.cell?_setCell_other _ _ _ _ (by simp), World.cell?_setCell_other _ _ _ _ (by simp), World.cell?_setCell_other _ _ _ _ (by simp), World.cell?_setCell_other _ _ _ _ (by simp), World.cell?_setCell_other _ _ _ _ (by simp), World.cell?_setCell_other _ _ _ _ (by simp), World.cell?_setCell_other _ _ _ _ (by simp), k15]; rfl
  · rw [World.cell?_setCell_other _ _ _ _ (by simp), World.cell?_setCell_other _ _ _ _ (by simp), World.cell?_setCell_other _ _ _ _ (by simp), World.cell?_setCell_other _ _ _ _ (by simp), World.cell?_setCell_other _ _ _ _ (by simp), World.cell?_setCell_other _ _ _ _ (by simp), World.cell?_setCell_other _ _ _ _ (by simp), World.cell?_setCell_other _ _ _ _ (by simp), World.cell?_setCell_other _ _ _ _ (by simp), World.cell?_setCell_other _ _ _ _ (by simp), World.cell?_setCell_other _ _ _ _ (by simp), World.cell?_setCell_other _ _ _ _ (by simp), World.cell?_setCell_other _ _ _ _ (by simp), World.cell?_setCell_other _ _ _ _ (by simp), World.cell?_setCell_other _ _ _ _ (by simp), World.cell?_setCell_other _ _ _ _ (by simp), k16]; rfl

end Go.Proofs.YtgaepmddbjdhfaaGreatDoor
namespace Go.Proofs.YtgaepmddbjdhfaaGreatDoor
open Go.RowKit Go.Shelf

theorem It.addL_at {a b : It.Item} {k : Nat} {d : Bool} {s : ByteArray} (h : (It.pairs a b)[k]? = some (d, s)) : It.addL (It.foldN ((It.pairs a b).take k)) d s = It.foldN ((It.pairs a b).take (k + 1)) := (It.foldN_snoc h).symm
theorem It.few (a b : It.Item) (k : Nat) : (It.foldN ((It.pairs a b).take k)).length ≤ 1000 := by
  have := It.foldN_le ((It.pairs a b).take k)
  have := List.length_take_le' k (It.pairs a b)
  have e : (It.pairs a b).length = 17 := rfl
  omega

set_option maxRecDepth 100000 in
set_option maxHeartbeats 64000000 in
theorem rdiff_any (a b : It.Item) (La Lb : It.Loc) (w : World) (ha : It.In w a La) (hb : It.In w b Lb) :
    Calls Tryz.prog 77 #[It.agg a La, It.agg b Lb] w fun e w' => (∃ (A : Option Addr) (c : Nat), e = .returned (.slice A (It.diff a b).length c) ∧ SlS w' A (It.diff a b) ∧ (It.diff a b).length ≤ c ∧ c ≤ maxLen) ∧ Ext w w' := by
  have HA := Lib.hid ha
  have HB := Lib.hid hb
  clear ha hb
  obtain ⟨B, hB⟩ : ∃ B, ((w.alloc (.cells (It.cells a La).toArray 55)).alloc (.cells (It.cells b Lb).toArray 55)) = B := ⟨_, rfl⟩
  have ca : ∀ (i : Nat) v, (It.cells a La)[i]? = some v → B.cell? ⟨w.heap.size, i, none⟩ = some v := fun i v hv => by
    subst hB
    refine ((Ext.refl _).alloc _).keep ?_
    rw [World.cell?_alloc_new]; simpa using hv
  have cb : ∀ (i : Nat) v, (It.cells b Lb)[i]? = some v → B.cell? ⟨w.heap.size + 1, i, none⟩ = some v := fun i v hv => by
    subst hB
    have := World.cell?_alloc_new (w.alloc (.cells (It.cells a La).toArray 55)) (It.cells b Lb).toArray 55 i
    rw [show (w.alloc (.cells (It.cells a La).toArray 55)).heap.size = w.heap.size + 1 by simp] at this
    rw [this]; simpa using hv
  have CA := Lib.hid ca
  have CB := Lib.hid cb
  have X0 : Hid (Ext w B) := Lib.hid (by subst hB; exact ((Ext.refl _).alloc _).alloc _)
  have HB0 := Lib.hid hB
  clear ca cb hB
  simp only [It.cells] at HB0
  unfold It.agg
  go_enter Tryz.func77, Tryz.ntmps77
  -- Id
  have hw0 := HB0.out
  have V : Hid (RowS B.heap.size (It.foldN ((It.pairs a b).take 0)) B (.slice none 0 0)) := Lib.hid (own_nil _ _ _ _)
  have X_0 : Hid (Ext B B) := Lib.hid (Ext.refl _)
  have ka := CA.out 0 _ rfl
  have kb := CB.out 0 _ rfl
  rw [← hw0] at ka kb
  have HW0 := Lib.hid hw0
  clear hw0
  go_wp2_with fail
  rw [HW0.out]
  clear ka kb

  with_reducible refine (add_to B B.heap.size (Nat.le_refl _) _ (xs := It.foldN ((It.pairs a b).take 0)) _ _ (It.addL_at (a := a) (b := b) (k := 0) rfl) _ X_0.out X_0.out.size (It.few a b 0) V.out).mono ?_
  rintro e w0 ⟨v0, rfl, hR, hX⟩
  clear V X_0
  have V : Hid (RowS B.heap.size (It.foldN ((It.pairs a b).take 1)) w0 v0) := Lib.hid hR
  have X_1 := Lib.hid hX
  clear hR hX
  -- Version
  have ka : (_ : World).cell? ⟨w.heap.size, 1, none⟩ = some (.int .i64 a.ver) := X_1.out.keep (CA.out 1 _ rfl)
  have kb : (_ : World).cell? ⟨w.heap.size + 1, 1, none⟩ = some (.int .i64 b.ver) := X_1.out.keep (CB.out 1 _ rfl)
  go_wp2_with fail
  with_reducible refine (add_to B B.heap.size (Nat.le_refl _) _ (xs := It.foldN ((It.pairs a b).take 1)) _ _ (It.addL_at (a := a) (b := b) (k := 1) rfl) _ X_1.out X_1.out.size (It.few a b 1) V.out).mono ?_
  rintro e w1 ⟨v1, rfl, hR, hX⟩
  clear ka kb V X_1
  have V : Hid (RowS B.heap.size (It.foldN ((It.pairs a b).take 2)) w1 v1) := Lib.hid hR
  have X_2 := Lib.hid hX
  clear hR hX
  -- Kind
  have ka : (_ : World).cell? ⟨w.heap.size, 2, none⟩ = some (.int .i64 a.kind) := X_2.out.keep (CA.out 2 _ rfl)
  have kb : (_ : World).cell? ⟨w.heap.size + 1, 2, none⟩ = some (.int .i64 b.kind) := X_2.out.keep (CB.out 2 _ rfl)
  go_wp2_with fail
  with_reducible refine (add_to B B.heap.size (Nat.le_refl _) _ (xs := It.foldN ((It.pairs a b).take 2)) _ _ (It.addL_at (a := a) (b := b) (k := 2) rfl) _ X_2.out X_2.out.size (It.few a b 2) V.out).mono ?_
  rintro e w2 ⟨v2, rfl, hR, hX⟩
  clear ka kb V X_2
  have V : Hid (RowS B.heap.size (It.foldN ((It.pairs a b).take 3)) w2 v2) := Lib.hid hR
  have X_3 := Lib.hid hX
  clear hR hX
  -- Stem
  have ka : (_ : World).cell? ⟨w.heap.size, 3, none⟩ = some (.string a.stem) := X_3.out.keep (CA.out 3 _ rfl)
  have kb : (_ : World).cell? ⟨w.heap.size + 1, 3, none⟩ = some (.string b.stem) := X_3.out.keep (CB.out 3 _ rfl)
  go_wp2_with fail
  with_reducible refine (add_to B B.heap.size (Nat.le_refl _) _ (xs := It.foldN ((It.pairs a b).take 3)) _ _ (ys := It.foldN ((It.pairs a b).take (3 + 1))) (by rw [It.beqB]; exact It.addL_at (a := a) (b := b) (k := 3) rfl) _ X_3.out X_3.out.size (It.few a b 3) V.out).mono ?_
  rintro e w3 ⟨v3, rfl, hR, hX⟩
  clear ka kb V X_3
  have V : Hid (RowS B.heap.size (It.foldN ((It.pairs a b).take 4)) w3 v3) := Lib.hid hR
  have X_4 := Lib.hid hX
  clear hR hX
  -- Options
  have ka : (_ : World).cell? ⟨w.heap.size, 4, none⟩ = some (.slice La.oA a.opts.length La.oc) := X_4.out.keep (CA.out 4 _ rfl)
  have kb : (_ : World).cell? ⟨w.heap.size + 1, 4, none⟩ = some (.slice Lb.oA b.opts.length Lb.oc) := X_4.out.keep (CB.out 4 _ rfl)
  go_wp2_with fail
  with_reducible refine (rsameStrings_any La.oA La.oc Lb.oA Lb.oc a.opts b.opts _ (HA.out.o.ext (X0.out.trans X_4.out)) (HB.out.o.ext (X0.out.trans X_4.out)) (Nat.le_trans HA.out.ok.ol (by decide)) (Nat.le_trans HB.out.ok.ol (by decide))).mono ?_
  rintro e w4' ⟨rfl, hx⟩
  have Y_4 := Lib.hid (X_4.out.trans hx)
  have V' : Hid (RowS B.heap.size (It.foldN ((It.pairs a b).take 4)) w4' v3) := Lib.hid (own_ext V.out hx)
  clear hx ka kb V X_4
  go_wp2_with fail
  with_reducible refine (add_to B B.heap.size (Nat.le_refl _) _ (xs := It.foldN ((It.pairs a b).take 4)) _ _ (It.addL_at (a := a) (b := b) (k := 4) rfl) _ Y_4.out Y_4.out.size (It.few a b 4) V'.out).mono ?_
  rintro e w4 ⟨v4, rfl, hR, hX⟩
  have V : Hid (RowS B.heap.size (It.foldN ((It.pairs a b).take 5)) w4 v4) := Lib.hid hR
  have X_5 := Lib.hid hX
  clear hR hX V' Y_4
  -- Choices
  have ka : (_ : World).cell? ⟨w.heap.size, 5, none⟩ = some (.slice La.cA a.chs.length La.cc) := X_5.out.keep (CA.out 5 _ rfl)
  have kb : (_ : World).cell? ⟨w.heap.size + 1, 5, none⟩ = some (.slice Lb.cA b.chs.length Lb.cc) := X_5.out.keep (CB.out 5 _ rfl)
  go_wp2_with fail
  with_reducible refine (rsameInts_any La.cA La.cc Lb.cA Lb.cc a.chs b.chs _ (HA.out.c.ext (X0.out.trans X_5.out)) (HB.out.c.ext (X0.out.trans X_5.out)) (Nat.le_trans HA.out.ok.cl (by decide)) (Nat.le_trans HB.out.ok.cl (by decide))).mono ?_
  rintro e w5' ⟨rfl, hx⟩
  have Y_5 := Lib.hid (X_5.out.trans hx)
  have V' : Hid (RowS B.heap.size (It.foldN ((It.pairs a b).take 5)) w5' v4) := Lib.hid (own_ext V.out hx)
  clear hx ka kb V X_5
  go_wp2_with fail
  with_reducible refine (add_to B B.heap.size (Nat.le_refl _) _ (xs := It.foldN ((It.pairs a b).take 5)) _ _ (It.addL_at (a := a) (b := b) (k := 5) rfl) _ Y_5.out Y_5.out.size (It.few a b 5) V'.out).mono ?_
  rintro e w5 ⟨v5, rfl, hR, hX⟩
  have V : Hid (RowS B.heap.size (It.foldN ((It.pairs a b).take 6)) w5 v5) := Lib.hid hR
  have X_6 := Lib.hid hX
  clear hR hX V' Y_5
  -- Value
  have ka : (_ : World).cell? ⟨w.heap.size, 6, none⟩ = some (.int .i64 a.value) := X_6.out.keep (CA.out 6 _ rfl)
  have kb : (_ : World).cell? ⟨w.heap.size + 1, 6, none⟩ = some (.int .i64 b.value) := X_6.out.keep (CB.out 6 _ rfl)
  go_wp2_with fail
  with_reducible refine (add_to B B.heap.size (Nat.le_refl _) _ (xs := It.foldN ((It.pairs a b).take 6)) _ _ (It.addL_at (a := a) (b := b) (k := 6) rfl) _ X_6.out X_6.out.size (It.few a b 6) V.out).mono ?_
  rintro e w6 ⟨v6, rfl, hR, hX⟩
  clear ka kb V X_6
  have V : Hid (RowS B.heap.size (It.foldN ((It.pairs a b).take 7)) w6 v6) := Lib.hid hR
  have X_7 := Lib.hid hX
  clear hR hX
  -- Tol
  have ka : (_ : World).cell? ⟨w.heap.size, 7, none⟩ = some (.int .i64 a.tol) := X_7.out.keep (CA.out 7 _ rfl)
  have kb : (_ : World).cell? ⟨w.heap.size + 1, 7, none⟩ = some (.int .i64 b.tol) := X_7.out.keep (CB.out 7 _ rfl)
  go_wp2_with fail
  with_reducible refine (add_to B B.heap.size (Nat.le_refl _) _ (xs := It.foldN ((It.pairs a b).take 7)) _ _ (It.addL_at (a := a) (b := b) (k := 7) rfl) _ X_7.out X_7.out.size (It.few a b 7) V.out).mono ?_
  rintro e w7 ⟨v7, rfl, hR, hX⟩
  clear ka kb V X_7
  have V : Hid (RowS B.heap.size (It.foldN ((It.pairs a b).take 8)) w7 v7) := Lib.hid hR
  have X_8 := Lib.hid hX
  clear hR hX
  -- Texts
  have ka : (_ : World).cell? ⟨w.heap.size, 8, none⟩ = some (.slice La.tA a.texts.length La.tc) := X_8.out.keep (CA.out 8 _ rfl)
  have kb : (_ : World).cell? ⟨w.heap.size + 1, 8, none⟩ = some (.slice Lb.tA b.texts.length Lb.tc) := X_8.out.keep (CB.out 8 _ rfl)
  go_wp2_with fail
  with_reducible refine (rsameStrings_any La.tA La.tc Lb.tA Lb.tc a.texts b.texts _ (HA.out.t.ext (X0.out.trans X_8.out)) (HB.out.t.ext (X0.out.trans X_8.out)) (Nat.le_trans HA.out.ok.tl (by decide)) (Nat.le_trans HB.out.ok.tl (by decide))).mono ?_
  rintro e w8' ⟨rfl, hx⟩
  have Y_8 := Lib.hid (X_8.out.trans hx)
  have V' : Hid (RowS B.heap.size (It.foldN ((It.pairs a b).take 8)) w8' v7) := Lib.hid (own_ext V.out hx)
  clear hx ka kb V X_8
  go_wp2_with fail
  with_reducible refine (add_to B B.heap.size (Nat.le_refl _) _ (xs := It.foldN ((It.pairs a b).take 8)) _ _ (It.addL_at (a := a) (b := b) (k := 8) rfl) _ Y_8.out Y_8.out.size (It.few a b 8) V'.out).mono ?_
  rintro e w8 ⟨v8, rfl, hR, hX⟩
  have V : Hid (RowS B.heap.size (It.foldN ((It.pairs a b).take 9)) w8 v8) := Lib.hid hR
  have X_9 := Lib.hid hX
  clear hR hX V' Y_8
  -- Points
  have ka : (_ : World).cell? ⟨w.heap.size, 9, none⟩ = some (.int .i64 a.pts) := X_9.out.keep (CA.out 9 _ rfl)
  have kb : (_ : World).cell? ⟨w.heap.size + 1, 9, none⟩ = some (.int .i64 b.pts) := X_9.out.keep (CB.out 9 _ rfl)
  go_wp2_with fail
  with_reducible refine (add_to B B.heap.size (Nat.le_refl _) _ (xs := It.foldN ((It.pairs a b).take 9)) _ _ (It.addL_at (a := a) (b := b) (k := 9) rfl) _ X_9.out X_9.out.size (It.few a b 9) V.out).mono ?_
  rintro e w9 ⟨v9, rfl, hR, hX⟩
  clear ka kb V X_9
  have V : Hid (RowS B.heap.size (It.foldN ((It.pairs a b).take 10)) w9 v9) := Lib.hid hR
  have X_10 := Lib.hid hX
  clear hR hX
  -- Content
  have ka : (_ : World).cell? ⟨w.heap.size, 10, none⟩ = some (.string a.cont) := X_10.out.keep (CA.out 10 _ rfl)
  have kb : (_ : World).cell? ⟨w.heap.size + 1, 10, none⟩ = some (.string b.cont) := X_10.out.keep (CB.out 10 _ rfl)
  go_wp2_with fail
  with_reducible refine (add_to B B.heap.size (Nat.le_refl _) _ (xs := It.foldN ((It.pairs a b).take 10)) _ _ (ys := It.foldN ((It.pairs a b).take (10 + 1))) (by rw [It.beqB]; exact It.addL_at (a := a) (b := b) (k := 10) rfl) _ X_10.out X_10.out.size (It.few a b 10) V.out).mono ?_
  rintro e w10 ⟨v10, rfl, hR, hX⟩
  clear ka kb V X_10
  have V : Hid (RowS B.heap.size (It.foldN ((It.pairs a b).take 11)) w10 v10) := Lib.hid hR
  have X_11 := Lib.hid hX
  clear hR hX
  -- Family
  have ka : (_ : World).cell? ⟨w.heap.size, 11, none⟩ = some (.int .i64 a.fam) := X_11.out.keep (CA.out 11 _ rfl)
  have kb : (_ : World).cell? ⟨w.heap.size + 1, 11, none⟩ = some (.int .i64 b.fam) := X_11.out.keep (CB.out 11 _ rfl)
  go_wp2_with fail
  with_reducible refine (add_to B B.heap.size (Nat.le_refl _) _ (xs := It.foldN ((It.pairs a b).take 11)) _ _ (It.addL_at (a := a) (b := b) (k := 11) rfl) _ X_11.out X_11.out.size (It.few a b 11) V.out).mono ?_
  rintro e w11 ⟨v11, rfl, hR, hX⟩
  clear ka kb V X_11
  have V : Hid (RowS B.heap.size (It.foldN ((It.pairs a b).take 12)) w11 v11) := Lib.hid hR
  have X_12 := Lib.hid hX
  clear hR hX
  -- Set
  have ka : (_ : World).cell? ⟨w.heap.size, 12, none⟩ = some (.int .i64 a.set_) := X_12.out.keep (CA.out 12 _ rfl)
  have kb : (_ : World).cell? ⟨w.heap.size + 1, 12, none⟩ = some (.int .i64 b.set_) := X_12.out.keep (CB.out 12 _ rfl)
  go_wp2_with fail
  with_reducible refine (add_to B B.heap.size (Nat.le_refl _) _ (xs := It.foldN ((It.pairs a b).take 12)) _ _ (It.addL_at (a := a) (b := b) (k := 12) rfl) _ X_12.out X_12.out.size (It.few a b 12) V.out).mono ?_
  rintro e w12 ⟨v12, rfl, hR, hX⟩
  clear ka kb V X_12
  have V : Hid (RowS B.heap.size (It.foldN ((It.pairs a b).take 13)) w12 v12) := Lib.hid hR
  have X_13 := Lib.hid hX
  clear hR hX
  -- Words
  have ka : (_ : World).cell? ⟨w.heap.size, 13, none⟩ = some (.int .i64 a.wrd) := X_13.out.keep (CA.out 13 _ rfl)
  have kb : (_ : World).cell? ⟨w.heap.size + 1, 13, none⟩ = some (.int .i64 b.wrd) := X_13.out.keep (CB.out 13 _ rfl)
  go_wp2_with fail
  with_reducible refine (add_to B B.heap.size (Nat.le_refl _) _ (xs := It.foldN ((It.pairs a b).take 13)) _ _ (It.addL_at (a := a) (b := b) (k := 13) rfl) _ X_13.out X_13.out.size (It.few a b 13) V.out).mono ?_
  rintro e w13 ⟨v13, rfl, hR, hX⟩
  clear ka kb V X_13
  have V : Hid (RowS B.heap.size (It.foldN ((It.pairs a b).take 14)) w13 v13) := Lib.hid hR
  have X_14 := Lib.hid hX
  clear hR hX
  -- Seconds
  have ka : (_ : World).cell? ⟨w.heap.size, 14, none⟩ = some (.int .i64 a.sec) := X_14.out.keep (CA.out 14 _ rfl)
  have kb : (_ : World).cell? ⟨w.heap.size + 1, 14, none⟩ = some (.int .i64 b.sec) := X_14.out.keep (CB.out 14 _ rfl)
  go_wp2_with fail
  with_reducible refine (add_to B B.heap.size (Nat.le_refl _) _ (xs := It.foldN ((It.pairs a b).take 14)) _ _ (It.addL_at (a := a) (b := b) (k := 14) rfl) _ X_14.out X_14.out.size (It.few a b 14) V.out).mono ?_
  rintro e w14 ⟨v14, rfl, hR, hX⟩
  clear ka kb V X_14
  have V : Hid (RowS B.heap.size (It.foldN ((It.pairs a b).take 15)) w14 v14) := Lib.hid hR
  have X_15 := Lib.hid hX
  clear hR hX
  -- Assets
  have ka : (_ : World).cell? ⟨w.heap.size, 15, none⟩ = some (.slice La.sA a.assets.length La.sc) := X_15.out.keep (CA.out 15 _ rfl)
  have kb : (_ : World).cell? ⟨w.heap.size + 1, 15, none⟩ = some (.slice Lb.sA b.assets.length Lb.sc) := X_15.out.keep (CB.out 15 _ rfl)
  go_wp2_with fail
  with_reducible refine (rsameInts_any La.sA La.sc Lb.sA Lb.sc a.assets b.assets _ (HA.out.s.ext (X0.out.trans X_15.out)) (HB.out.s.ext (X0.out.trans X_15.out)) (Nat.le_trans HA.out.ok.sl (by decide)) (Nat.le_trans HB.out.ok.sl (by decide))).mono ?_
  rintro e w15' ⟨rfl, hx⟩
  have Y_15 := Lib.hid (X_15.out.trans hx)
  have V' : Hid (RowS B.heap.size (It.foldN ((It.pairs a b).take 15)) w15' v14) := Lib.hid (own_ext V.out hx)
  clear hx ka kb V X_15
  go_wp2_with fail
  with_reducible refine (add_to B B.heap.size (Nat.le_refl _) _ (xs := It.foldN ((It.pairs a b).take 15)) _ _ (It.addL_at (a := a) (b := b) (k := 15) rfl) _ Y_15.out Y_15.out.size (It.few a b 15) V'.out).mono ?_
  rintro e w15 ⟨v15, rfl, hR, hX⟩
  have V : Hid (RowS B.heap.size (It.foldN ((It.pairs a b).take 16)) w15 v15) := Lib.hid hR
  have X_16 := Lib.hid hX
  clear hR hX V' Y_15
  -- Rubric
  have ka : (_ : World).cell? ⟨w.heap.size, 16, none⟩ = some (.int .i64 a.rub) := X_16.out.keep (CA.out 16 _ rfl)
  have kb : (_ : World).cell? ⟨w.heap.size + 1, 16, none⟩ = some (.int .i64 b.rub) := X_16.out.keep (CB.out 16 _ rfl)
  go_wp2_with fail
  with_reducible refine (add_to B B.heap.size (Nat.le_refl _) _ (xs := It.foldN ((It.pairs a b).take 16)) _ _ (It.addL_at (a := a) (b := b) (k := 16) rfl) _ X_16.out X_16.out.size (It.few a b 16) V.out).mono ?_
  rintro e w16 ⟨v16, rfl, hR, hX⟩
  clear ka kb V X_16
  have V : Hid (RowS B.heap.size (It.foldN ((It.pairs a b).take 17)) w16 v16) := Lib.hid hR
  have X_17 := Lib.hid hX
  clear hR hX
  obtain ⟨A, c, hsl, hl1, hl2, hSl⟩ := V.out.sl
  subst hsl
  have HS := Lib.hid hSl
  have HL := Lib.hid hl1
  have HM := Lib.hid hl2
  clear hSl hl1 hl2 V
  go_wp2
  go_ret
  have HE17 : Hid (It.foldN ((It.pairs a b).take 17) = It.diff a b) := Lib.hid rfl
  rw [HE17.out] at HS HL ⊢
  exact ⟨⟨A, c, rfl, HS.out, HL.out, HM.out⟩, X0.out.trans X_17.out⟩
end Go.Proofs.YtgaepmddbjdhfaaGreatDoor
