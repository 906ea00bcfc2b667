/- Items as values: what an item is, where its parts lie; the two packages' within, ranges, rising and printable: contracts. Conditions: those of each theorem. -/
import Derived.Test.YtfnmgcblhebdbaaGreatDoorItP
import Derived.Test.YtfnmgcblhebdbaaGreatDoorApp
namespace Go.Proofs.YtfnmgcblhebdbaaGreatDoor
open Go.RowKit

/-- A slice of strings. -/
def SlS (w : World) (A : Option Addr) (xs : List ByteArray) : Prop := Sl w 1 A (xs.map fun s => [.string s])
theorem SlS.ext {w w' : World} {A : Option Addr} {xs : List ByteArray} (h : SlS w A xs) (he : Ext w w') : SlS w' A xs := Sl.ext h he
theorem SlS.nil (w : World) (A : Option Addr) : SlS w A [] := Or.inl rfl
theorem SlS.at_ {w : World} {A : Option Addr} {xs : List ByteArray} (h : SlS w A xs) {i : Nat} (hi : i < xs.length) :
    ∃ b off, A = some ⟨b, off, none⟩ ∧ b < w.heap.size ∧ w.cell? ⟨b, off + i, none⟩ = some (.string xs[i]) := by
  obtain ⟨b, off, hA, hb, hc⟩ := Sl.at_ (i := i) (cs := [.string xs[i]]) h (by simp [hi])
  exact ⟨b, off, hA, hb, by simpa using hc 0 _ rfl⟩

namespace It
/-- What an item says. -/
structure Item where
  id : Int
  ver : Int
  kind : Int
  stem : ByteArray
  opts : List ByteArray
  chs : List Int
  value : Int
  tol : Int
  texts : List ByteArray
  pts : Int
  cont : ByteArray
  fam : Int
  set_ : Int
  wrd : Int
  sec : Int
  assets : List Int
  rub : Int
/-- Where an item's lists lie. -/
structure Loc where
  oA : Option Addr
  oc : Nat
  cA : Option Addr
  cc : Nat
  tA : Option Addr
  tc : Nat
  sA : Option Addr
  sc : Nat
def cells (it : Item) (L : Loc) : List Value := [.int .i64 it.id, .int .i64 it.ver, .int .i64 it.kind, .string it.stem, .slice L.oA it.opts.length L.oc, .slice L.cA it.chs.length L.cc, .int .i64 it.value, .int .i64 it.tol, .slice L.tA it.texts.length L.tc, .int .i64 it.pts, .string it.cont, .int .i64 it.fam, .int .i64 it.set_, .int .i64 it.wrd, .int .i64 it.sec, .slice L.sA it.assets.length L.sc, .int .i64 it.rub]
def agg (it : Item) (L : Loc) : Value := .agg #[.int .i64 it.id, .int .i64 it.ver, .int .i64 it.kind, .string it.stem, .slice L.oA it.opts.length L.oc, .slice L.cA it.chs.length L.cc, .int .i64 it.value, .int .i64 it.tol, .slice L.tA it.texts.length L.tc, .int .i64 it.pts, .string it.cont, .int .i64 it.fam, .int .i64 it.set_, .int .i64 it.wrd, .int .i64 it.sec, .slice L.sA it.assets.length L.sc, .int .i64 it.rub]
/-- The bounds of what an item holds. -/
structure Ok (it : Item) : Prop where
  id : In64 it.id
  ver : In64 it.ver
  kind : In64 it.kind
  value : In64 it.value
  tol : In64 it.tol
  pts : In64 it.pts
  fam : In64 it.fam
  set_ : In64 it.set_
  wrd : In64 it.wrd
  sec : In64 it.sec
  rub : In64 it.rub
  stem : it.stem.size ≤ 140737488351232
  cont : it.cont.size ≤ 140737488351232
  opts : ∀ s ∈ it.opts, s.size ≤ 140737488351232
  texts : ∀ s ∈ it.texts, s.size ≤ 140737488351232
  chs : ∀ x ∈ it.chs, In64 x
  assets : ∀ x ∈ it.assets, In64 x
  ol : it.opts.length ≤ 140737488351232
  cl : it.chs.length ≤ 140737488351232
  tl : it.texts.length ≤ 140737488351232
  sl : it.assets.length ≤ 140737488351232
/-- The item's parts lie in the world. -/
structure In (w : World) (it : Item) (L : Loc) : Prop where
  ok : Ok it
  o : SlS w L.oA it.opts
  c : SlI w L.cA it.chs
  t : SlS w L.tA it.texts
  s : SlI w L.sA it.assets
  oc : it.opts.length ≤ L.oc ∧ L.oc ≤ maxLen
  cc : it.chs.length ≤ L.cc ∧ L.cc ≤ maxLen
  tc : it.texts.length ≤ L.tc ∧ L.tc ≤ maxLen
  sc : it.assets.length ≤ L.sc ∧ L.sc ≤ maxLen
theorem In.ext {w w' : World} {it : Item} {L : Loc} (h : In w it L) (he : Ext w w') : In w' it L :=
  ⟨h.ok, h.o.ext he, h.c.ext he, h.t.ext he, h.s.ext he, h.oc, h.cc, h.tc, h.sc⟩

/-- Rule 1. -/
def ranges (it : Item) : Bool := wi it.id 1 9999999 && wi it.ver 1 50 && wi it.pts 1 5 && wi it.wrd 0 2000 && wi it.sec 1 2000 && wi it.fam 0 9999999 && wi it.set_ 0 9999999 && wi it.rub 0 9999999
end It

set_option maxHeartbeats 400000 in
theorem within_any (n lo hi : Int) (w : World) : Calls Tryz.prog 101 #[.int .i64 n, .int .i64 lo, .int .i64 hi] w fun e w' => e = .returned (.bool (It.wi n lo hi)) ∧ w = w' := by
  go_enter Tryz.func101, Tryz.ntmps101
  go_wp2
  all_goals
    go_ret
    exact ⟨ret_bool (by unfold It.wi; first | (simp [*]; done) | (simp; omega)), rfl⟩
set_option maxRecDepth 100000 in
set_option maxHeartbeats 1600000 in
theorem validNumbers_any (it : It.Item) (L : It.Loc) (w : World) : Calls Tryz.prog 100 #[It.agg it L] w fun e w' => e = .returned (.bool (It.ranges it)) ∧ Ext w w' := by
  unfold It.agg
  go_enter Tryz.func100, Tryz.ntmps100
  go_wp2_with (go_at_call 101; refine (within_any _ _ _ _).mono ?_; rintro e w' ⟨rfl, rfl⟩)
  all_goals
    go_ret
    exact ⟨ret_bool (by unfold It.ranges; simp [*]), (Ext.refl _).alloc _⟩
end Go.Proofs.YtfnmgcblhebdbaaGreatDoor
