/- How a rubric and a list of marks come out of a row's reading. No conditions. -/
import Derived.Test.YthjledbomonfpaaDoorRdC
import Derived.Lib.SmallJoins
namespace Go.Proofs.YthjledbomonfpaaDoor
open Go.ChangeShapes Go.WideShapes Go.ChangeAt Go.RowKit

theorem list3 {α : Type} {l : List α} (h : l.length = 3) : ∃ a b c, l = [a, b, c] := by
  match l, h with
  | [a, b, c], _ => exact ⟨a, b, c, rfl⟩

theorem trait_open {H : Type} {enc : TypeId × Value → H} {W : World} (n : Nat) (cs : List Value) (y : DataW H × List MemPlace)
    (h : DataW.trod enc Tryd.prog W 0 (fun _ => true) true n 45 cs = some y) : ∃ t : Rub.Trait, cs = t.cells ∧ t.name.size ≤ maxLen ∧ In64 t.max ∧ In64 t.weight := by
  obtain ⟨y0, y1, y2, m, _, hl, h0, h1, h2⟩ := Deep.trod_struct3 Tryd.underlying45 h
  obtain ⟨c0, c1, c2, rfl⟩ := list3 (hl.trans (by kernel_rfl))
  have k9 : Tryd.prog.cellsOf 9 = 1 := by kernel_rfl
  have k3 : Tryd.prog.cellsOf 3 = 1 := by kernel_rfl
  simp only [k9, k3, List.drop_zero, List.take_succ_cons, List.take_zero, List.drop_succ_cons] at h0 h1 h2
  obtain ⟨s, e0, -, hs⟩ := DataW.trod_string Tryd.underlying9 h0
  obtain ⟨a, e1, -, wa⟩ := DataW.trod_int Tryd.underlying3 h1
  obtain ⟨b, e2, -, wb⟩ := DataW.trod_int Tryd.underlying3 h2
  simp at e0 e1 e2
  subst e0 e1 e2
  exact ⟨⟨s, a, b⟩, rfl, hs, in64_of_wf wa, in64_of_wf wb⟩

theorem rub_open {H : Type} {enc : TypeId × Value → H} {W : World} {base : Nat} {v : Value} {d : DataW H} {p : List MemPlace} (hv : Value.okWide Tryd.prog W .any base 24 v)
    (h : DataW.Trod enc Tryd.prog W 0 (fun _ => true) true 24 v d p) : ∃ (id : Int) (A : Option Addr) (c : Nat) (ts : List Rub.Trait), v = .agg #[.int .i64 id, .slice A ts.length c] ∧ RubIn W id A c ts := by
  obtain ⟨c0, c1, y0, y1, m, rfl, rfl, rfl, hy0, hy1⟩ := Joins.open_agg2 Tryd.underlying24 (by kernel_rfl) (by kernel_rfl) hv h
  obtain ⟨a, e0, -, wa⟩ := DataW.trod_int Tryd.underlying3 hy0
  obtain ⟨A, ts, c, e1, h2, h3, h4, h5⟩ := open_sl Rub.Trait.cells (fun t => t.name.size ≤ maxLen ∧ In64 t.max ∧ In64 t.weight) Tryd.underlying22 (by kernel_rfl) (k := 3) (by omega) trait_open hy1
  simp at e0 e1
  subst e0 e1
  exact ⟨a, A, c, ts, rfl, h5, h4, h2, h3, in64_of_wf wa⟩

theorem ints_open {H : Type} {enc : TypeId × Value → H} {W : World} {base : Nat} {v : Value} {d : DataW H} {p : List MemPlace} (hv : Value.okWide Tryd.prog W .any base 25 v)
    (h : DataW.Trod enc Tryd.prog W 0 (fun _ => true) true 25 v d p) : ∃ (A : Option Addr) (c : Nat) (xs : List Int), v = .slice A xs.length c ∧ (⟨A, c, xs⟩ : IL).In W := by
  obtain ⟨A, xs, c, e, h1, h2, h3, h4⟩ := open_sli Tryd.underlying25 (by kernel_rfl) Tryd.underlying3 (okWide_slice Tryd.underlying25 hv) h
  exact ⟨A, c, xs, e, h4, h1, h2, h3⟩
end Go.Proofs.YthjledbomonfpaaDoor
