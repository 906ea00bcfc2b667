/- How an adjudication, a list of lists of marks and a list of ratings come out of a row's reading. No conditions. -/
import Derived.Test.YthjledbomonfpaaAdjI
import Derived.Test.YthjledbomonfpaaRubO
namespace Go.Proofs.Ythjledbomonfpaa
open Go.ChangeShapes Go.WideShapes Go.ChangeAt Go.RowKit

theorem adj_open {H : Type} {enc : TypeId × Value → H} {W : World} {base : Nat} {v : Value} {d : DataW H} {p : List MemPlace} (hv : Value.okWide Try.prog W .any base 38 v)
    (h : DataW.Trod enc Try.prog W 0 (fun _ => true) true 38 v d p) : ∃ (gap rule : Int), v = .agg #[.int .i64 gap, .int .i64 rule] ∧ In64 gap ∧ In64 rule := by
  obtain ⟨c0, c1, y0, y1, m, rfl, rfl, rfl, hy0, hy1⟩ := Joins.open_agg2 Try.underlying38 (by kernel_rfl) (by kernel_rfl) hv h
  obtain ⟨a, e0, -, wa⟩ := DataW.trod_int Try.underlying3 hy0
  obtain ⟨b, e1, -, wb⟩ := DataW.trod_int Try.underlying3 hy1
  simp at e0 e1
  subst e0 e1
  exact ⟨a, b, rfl, in64_of_wf wa, in64_of_wf wb⟩

theorem il_open {H : Type} {enc : TypeId × Value → H} {W : World} (n : Nat) (cs : List Value) (y : DataW H × List MemPlace)
    (h : DataW.trod enc Try.prog W 0 (fun _ => true) true n 25 cs = some y) : ∃ x : IL, cs = [x.val] ∧ x.In W := by
  obtain ⟨A, xs, c, h1, h2, h3, h4, h5⟩ := open_sl (fun x : Int => [.int .i64 x]) In64 Try.underlying25 (by kernel_rfl) (k := 1) (by omega) (fun n cs y hy => by
    obtain ⟨x, h1, _, h3⟩ := DataW.trod_int Try.underlying3 hy
    exact ⟨x, h1, in64_of_wf h3⟩) h
  exact ⟨⟨A, c, xs⟩, h1, h5, h2, h3, h4⟩

theorem intss_open {H : Type} {enc : TypeId × Value → H} {W : World} {base : Nat} {v : Value} {d : DataW H} {p : List MemPlace} (hv : Value.okWide Try.prog W .any base 39 v)
    (h : DataW.Trod enc Try.prog W 0 (fun _ => true) true 39 v d p) : ∃ (L : Option Addr) (c : Nat) (ls : List IL), v = .slice L ls.length c ∧ SlL W L ls ∧ ls.length ≤ maxLen := by
  obtain ⟨A0, n0, c0, rfl⟩ := okWide_slice Try.underlying39 hv
  obtain ⟨fuel, hf⟩ := h
  obtain ⟨A, xs, c, h1, h2, h3, h4, h5⟩ := open_sl (fun x : IL => [x.val]) (fun x => x.In W) Try.underlying39 (by kernel_rfl) (k := 1) (by omega) il_open hf
  simp [Value.cells] at h1
  obtain ⟨rfl, rfl, rfl⟩ := h1
  exact ⟨_, _, xs, rfl, ⟨h5, h4⟩, Nat.le_trans h2 h3⟩
end Go.Proofs.Ythjledbomonfpaa
