/- How review records, actions and logs come out of a row's reading. No conditions. -/
import Derived.Test.YtadnjhpkenjmdaaRevB
namespace Go.Proofs.Ytadnjhpkenjmdaa
open Go.ChangeShapes Go.WideShapes Go.ChangeAt Go.RowKit

section
variable {H : Type} {enc : TypeId × Value → H} {P : Program} {w : World} {base : Nat} {spare : Nat → Bool} {held : Bool}
/-- A struct's fields, each read. -/
theorem fields_open {t : TypeId} {fs : Array Field} {fuel : Nat} {cs : List Value} {y : DataW H × List MemPlace} (hs : P.underlying t = some (.struct fs)) (h : DataW.trod enc P w base spare held fuel t cs = some y) :
    cs.length = P.cellsOf t ∧ ∃ n, ∀ (i : Nat) (f : Field), fs[i]? = some f → ∃ z, DataW.trod enc P w base spare held n f.type ((cs.drop f.offset).take (P.cellsOf f.type)) = some z := by
  obtain ⟨xs, n, _, _, hl, hlen, hf⟩ := DataW.trod_struct hs h
  refine ⟨hl, n, fun i f hi => ?_⟩
  have hi' : i < xs.length := by
    rw [hlen]
    rcases Nat.lt_or_ge i fs.size with g | g
    · exact g
    · rw [Array.getElem?_eq_none g] at hi; cases hi
  exact ⟨xs[i], (hf i f hi).trans (List.getElem?_eq_getElem hi')⟩
theorem agg_open {t : TypeId} {fs : Array Field} {r : Reach} {b0 : Nat} {v : Value} {d : DataW H} {p : List MemPlace} (hs : P.underlying t = some (.struct fs)) (hv : Value.okWide P w r b0 t v) (h : DataW.Trod enc P w base spare held t v d p) :
    ∃ cs : List Value, v = .agg cs.toArray ∧ cs.length = P.cellsOf t ∧ ∃ n, ∀ (i : Nat) (f : Field), fs[i]? = some f → ∃ z, DataW.trod enc P w base spare held n f.type ((cs.drop f.offset).take (P.cellsOf f.type)) = some z := by
  obtain ⟨⟨cs⟩, rfl, hsz⟩ := okWide_struct hs hv
  obtain ⟨fuel, hf⟩ := h
  obtain ⟨h1, n, h2⟩ := fields_open (cs := cs) hs (by simpa [Value.cells] using hf)
  exact ⟨cs, rfl, h1, n, h2⟩
end

theorem list4 {α : Type} {l : List α} (h : l.length = 4) : ∃ a b c d, l = [a, b, c, d] := by
  match l, h with
  | [a, b, c, d], _ => exact ⟨a, b, c, d, rfl⟩
theorem list5 {α : Type} {l : List α} (h : l.length = 5) : ∃ a b c d e, l = [a, b, c, d, e] := by
  match l, h with
  | [a, b, c, d, e], _ => exact ⟨a, b, c, d, e, rfl⟩

theorem act_open {H : Type} {enc : TypeId × Value → H} {W : World} (n : Nat) (cs : List Value) (y : DataW H × List MemPlace)
    (h : DataW.trod enc Try.prog W 0 (fun _ => true) true n 34 cs = some y) : ∃ a : Rev.Act, cs = a.cells ∧ a.In := by
  obtain ⟨hl, m, hf⟩ := fields_open Try.underlying34 h
  obtain ⟨c0, c1, c2, c3, rfl⟩ := list4 (hl.trans (by kernel_rfl))
  obtain ⟨z0, h0⟩ := hf 0 _ rfl
  obtain ⟨z1, h1⟩ := hf 1 _ rfl
  obtain ⟨z2, h2⟩ := hf 2 _ rfl
  obtain ⟨z3, h3⟩ := hf 3 _ rfl
  change DataW.trod enc Try.prog W 0 (fun _ => true) true m 3 (([c0, c1, c2, c3].drop 0).take (Try.prog.cellsOf 3)) = some z0 at h0
  change DataW.trod enc Try.prog W 0 (fun _ => true) true m 3 (([c0, c1, c2, c3].drop 1).take (Try.prog.cellsOf 3)) = some z1 at h1
  change DataW.trod enc Try.prog W 0 (fun _ => true) true m 3 (([c0, c1, c2, c3].drop 2).take (Try.prog.cellsOf 3)) = some z2 at h2
  change DataW.trod enc Try.prog W 0 (fun _ => true) true m 3 (([c0, c1, c2, c3].drop 3).take (Try.prog.cellsOf 3)) = some z3 at h3
  have k3 : Try.prog.cellsOf 3 = 1 := by kernel_rfl
  simp only [k3, List.drop_zero, List.take_succ_cons, List.take_zero, List.drop_succ_cons] at h0 h1 h2 h3
  obtain ⟨a, e0, -, wa⟩ := DataW.trod_int Try.underlying3 h0
  obtain ⟨b, e1, -, wb⟩ := DataW.trod_int Try.underlying3 h1
  obtain ⟨c, e2, -, wc⟩ := DataW.trod_int Try.underlying3 h2
  obtain ⟨d, e3, -, wd⟩ := DataW.trod_int Try.underlying3 h3
  simp at e0 e1 e2 e3
  subst e0 e1 e2 e3
  exact ⟨⟨a, b, c, d⟩, rfl, in64_of_wf wa, in64_of_wf wb, in64_of_wf wc, in64_of_wf wd⟩

theorem log_open {H : Type} {enc : TypeId × Value → H} {W : World} {base : Nat} {v : Value} {d : DataW H} {p : List MemPlace} (hv : Value.okWide Try.prog W .any base 23 v)
    (h : DataW.Trod enc Try.prog W 0 (fun _ => true) true 23 v d p) : ∃ (L : Option Addr) (lc : Nat) (log : List Rev.Act), v = .slice L log.length lc ∧ SlA W L log ∧ log.length ≤ lc ∧ lc ≤ maxLen ∧ ∀ a ∈ log, a.In := by
  obtain ⟨A0, n0, c0, rfl⟩ := okWide_slice Try.underlying23 hv
  obtain ⟨fuel, hf⟩ := h
  obtain ⟨L, log, lc, e, h2, h3, h4, h5⟩ := open_sl Rev.Act.cells Rev.Act.In Try.underlying23 (by kernel_rfl) (k := 4) (by omega) act_open hf
  simp [Value.cells] at e
  obtain ⟨rfl, rfl, rfl⟩ := e
  exact ⟨_, _, log, rfl, h5, h2, h3, h4⟩

theorem rev_open {H : Type} {enc : TypeId × Value → H} {W : World} {base : Nat} {v : Value} {d : DataW H} {p : List MemPlace} (hv : Value.okWide Try.prog W .any base 25 v)
    (h : DataW.Trod enc Try.prog W 0 (fun _ => true) true 25 v d p) :
    ∃ (st au : Int) (P : Option Addr) (pc : Nat) (ap : List Int) (Q : Option Addr) (qc : Nat) (fa : List Int) (L : Option Addr) (lc : Nat) (log : List Rev.Act),
      v = .agg #[.int .i64 st, .int .i64 au, .slice P ap.length pc, .slice Q fa.length qc, .slice L log.length lc] ∧ RevIn W st au P pc ap Q qc fa L lc log := by
  obtain ⟨cs, rfl, hl, m, hf⟩ := agg_open Try.underlying25 hv h
  obtain ⟨c0, c1, c2, c3, c4, rfl⟩ := list5 (hl.trans (by kernel_rfl))
  obtain ⟨z0, h0⟩ := hf 0 _ rfl
  obtain ⟨z1, h1⟩ := hf 1 _ rfl
  obtain ⟨z2, h2⟩ := hf 2 _ rfl
  obtain ⟨z3, h3⟩ := hf 3 _ rfl
  obtain ⟨z4, h4⟩ := hf 4 _ rfl
  change DataW.trod enc Try.prog W 0 (fun _ => true) true m 3 (([c0, c1, c2, c3, c4].drop 0).take (Try.prog.cellsOf 3)) = some z0 at h0
  change DataW.trod enc Try.prog W 0 (fun _ => true) true m 3 (([c0, c1, c2, c3, c4].drop 1).take (Try.prog.cellsOf 3)) = some z1 at h1
  change DataW.trod enc Try.prog W 0 (fun _ => true) true m 22 (([c0, c1, c2, c3, c4].drop 2).take (Try.prog.cellsOf 22)) = some z2 at h2
  change DataW.trod enc Try.prog W 0 (fun _ => true) true m 22 (([c0, c1, c2, c3, c4].drop 3).take (Try.prog.cellsOf 22)) = some z3 at h3
  change DataW.trod enc Try.prog W 0 (fun _ => true) true m 23 (([c0, c1, c2, c3, c4].drop 4).take (Try.prog.cellsOf 23)) = some z4 at h4
  have k3 : Try.prog.cellsOf 3 = 1 := by kernel_rfl
  have k22 : Try.prog.cellsOf 22 = 1 := by kernel_rfl
  have k23 : Try.prog.cellsOf 23 = 1 := by kernel_rfl
  simp only [k3, k22, k23, List.drop_zero, List.take_succ_cons, List.take_zero, List.drop_succ_cons] at h0 h1 h2 h3 h4
  obtain ⟨st, e0, -, w0⟩ := DataW.trod_int Try.underlying3 h0
  obtain ⟨au, e1, -, w1⟩ := DataW.trod_int Try.underlying3 h1
  have hint : ∀ n cs y, DataW.trod enc Try.prog W 0 (fun _ => true) true n 3 cs = some y → ∃ x : Int, cs = [.int .i64 x] ∧ In64 x := fun n cs y hy => by
    obtain ⟨x, g1, _, g3⟩ := DataW.trod_int Try.underlying3 hy
    exact ⟨x, g1, in64_of_wf g3⟩
  obtain ⟨P, ap, pc, e2, p1, p2, p3, p4⟩ := open_sl (fun x : Int => [.int .i64 x]) In64 Try.underlying22 (by kernel_rfl) (k := 1) (by omega) hint h2
  obtain ⟨Q, fa, qc, e3, q1, q2, q3, q4⟩ := open_sl (fun x : Int => [.int .i64 x]) In64 Try.underlying22 (by kernel_rfl) (k := 1) (by omega) hint h3
  obtain ⟨L, log, lc, e4, l1, l2, l3, l4⟩ := open_sl Rev.Act.cells Rev.Act.In Try.underlying23 (by kernel_rfl) (k := 4) (by omega) act_open h4
  simp at e0 e1 e2 e3 e4
  subst e0 e1 e2 e3 e4
  exact ⟨st, au, P, pc, ap, Q, qc, fa, L, lc, log, rfl, ⟨p4, p1, p2, p3⟩, ⟨q4, q1, q2, q3⟩, l4, l1, l2, l3, in64_of_wf w0, in64_of_wf w1⟩
end Go.Proofs.Ytadnjhpkenjmdaa
