/- How incidents and lists of incidents come out of a row's reading; the table of powers out of a row's condition; a world for the witness. Conditions: those of each theorem. -/
import Derived.Test.YtcpapnnghclbmaaDoorInN
import Derived.Test.YtcpapnnghclbmaaDoorW
import Derived.Test.YtcpapnnghclbmaaDoorCards
import Derived.Test.YtcpapnnghclbmaaDoorTie
import Derived.LaidMore
import Derived.LaidSub
import Derived.MakeChecks
import Derived.Lib.LaidTab
import Derived.Deep.DeepHandedRow
import Derived.SevenTiedAt
import Derived.Shelf.Vars
namespace Go.Proofs.YtcpapnnghclbmaaDoor
open Go.ChangeShapes Go.WideShapes Go.ChangeAt Go.RowKit

set_option maxRecDepth 100000 in
theorem inc_open {H : Type} {enc : TypeId × Value → H} {W : World} (n : Nat) (cs : List Value) (y : DataW H × List MemPlace)
    (h : DataW.trod enc Tryd.prog W 0 (fun _ => true) true n 23 cs = some y) : ∃ p : In.Inc, cs = In.cells p ∧ In.ok64 p := by
  obtain ⟨y0, y1, y2, y3, m, _, hl, h0, h1, h2, h3⟩ := Joins.trod_struct4 Tryd.underlying23 h
  have hl2 := hl.trans (show Tryd.prog.cellsOf 23 = 4 by kernel_rfl)
  match cs, hl2 with
  | [c0, c1, c2, c3], _ =>
    have k3 : Tryd.prog.cellsOf 3 = 1 := by kernel_rfl
    simp only [k3, List.drop_zero, List.take_succ_cons, List.take_zero, List.drop_succ_cons] at h0 h1 h2 h3
    obtain ⟨a, e0, -, wa⟩ := DataW.trod_int Tryd.underlying3 h0
    obtain ⟨b, e1, -, wb⟩ := DataW.trod_int Tryd.underlying3 h1
    obtain ⟨c, e2, -, wc⟩ := DataW.trod_int Tryd.underlying3 h2
    obtain ⟨d, e3, -, wd⟩ := DataW.trod_int Tryd.underlying3 h3
    simp at e0 e1 e2 e3
    subst e0 e1 e2 e3
    exact ⟨(a, b, c, d), rfl, in64_of_wf wa, in64_of_wf wb, in64_of_wf wc, in64_of_wf wd⟩
set_option maxRecDepth 100000 in
theorem incs_open {H : Type} {enc : TypeId × Value → H} {W : World} {base : Nat} {v : Value} {d : DataW H} {p : List MemPlace} (hv : Value.okWide Tryd.prog W .any base 24 v)
    (h : DataW.Trod enc Tryd.prog W 0 (fun _ => true) true 24 v d p) : ∃ (L : Option Addr) (lc : Nat) (ps : List In.Inc), v = .slice L ps.length lc ∧ (⟨L, lc, ps⟩ : NL).In W := by
  obtain ⟨A0, n0, c0, rfl⟩ := okWide_slice Tryd.underlying24 hv
  obtain ⟨fuel, hf⟩ := h
  obtain ⟨L, ps, lc, e, h2, h3, h4, h5⟩ := open_sl In.cells In.ok64 Tryd.underlying24 (by kernel_rfl) (k := 4) (by omega) inc_open hf
  simp [Value.cells] at e
  obtain ⟨rfl, rfl, rfl⟩ := e
  exact ⟨_, _, ps, rfl, h5, h2, h3, h4⟩
set_option maxRecDepth 100000 in
theorem incv_open {H : Type} {enc : TypeId × Value → H} {W : World} {base : Nat} {v : Value} {d : DataW H} {p : List MemPlace} (hv : Value.okWide Tryd.prog W .any base 23 v)
    (h : DataW.Trod enc Tryd.prog W 0 (fun _ => true) true 23 v d p) : ∃ q : In.Inc, v = In.agg q ∧ In.ok64 q := by
  obtain ⟨⟨cs⟩, rfl, hsz⟩ := okWide_struct Tryd.underlying23 hv
  obtain ⟨fuel, hf⟩ := h
  obtain ⟨q, e, hq⟩ := inc_open _ _ _ (by simpa [Value.cells] using hf)
  subst e
  exact ⟨q, rfl, hq⟩

def cellsLaid : DataW Unit → Array Value
  | .agg l => (l.map fun | .lit (.int k n) => Value.int k n | _ => undef).toArray
  | _ => #[]
/-- A world for the witness: the door's own, the pinned table too. -/
noncomputable def laidW (os : Os) : World :=
  { World.doorLaid Tryd.prog 4000 os with heap := (World.doorLaid Tryd.prog 4000 os).heap.modify 2 fun
      | .cells _ t frozen => .cells (cellsLaid Rows.laid_unicode_utf8_first) t frozen
      | o => o }
theorem tab_of {W : World} (h : laidMetH Tryd.prog Rows.incidentSumsRow.laid W) : Tab W := by
  have h1 : laidMet Tryd.prog Rows.incidentSumsRow.laid W := by
    rw [← MakeChecks.laidMetH_plain Tryd.prog _ W (by kernel_rfl)]; exact h
  have h2 := h1.filter (fun x => x.1 == "internal/strconv.uint64pow10")
  have e : (Rows.incidentSumsRow.laid.filter fun x => x.1 == "internal/strconv.uint64pow10") = [("internal/strconv.uint64pow10", Lib.tabData .u64 Lib.pow10Tab)] := by kernel_rfl
  rw [e] at h2
  exact Lib.tabIs_of_head (g := 0) (by kernel_rfl) (by kernel_rfl) Tryd.underlying110 Tryd.underlying71 (by kernel_rfl) (by kernel_rfl) h2
end Go.Proofs.YtcpapnnghclbmaaDoor
