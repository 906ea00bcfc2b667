/- How items, changes, answers, steps, a pool and a grid come out of a row's reading. Conditions: those of each theorem. What the bulk of a reading says of a slice's length. No conditions. -/
import Derived.Test.YtgaepmddbjdhfaaGreatDoorP33
import Derived.Test.YtgaepmddbjdhfaaGreatDoorP27
import Derived.Test.YtgaepmddbjdhfaaGreatDoorP36
import Derived.Lib.SmallJoins
import Derived.Test.YtgaepmddbjdhfaaGreatDoorCards
import Derived.Test.YtgaepmddbjdhfaaGreatDoorTie
import Derived.LaidMore
import Derived.LaidSub
import Derived.MakeChecks
import Derived.Lib.LaidTab
import Derived.Deep.DeepHandedRow
import Derived.SevenTiedAt
import Derived.Shelf.Vars
namespace Go.Proofs.YtgaepmddbjdhfaaGreatDoor
open Go.ChangeShapes Go.WideShapes Go.ChangeAt Go.RowKit

set_option maxRecDepth 100000 in
theorem str_openW {H : Type} {enc : TypeId × Value → H} {W : World} {n : Nat} {cs : List Value} {y : DataW H × List MemPlace} (h : DataW.trod enc Tryz.prog W 0 (fun _ => true) true n 9 cs = some y) (hl : Light Tryz.prog 9 y.1) : ∃ x : ByteArray, cs = [.string x] ∧ x.size ≤ 140737488351232 := by
  obtain ⟨s, e, rfl, -⟩ := DataW.trod_string Tryz.underlying9 h
  refine ⟨s, e, ?_⟩
  have := light_str hl
  simpa using this
theorem list17 {α : Type} {l : List α} (h : l.length = 17) : ∃ c0 c1 c2 c3 c4 c5 c6 c7 c8 c9 c10 c11 c12 c13 c14 c15 c16, l = [c0, c1, c2, c3, c4, c5, c6, c7, c8, c9, c10, c11, c12, c13, c14, c15, c16] := by
  match l, h with
  | [c0, c1, c2, c3, c4, c5, c6, c7, c8, c9, c10, c11, c12, c13, c14, c15, c16], _ => exact ⟨c0, c1, c2, c3, c4, c5, c6, c7, c8, c9, c10, c11, c12, c13, c14, c15, c16, rfl⟩
set_option maxRecDepth 100000 in
set_option maxHeartbeats 1600000 in
theorem itemc_open {H : Type} {enc : TypeId × Value → H} {W : World} (n : Nat) (cs : List Value) (y : DataW H × List MemPlace)
    (h : DataW.trod enc Tryz.prog W 0 (fun _ => true) true n 55 cs = some y) (hy : Light Tryz.prog 55 y.1) : ∃ q : It.Item × It.Loc, cs = It.cells q.1 q.2 ∧ It.In W q.1 q.2 := by
  obtain ⟨hl, m, hf⟩ := fieldsW Tryz.underlying55 h hy
  obtain ⟨c0, c1, c2, c3, c4, c5, c6, c7, c8, c9, c10, c11, c12, c13, c14, c15, c16, rfl⟩ := list17 (hl.trans (by kernel_rfl))
  have k3 : Tryz.prog.cellsOf 3 = 1 := by kernel_rfl
  have k9 : Tryz.prog.cellsOf 9 = 1 := by kernel_rfl
  have ks : Tryz.prog.cellsOf 53 = 1 := by kernel_rfl
  have ki : Tryz.prog.cellsOf 29 = 1 := by kernel_rfl
  obtain ⟨z0, h0, l0⟩ := hf 0 _ rfl
  change DataW.trod enc Tryz.prog W 0 (fun _ => true) true m 3 (([c0, c1, c2, c3, c4, c5, c6, c7, c8, c9, c10, c11, c12, c13, c14, c15, c16].drop 0).take (Tryz.prog.cellsOf 3)) = some z0 at h0
  obtain ⟨z1, h1, l1⟩ := hf 1 _ rfl
  change DataW.trod enc Tryz.prog W 0 (fun _ => true) true m 3 (([c0, c1, c2, c3, c4, c5, c6, c7, c8, c9, c10, c11, c12, c13, c14, c15, c16].drop 1).take (Tryz.prog.cellsOf 3)) = some z1 at h1
  obtain ⟨z2, h2, l2⟩ := hf 2 _ rfl
  change DataW.trod enc Tryz.prog W 0 (fun _ => true) true m 3 (([c0, c1, c2, c3, c4, c5, c6, c7, c8, c9, c10, c11, c12, c13, c14, c15, c16].drop 2).take (Tryz.prog.cellsOf 3)) = some z2 at h2
  obtain ⟨z3, h3, l3⟩ := hf 3 _ rfl
  change DataW.trod enc Tryz.prog W 0 (fun _ => true) true m 9 (([c0, c1, c2, c3, c4, c5, c6, c7, c8, c9, c10, c11, c12, c13, c14, c15, c16].drop 3).take (Tryz.prog.cellsOf 9)) = some z3 at h3
  obtain ⟨z4, h4, l4⟩ := hf 4 _ rfl
  change DataW.trod enc Tryz.prog W 0 (fun _ => true) true m 53 (([c0, c1, c2, c3, c4, c5, c6, c7, c8, c9, c10, c11, c12, c13, c14, c15, c16].drop 4).take (Tryz.prog.cellsOf 53)) = some z4 at h4
  obtain ⟨z5, h5, l5⟩ := hf 5 _ rfl
  change DataW.trod enc Tryz.prog W 0 (fun _ => true) true m 29 (([c0, c1, c2, c3, c4, c5, c6, c7, c8, c9, c10, c11, c12, c13, c14, c15, c16].drop 5).take (Tryz.prog.cellsOf 29)) = some z5 at h5
  obtain ⟨z6, h6, l6⟩ := hf 6 _ rfl
  change DataW.trod enc Tryz.prog W 0 (fun _ => true) true m 3 (([c0, c1, c2, c3, c4, c5, c6, c7, c8, c9, c10, c11, c12, c13, c14, c15, c16].drop 6).take (Tryz.prog.cellsOf 3)) = some z6 at h6
  obtain ⟨z7, h7, l7⟩ := hf 7 _ rfl
  change DataW.trod enc Tryz.prog W 0 (fun _ => true) true m 3 (([c0, c1, c2, c3, c4, c5, c6, c7, c8, c9, c10, c11, c12, c13, c14, c15, c16].drop 7).take (Tryz.prog.cellsOf 3)) = some z7 at h7
  obtain ⟨z8, h8, l8⟩ := hf 8 _ rfl
  change DataW.trod enc Tryz.prog W 0 (fun _ => true) true m 53 (([c0, c1, c2, c3, c4, c5, c6, c7, c8, c9, c10, c11, c12, c13, c14, c15, c16].drop 8).take (Tryz.prog.cellsOf 53)) = some z8 at h8
  obtain ⟨z9, h9, l9⟩ := hf 9 _ rfl
  change DataW.trod enc Tryz.prog W 0 (fun _ => true) true m 3 (([c0, c1, c2, c3, c4, c5, c6, c7, c8, c9, c10, c11, c12, c13, c14, c15, c16].drop 9).take (Tryz.prog.cellsOf 3)) = some z9 at h9
  obtain ⟨z10, h10, l10⟩ := hf 10 _ rfl
  change DataW.trod enc Tryz.prog W 0 (fun _ => true) true m 9 (([c0, c1, c2, c3, c4, c5, c6, c7, c8, c9, c10, c11, c12, c13, c14, c15, c16].drop 10).take (Tryz.prog.cellsOf 9)) = some z10 at h10
  obtain ⟨z11, h11, l11⟩ := hf 11 _ rfl
  change DataW.trod enc Tryz.prog W 0 (fun _ => true) true m 3 (([c0, c1, c2, c3, c4, c5, c6, c7, c8, c9, c10, c11, c12, c13, c14, c15, c16].drop 11).take (Tryz.prog.cellsOf 3)) = some z11 at h11
  obtain ⟨z12, h12, l12⟩ := hf 12 _ rfl
  change DataW.trod enc Tryz.prog W 0 (fun _ => true) true m 3 (([c0, c1, c2, c3, c4, c5, c6, c7, c8, c9, c10, c11, c12, c13, c14, c15, c16].drop 12).take (Tryz.prog.cellsOf 3)) = some z12 at h12
  obtain ⟨z13, h13, l13⟩ := hf 13 _ rfl
  change DataW.trod enc Tryz.prog W 0 (fun _ => true) true m 3 (([c0, c1, c2, c3, c4, c5, c6, c7, c8, c9, c10, c11, c12, c13, c14, c15, c16].drop 13).take (Tryz.prog.cellsOf 3)) = some z13 at h13
  obtain ⟨z14, h14, l14⟩ := hf 14 _ rfl
  change DataW.trod enc Tryz.prog W 0 (fun _ => true) true m 3 (([c0, c1, c2, c3, c4, c5, c6, c7, c8, c9, c10, c11, c12, c13, c14, c15, c16].drop 14).take (Tryz.prog.cellsOf 3)) = some z14 at h14
  obtain ⟨z15, h15, l15⟩ := hf 15 _ rfl
  change DataW.trod enc Tryz.prog W 0 (fun _ => true) true m 29 (([c0, c1, c2, c3, c4, c5, c6, c7, c8, c9, c10, c11, c12, c13, c14, c15, c16].drop 15).take (Tryz.prog.cellsOf 29)) = some z15 at h15
  obtain ⟨z16, h16, l16⟩ := hf 16 _ rfl
  change DataW.trod enc Tryz.prog W 0 (fun _ => true) true m 3 (([c0, c1, c2, c3, c4, c5, c6, c7, c8, c9, c10, c11, c12, c13, c14, c15, c16].drop 16).take (Tryz.prog.cellsOf 3)) = some z16 at h16
  simp only [k3, k9, ks, ki, List.drop_zero, List.take_succ_cons, List.take_zero, List.drop_succ_cons] at h0 h1 h2 h3 h4 h5 h6 h7 h8 h9 h10 h11 h12 h13 h14 h15 h16
  obtain ⟨a0, e0, -, w0⟩ := DataW.trod_int Tryz.underlying3 h0
  obtain ⟨a1, e1, -, w1⟩ := DataW.trod_int Tryz.underlying3 h1
  obtain ⟨a2, e2, -, w2⟩ := DataW.trod_int Tryz.underlying3 h2
  obtain ⟨a3, e3, b3⟩ := str_openW h3 l3
  obtain ⟨A4, a4, C4, e4, p4, q4, r4, s4, t4⟩ := open_slW (fun x : ByteArray => [.string x]) (fun x => x.size ≤ 140737488351232) Tryz.underlying53 (by kernel_rfl) (k := 1) (by omega) (bs := 16) (by kernel_rfl) (fun n cs y hy hl => str_openW hy hl) h4 l4
  obtain ⟨A5, a5, C5, e5, p5, q5, r5, s5, t5⟩ := open_slW (fun x : Int => [.int .i64 x]) In64 Tryz.underlying29 (by kernel_rfl) (k := 1) (by omega) (bs := 8) (by kernel_rfl) (fun n cs y hy _ => by
    obtain ⟨x, h1, _, h3⟩ := DataW.trod_int Tryz.underlying3 hy
    exact ⟨x, h1, in64_of_wf h3⟩) h5 l5
  obtain ⟨a6, e6, -, w6⟩ := DataW.trod_int Tryz.underlying3 h6
  obtain ⟨a7, e7, -, w7⟩ := DataW.trod_int Tryz.underlying3 h7
  obtain ⟨A8, a8, C8, e8, p8, q8, r8, s8, t8⟩ := open_slW (fun x : ByteArray => [.string x]) (fun x => x.size ≤ 140737488351232) Tryz.underlying53 (by kernel_rfl) (k := 1) (by omega) (bs := 16) (by kernel_rfl) (fun n cs y hy hl => str_openW hy hl) h8 l8
  obtain ⟨a9, e9, -, w9⟩ := DataW.trod_int Tryz.underlying3 h9
  obtain ⟨a10, e10, b10⟩ := str_openW h10 l10
  obtain ⟨a11, e11, -, w11⟩ := DataW.trod_int Tryz.underlying3 h11
  obtain ⟨a12, e12, -, w12⟩ := DataW.trod_int Tryz.underlying3 h12
  obtain ⟨a13, e13, -, w13⟩ := DataW.trod_int Tryz.underlying3 h13
  obtain ⟨a14, e14, -, w14⟩ := DataW.trod_int Tryz.underlying3 h14
  obtain ⟨A15, a15, C15, e15, p15, q15, r15, s15, t15⟩ := open_slW (fun x : Int => [.int .i64 x]) In64 Tryz.underlying29 (by kernel_rfl) (k := 1) (by omega) (bs := 8) (by kernel_rfl) (fun n cs y hy _ => by
    obtain ⟨x, h1, _, h3⟩ := DataW.trod_int Tryz.underlying3 hy
    exact ⟨x, h1, in64_of_wf h3⟩) h15 l15
  obtain ⟨a16, e16, -, w16⟩ := DataW.trod_int Tryz.underlying3 h16
  simp at e0 e1 e2 e3 e4 e5 e6 e7 e8 e9 e10 e11 e12 e13 e14 e15 e16
  subst e0 e1 e2 e3 e4 e5 e6 e7 e8 e9 e10 e11 e12 e13 e14 e15 e16
  refine ⟨(⟨a0, a1, a2, a3, a4, a5, a6, a7, a8, a9, a10, a11, a12, a13, a14, a15, a16⟩, ⟨A4, C4, A5, C5, A8, C8, A15, C15⟩), rfl, ⟨in64_of_wf w0, in64_of_wf w1, in64_of_wf w2, in64_of_wf w6, in64_of_wf w7, in64_of_wf w9, in64_of_wf w11, in64_of_wf w12, in64_of_wf w13, in64_of_wf w14, in64_of_wf w16, b3, b10, s4, s8, s5, s15, ?_, ?_, ?_, ?_⟩, t4, t5, t8, t15, ⟨p4, q4⟩, ⟨p5, q5⟩, ⟨p8, q8⟩, ⟨p15, q15⟩⟩
  all_goals (dsimp only; omega)
set_option maxRecDepth 100000 in
theorem item_open {H : Type} {enc : TypeId × Value → H} {W : World} {base : Nat} {v : Value} {d : DataW H} {p : List MemPlace} (hv : Value.okWide Tryz.prog W .any base 55 v)
    (h : DataW.Trod enc Tryz.prog W 0 (fun _ => true) true 55 v d p) (hd : Light Tryz.prog 55 d) : ∃ it L, v = It.agg it L ∧ It.In W it L := by
  obtain ⟨⟨cs⟩, rfl, hsz⟩ := okWide_struct Tryz.underlying55 hv
  obtain ⟨fuel, hf⟩ := h
  obtain ⟨q, e, hq⟩ := itemc_open _ _ _ (by simpa [Value.cells] using hf) hd
  subst e
  exact ⟨q.1, q.2, rfl, hq⟩
def valLaid : DataW Unit → Array Value
  | .agg l => (l.map fun | .lit (.int k n) => Value.int k n | .lit (.string s) => Value.string ⟨s.toArray⟩ | _ => undef).toArray
  | _ => #[]
/-- A world for the witness: the door's own, the pinned table too. -/
noncomputable def laidW (os : Os) : World :=
  { World.doorLaid Tryz.prog 4000 os with heap := (World.doorLaid Tryz.prog 4000 os).heap.modify 1 fun
      | .cells _ t frozen => .cells (valLaid Rows.laid_unicode_utf8_first) t frozen
      | o => o }

set_option maxRecDepth 100000 in
theorem chgc_open {H : Type} {enc : TypeId × Value → H} {W : World} (n : Nat) (cs : List Value) (y : DataW H × List MemPlace)
    (h : DataW.trod enc Tryz.prog W 0 (fun _ => true) true n 57 cs = some y) (hy : Light Tryz.prog 57 y.1) : ∃ x : Rt.ChL, cs = Rt.cch x ∧ It.In W x.1.1 x.1.2 := by
  obtain ⟨hl, m, hf⟩ := fieldsW Tryz.underlying57 h hy
  have k17 : Tryz.prog.cellsOf 55 = 17 := by kernel_rfl
  have k1 : Tryz.prog.cellsOf 3 = 1 := by kernel_rfl
  obtain ⟨z0, h0, l0⟩ := hf 0 _ rfl
  change DataW.trod enc Tryz.prog W 0 (fun _ => true) true m 55 ((cs.drop 0).take (Tryz.prog.cellsOf 55)) = some z0 at h0
  obtain ⟨z1, h1, l1⟩ := hf 1 _ rfl
  change DataW.trod enc Tryz.prog W 0 (fun _ => true) true m 3 ((cs.drop 17).take (Tryz.prog.cellsOf 3)) = some z1 at h1
  rw [k17, List.drop_zero] at h0
  rw [k1] at h1
  obtain ⟨q, e0, hq⟩ := itemc_open _ _ _ h0 l0
  obtain ⟨t, e1, -, -⟩ := DataW.trod_int Tryz.underlying3 h1
  have hcl : cs.length = 18 := hl.trans (by kernel_rfl)
  have e2 : cs.drop 17 = [.int .i64 t] := by
    rw [← e1, List.take_of_length_le]
    rw [List.length_drop, hcl]
    decide
  exact ⟨(q, t), by rw [← List.take_append_drop 17 cs, e0, e2]; rfl, hq⟩
theorem list5 {α : Type} {l : List α} (h : l.length = 5) : ∃ c0 c1 c2 c3 c4, l = [c0, c1, c2, c3, c4] := by
  match l, h with
  | [c0, c1, c2, c3, c4], _ => exact ⟨c0, c1, c2, c3, c4, rfl⟩
theorem list9 {α : Type} {l : List α} (h : l.length = 9) : ∃ c0 c1 c2 c3 c4 c5 c6 c7 c8, l = [c0, c1, c2, c3, c4, c5, c6, c7, c8] := by
  match l, h with
  | [c0, c1, c2, c3, c4, c5, c6, c7, c8], _ => exact ⟨c0, c1, c2, c3, c4, c5, c6, c7, c8, rfl⟩
set_option maxRecDepth 100000 in
theorem ansc_open {H : Type} {enc : TypeId × Value → H} {W : World} (n : Nat) (cs : List Value) (y : DataW H × List MemPlace)
    (h : DataW.trod enc Tryz.prog W 0 (fun _ => true) true n 64 cs = some y) (hy : Light Tryz.prog 64 y.1) : ∃ x : Rt.AnL, cs = Rt.acl x ∧ x.1.In W x.2 := by
  obtain ⟨hl, m, hf⟩ := fieldsW Tryz.underlying64 h hy
  obtain ⟨c0, c1, c2, c3, c4, rfl⟩ := list5 (hl.trans (by kernel_rfl))
  have k1 : Tryz.prog.cellsOf 3 = 1 := by kernel_rfl
  have k2 : Tryz.prog.cellsOf 9 = 1 := by kernel_rfl
  have k3 : Tryz.prog.cellsOf 29 = 1 := by kernel_rfl
  have k4 : Tryz.prog.cellsOf 4 = 1 := by kernel_rfl
  obtain ⟨z0, h0, l0⟩ := hf 0 _ rfl
  change DataW.trod enc Tryz.prog W 0 (fun _ => true) true m 3 (([c0, c1, c2, c3, c4].drop 0).take (Tryz.prog.cellsOf 3)) = some z0 at h0
  obtain ⟨z1, h1, l1⟩ := hf 1 _ rfl
  change DataW.trod enc Tryz.prog W 0 (fun _ => true) true m 29 (([c0, c1, c2, c3, c4].drop 1).take (Tryz.prog.cellsOf 29)) = some z1 at h1
  obtain ⟨z2, h2, l2⟩ := hf 2 _ rfl
  change DataW.trod enc Tryz.prog W 0 (fun _ => true) true m 3 (([c0, c1, c2, c3, c4].drop 2).take (Tryz.prog.cellsOf 3)) = some z2 at h2
  obtain ⟨z3, h3, l3⟩ := hf 3 _ rfl
  change DataW.trod enc Tryz.prog W 0 (fun _ => true) true m 9 (([c0, c1, c2, c3, c4].drop 3).take (Tryz.prog.cellsOf 9)) = some z3 at h3
  obtain ⟨z4, h4, l4⟩ := hf 4 _ rfl
  change DataW.trod enc Tryz.prog W 0 (fun _ => true) true m 4 (([c0, c1, c2, c3, c4].drop 4).take (Tryz.prog.cellsOf 4)) = some z4 at h4
  simp only [k1, k2, k3, k4, List.drop_zero, List.take_succ_cons, List.take_zero, List.drop_succ_cons] at h0 h1 h2 h3 h4
  obtain ⟨a0, e0, -, w0⟩ := DataW.trod_int Tryz.underlying3 h0
  obtain ⟨A1, a1, C1, e1, p1, q1, r1, s1, t1⟩ := open_slW (fun x : Int => [.int .i64 x]) In64 Tryz.underlying29 (by kernel_rfl) (k := 1) (by omega) (bs := 8) (by kernel_rfl) (fun n cs y hy _ => by
    obtain ⟨x, h1, _, h3⟩ := DataW.trod_int Tryz.underlying3 hy
    exact ⟨x, h1, in64_of_wf h3⟩) h1 l1
  obtain ⟨a2, e2, -, w2⟩ := DataW.trod_int Tryz.underlying3 h2
  obtain ⟨a3, e3, b3⟩ := str_openW h3 l3
  obtain ⟨a4, e4, -⟩ := DataW.trod_bool Tryz.underlying4 h4
  simp at e0 e1 e2 e3 e4
  subst e0 e1 e2 e3 e4
  refine ⟨(⟨a0, a1, a2, a3, a4⟩, (A1, C1)), rfl, ⟨in64_of_wf w0, in64_of_wf w2, s1, b3, ?_⟩, t1, p1, q1⟩
  dsimp only; omega
set_option maxRecDepth 100000 in
theorem stepc_open {H : Type} {enc : TypeId × Value → H} {W : World} (n : Nat) (cs : List Value) (y : DataW H × List MemPlace)
    (h : DataW.trod enc Tryz.prog W 0 (fun _ => true) true n 50 cs = some y) (hy : Light Tryz.prog 50 y.1) : ∃ x : Rs.Stp, cs = Rt.scl x ∧ In64 x.1 ∧ In64 x.2 := by
  obtain ⟨hl, m, hf⟩ := fieldsW Tryz.underlying50 h hy
  obtain ⟨c0, c1, rfl⟩ : ∃ c0 c1, cs = [c0, c1] := by
    have hl := hl.trans (show Tryz.prog.cellsOf 50 = 2 by kernel_rfl)
    match cs, hl with
    | [c0, c1], _ => exact ⟨c0, c1, rfl⟩
  have k1 : Tryz.prog.cellsOf 3 = 1 := by kernel_rfl
  obtain ⟨z0, h0, l0⟩ := hf 0 _ rfl
  change DataW.trod enc Tryz.prog W 0 (fun _ => true) true m 3 (([c0, c1].drop 0).take (Tryz.prog.cellsOf 3)) = some z0 at h0
  obtain ⟨z1, h1, l1⟩ := hf 1 _ rfl
  change DataW.trod enc Tryz.prog W 0 (fun _ => true) true m 3 (([c0, c1].drop 1).take (Tryz.prog.cellsOf 3)) = some z1 at h1
  simp only [k1, List.drop_zero, List.take_succ_cons, List.take_zero, List.drop_succ_cons] at h0 h1
  obtain ⟨a0, e0, -, w0⟩ := DataW.trod_int Tryz.underlying3 h0
  obtain ⟨a1, e1, -, w1⟩ := DataW.trod_int Tryz.underlying3 h1
  simp at e0 e1
  subst e0 e1
  exact ⟨(a0, a1), rfl, in64_of_wf w0, in64_of_wf w1⟩
theorem ilc_open {H : Type} {enc : TypeId × Value → H} {W : World} (n : Nat) (cs : List Value) (y : DataW H × List MemPlace)
    (h : DataW.trod enc Tryz.prog W 0 (fun _ => true) true n 29 cs = some y) : ∃ x : IL, cs = [x.val] ∧ x.In W := by
  obtain ⟨A, xs, c, h1, h2, h3, h4, h5⟩ := open_sl (fun x : Int => [.int .i64 x]) In64 Tryz.underlying29 (by kernel_rfl) (k := 1) (by omega) (fun n cs y hy => by
    obtain ⟨x, h1, _, h3⟩ := DataW.trod_int Tryz.underlying3 hy
    exact ⟨x, h1, in64_of_wf h3⟩) h
  exact ⟨⟨A, c, xs⟩, h1, h5, h2, h3, h4⟩
set_option maxRecDepth 100000 in
set_option maxHeartbeats 1600000 in
theorem poolc_open {H : Type} {enc : TypeId × Value → H} {W : World} (n : Nat) (cs : List Value) (y : DataW H × List MemPlace)
    (h : DataW.trod enc Tryz.prog W 0 (fun _ => true) true n 72 cs = some y) (hy : Light Tryz.prog 72 y.1) : ∃ x : PL, cs = x.cl ∧ x.In W := by
  obtain ⟨hl, m, hf⟩ := fieldsW Tryz.underlying72 h hy
  obtain ⟨c0, c1, c2, c3, c4, c5, c6, c7, c8, rfl⟩ := list9 (hl.trans (by kernel_rfl))
  have k1 : Tryz.prog.cellsOf 3 = 1 := by kernel_rfl
  have k2 : Tryz.prog.cellsOf 9 = 1 := by kernel_rfl
  have k3 : Tryz.prog.cellsOf 70 = 1 := by kernel_rfl
  have k4 : Tryz.prog.cellsOf 68 = 1 := by kernel_rfl
  obtain ⟨z0, h0, l0⟩ := hf 0 _ rfl
  change DataW.trod enc Tryz.prog W 0 (fun _ => true) true m 3 (([c0, c1, c2, c3, c4, c5, c6, c7, c8].drop 0).take (Tryz.prog.cellsOf 3)) = some z0 at h0
  obtain ⟨z1, h1, l1⟩ := hf 1 _ rfl
  change DataW.trod enc Tryz.prog W 0 (fun _ => true) true m 9 (([c0, c1, c2, c3, c4, c5, c6, c7, c8].drop 1).take (Tryz.prog.cellsOf 9)) = some z1 at h1
  obtain ⟨z2, h2, l2⟩ := hf 2 _ rfl
  change DataW.trod enc Tryz.prog W 0 (fun _ => true) true m 3 (([c0, c1, c2, c3, c4, c5, c6, c7, c8].drop 2).take (Tryz.prog.cellsOf 3)) = some z2 at h2
  obtain ⟨z3, h3, l3⟩ := hf 3 _ rfl
  change DataW.trod enc Tryz.prog W 0 (fun _ => true) true m 3 (([c0, c1, c2, c3, c4, c5, c6, c7, c8].drop 3).take (Tryz.prog.cellsOf 3)) = some z3 at h3
  obtain ⟨z4, h4, l4⟩ := hf 4 _ rfl
  change DataW.trod enc Tryz.prog W 0 (fun _ => true) true m 3 (([c0, c1, c2, c3, c4, c5, c6, c7, c8].drop 4).take (Tryz.prog.cellsOf 3)) = some z4 at h4
  obtain ⟨z5, h5, l5⟩ := hf 5 _ rfl
  change DataW.trod enc Tryz.prog W 0 (fun _ => true) true m 3 (([c0, c1, c2, c3, c4, c5, c6, c7, c8].drop 5).take (Tryz.prog.cellsOf 3)) = some z5 at h5
  obtain ⟨z6, h6, l6⟩ := hf 6 _ rfl
  change DataW.trod enc Tryz.prog W 0 (fun _ => true) true m 3 (([c0, c1, c2, c3, c4, c5, c6, c7, c8].drop 6).take (Tryz.prog.cellsOf 3)) = some z6 at h6
  obtain ⟨z7, h7, l7⟩ := hf 7 _ rfl
  change DataW.trod enc Tryz.prog W 0 (fun _ => true) true m 3 (([c0, c1, c2, c3, c4, c5, c6, c7, c8].drop 7).take (Tryz.prog.cellsOf 3)) = some z7 at h7
  obtain ⟨z8, h8, l8⟩ := hf 8 _ rfl
  change DataW.trod enc Tryz.prog W 0 (fun _ => true) true m 70 (([c0, c1, c2, c3, c4, c5, c6, c7, c8].drop 8).take (Tryz.prog.cellsOf 70)) = some z8 at h8
  simp only [k1, k2, k3, List.drop_zero, List.take_succ_cons, List.take_zero, List.drop_succ_cons] at h0 h1 h2 h3 h4 h5 h6 h7 h8
  obtain ⟨a0, e0, -, -⟩ := DataW.trod_int Tryz.underlying3 h0
  obtain ⟨a2, e2, -, -⟩ := DataW.trod_int Tryz.underlying3 h2
  obtain ⟨a3, e3, -, -⟩ := DataW.trod_int Tryz.underlying3 h3
  obtain ⟨a4, e4, -, -⟩ := DataW.trod_int Tryz.underlying3 h4
  obtain ⟨a5, e5, -, -⟩ := DataW.trod_int Tryz.underlying3 h5
  obtain ⟨a6, e6, -, -⟩ := DataW.trod_int Tryz.underlying3 h6
  obtain ⟨a7, e7, -, -⟩ := DataW.trod_int Tryz.underlying3 h7
  obtain ⟨a1, e1, b1⟩ := str_openW h1 l1
  obtain ⟨-, m2, hf2⟩ := fieldsW Tryz.underlying70 h8 l8
  obtain ⟨z9, h9, l9⟩ := hf2 0 _ rfl
  change DataW.trod enc Tryz.prog W 0 (fun _ => true) true m2 68 (([c8].drop 0).take (Tryz.prog.cellsOf 68)) = some z9 at h9
  simp only [k4, List.drop_zero, List.take_succ_cons, List.take_zero] at h9
  obtain ⟨A9, a9, C9, e9, p9, q9, r9, s9, t9⟩ := open_slW (fun x : IL => [x.val]) (fun x => x.In W) Tryz.underlying68 (by kernel_rfl) (k := 1) (by omega) (bs := 24) (by kernel_rfl) (fun n cs y hy _ => ilc_open n cs y hy) h9 l9
  simp at e0 e1 e2 e3 e4 e5 e6 e7 e9
  subst e0 e1 e2 e3 e4 e5 e6 e7 e9
  exact ⟨⟨⟨a0, a1, a2, a3, a4, a5, a6, a7, Rw.xss a9⟩, A9, C9, a9⟩, rfl, ⟨⟨t9, s9⟩, rfl, by dsimp only; omega, by dsimp only; omega⟩⟩
instance : Inhabited It.Item := ⟨⟨0, 0, 0, ⟨#[]⟩, [], [], 0, 0, [], 0, ⟨#[]⟩, 0, 0, 0, 0, [], 0⟩⟩
instance : Inhabited It.Loc := ⟨⟨none, 0, none, 0, none, 0, none, 0⟩⟩
instance : Inhabited Rs.Ans := ⟨⟨0, [], 0, ⟨#[]⟩, false⟩⟩
instance : Inhabited Rw.PItem := ⟨⟨0, ⟨#[]⟩, 0, 0, 0, 0, 0, 0, []⟩⟩
instance : Inhabited PL := ⟨⟨default, none, 0, []⟩⟩
set_option maxRecDepth 100000 in
theorem items_open {H : Type} {enc : TypeId × Value → H} {W : World} {base : Nat} {v : Value} {d : DataW H} {p : List MemPlace} (hv : Value.okWide Tryz.prog W .any base 22 v)
    (h : DataW.Trod enc Tryz.prog W 0 (fun _ => true) true 22 v d p) (hd : Light Tryz.prog 22 d) : ∃ (A : Option Addr) (c : Nat) (xs : List Rt.ItL), v = .slice A xs.length c ∧ Rt.SlIt W A xs ∧ xs.length ≤ c ∧ c ≤ maxLen ∧ c * 216 ≤ 140737488351232 := by
  obtain ⟨A0, n0, c0, rfl⟩ := okWide_slice Tryz.underlying22 hv
  obtain ⟨fuel, hf⟩ := h
  obtain ⟨A, xs, c, h1, h2, h3, h4, h5, h6⟩ := open_slW Rt.cl (fun x => It.In W x.1 x.2) Tryz.underlying22 (by kernel_rfl) (k := 17) (by omega) (bs := 216) (by kernel_rfl) itemc_open hf hd
  simp [Value.cells] at h1
  obtain ⟨rfl, rfl, rfl⟩ := h1
  exact ⟨_, _, xs, rfl, ⟨h6, h5⟩, h2, h3, h4⟩
set_option maxRecDepth 100000 in
theorem changes_open {H : Type} {enc : TypeId × Value → H} {W : World} {base : Nat} {v : Value} {d : DataW H} {p : List MemPlace} (hv : Value.okWide Tryz.prog W .any base 43 v)
    (h : DataW.Trod enc Tryz.prog W 0 (fun _ => true) true 43 v d p) (hd : Light Tryz.prog 43 d) : ∃ (A : Option Addr) (c : Nat) (xs : List Rt.ChL), v = .slice A xs.length c ∧ Rt.SlCh W A xs ∧ xs.length ≤ c ∧ c ≤ maxLen ∧ c * 224 ≤ 140737488351232 := by
  obtain ⟨A0, n0, c0, rfl⟩ := okWide_slice Tryz.underlying43 hv
  obtain ⟨fuel, hf⟩ := h
  obtain ⟨A, xs, c, h1, h2, h3, h4, h5, h6⟩ := open_slW Rt.cch (fun x => It.In W x.1.1 x.1.2) Tryz.underlying43 (by kernel_rfl) (k := 18) (by omega) (bs := 224) (by kernel_rfl) chgc_open hf hd
  simp [Value.cells] at h1
  obtain ⟨rfl, rfl, rfl⟩ := h1
  exact ⟨_, _, xs, rfl, ⟨h6, h5⟩, h2, h3, h4⟩
set_option maxRecDepth 100000 in
theorem answers_open {H : Type} {enc : TypeId × Value → H} {W : World} {base : Nat} {v : Value} {d : DataW H} {p : List MemPlace} (hv : Value.okWide Tryz.prog W .any base 23 v)
    (h : DataW.Trod enc Tryz.prog W 0 (fun _ => true) true 23 v d p) (hd : Light Tryz.prog 23 d) : ∃ (A : Option Addr) (c : Nat) (xs : List Rt.AnL), v = .slice A xs.length c ∧ Rt.SlAn W A xs ∧ xs.length ≤ c ∧ c ≤ maxLen ∧ c * 64 ≤ 140737488351232 := by
  obtain ⟨A0, n0, c0, rfl⟩ := okWide_slice Tryz.underlying23 hv
  obtain ⟨fuel, hf⟩ := h
  obtain ⟨A, xs, c, h1, h2, h3, h4, h5, h6⟩ := open_slW Rt.acl (fun x => x.1.In W x.2) Tryz.underlying23 (by kernel_rfl) (k := 5) (by omega) (bs := 64) (by kernel_rfl) ansc_open hf hd
  simp [Value.cells] at h1
  obtain ⟨rfl, rfl, rfl⟩ := h1
  exact ⟨_, _, xs, rfl, ⟨h6, h5⟩, h2, h3, h4⟩
set_option maxRecDepth 100000 in
theorem steps_open {H : Type} {enc : TypeId × Value → H} {W : World} {base : Nat} {v : Value} {d : DataW H} {p : List MemPlace} (hv : Value.okWide Tryz.prog W .any base 24 v)
    (h : DataW.Trod enc Tryz.prog W 0 (fun _ => true) true 24 v d p) (hd : Light Tryz.prog 24 d) : ∃ (A : Option Addr) (c : Nat) (xs : List Rs.Stp), v = .slice A xs.length c ∧ Rt.SlSt W A xs ∧ (∀ x ∈ xs, In64 x.1 ∧ In64 x.2) ∧ xs.length ≤ c ∧ c ≤ maxLen ∧ c * 16 ≤ 140737488351232 := by
  obtain ⟨A0, n0, c0, rfl⟩ := okWide_slice Tryz.underlying24 hv
  obtain ⟨fuel, hf⟩ := h
  obtain ⟨A, xs, c, h1, h2, h3, h4, h5, h6⟩ := open_slW Rt.scl (fun x : Rs.Stp => In64 x.1 ∧ In64 x.2) Tryz.underlying24 (by kernel_rfl) (k := 2) (by omega) (bs := 16) (by kernel_rfl) stepc_open hf hd
  simp [Value.cells] at h1
  obtain ⟨rfl, rfl, rfl⟩ := h1
  exact ⟨_, _, xs, rfl, h6, h5, h2, h3, h4⟩
set_option maxRecDepth 100000 in
theorem pool_open {H : Type} {enc : TypeId × Value → H} {W : World} {base : Nat} {v : Value} {d : DataW H} {p : List MemPlace} (hv : Value.okWide Tryz.prog W .any base 37 v)
    (h : DataW.Trod enc Tryz.prog W 0 (fun _ => true) true 37 v d p) (hd : Light Tryz.prog 37 d) : ∃ (A : Option Addr) (c : Nat) (xs : List PL), v = .slice A xs.length c ∧ SlPo W A xs ∧ xs.length ≤ c ∧ c ≤ maxLen ∧ c * 96 ≤ 140737488351232 := by
  obtain ⟨A0, n0, c0, rfl⟩ := okWide_slice Tryz.underlying37 hv
  obtain ⟨fuel, hf⟩ := h
  obtain ⟨A, xs, c, h1, h2, h3, h4, h5, h6⟩ := open_slW PL.cl (fun x => x.In W) Tryz.underlying37 (by kernel_rfl) (k := 9) (by omega) (bs := 96) (by kernel_rfl) poolc_open hf hd
  simp [Value.cells] at h1
  obtain ⟨rfl, rfl, rfl⟩ := h1
  exact ⟨_, _, xs, rfl, ⟨h6, h5⟩, h2, h3, h4⟩
set_option maxRecDepth 100000 in
theorem grid_open {H : Type} {enc : TypeId × Value → H} {W : World} {base : Nat} {v : Value} {d : DataW H} {p : List MemPlace} (hv : Value.okWide Tryz.prog W .any base 36 v)
    (h : DataW.Trod enc Tryz.prog W 0 (fun _ => true) true 36 v d p) : ∃ (x y : IL), v = .agg #[x.val, y.val] ∧ x.In W ∧ y.In W := by
  obtain ⟨c0, c1, y0, y1, m, rfl, rfl, rfl, hy0, hy1⟩ := Joins.open_agg2 Tryz.underlying36 (by kernel_rfl) (by kernel_rfl) hv h
  obtain ⟨x, e0, hx⟩ := ilc_open _ _ _ hy0
  obtain ⟨y, e1, hy⟩ := ilc_open _ _ _ hy1
  simp at e0 e1
  subst e0 e1
  exact ⟨x, y, rfl, hx, hy⟩
end Go.Proofs.YtgaepmddbjdhfaaGreatDoor
namespace Go.Proofs.YtgaepmddbjdhfaaGreatDoor
theorem bulk_all {H : Type} : ∀ l : List (DataW H), l.length ≤ Rows.uptoBulkAll l
  | [] => Nat.zero_le _
  | d :: l => by
    have h1 := bulk_all l
    have h2 : 1 ≤ Rows.uptoBulk d := by
      cases d with
      | lit x => cases x <;> simp [Rows.uptoBulk]
      | _ => simp [Rows.uptoBulk]
    simp only [Rows.uptoBulkAll, List.length_cons]
    omega
theorem bulk_slice {H : Type} {enc : TypeId × Value → H} {W : World} {A : Option Addr} {n c : Nat} {t e : TypeId} {d : DataW H} {p : List MemPlace} (ht : Tryz.prog.underlying t = some (.slice e))
    (h : DataW.Trod enc Tryz.prog W 0 (fun _ => true) true t (.slice A n c) d p) : n ≤ Rows.uptoBulk d := by
  obtain ⟨fuel, hf⟩ := h
  rcases Deep.open_slice ht hf with ⟨hc, _⟩ | ⟨a, len, cap, m, k, D, Pl, hc, hb, hl, hm, hmm, hyy, hx⟩
  · simp [Value.cells] at hc
    obtain ⟨-, rfl, -⟩ := hc
    exact Nat.zero_le _
  · simp [Value.cells] at hc
    obtain ⟨-, rfl, -⟩ := hc
    have hd := congrArg Prod.fst hyy
    simp only at hd
    rw [hd]
    have h1 := bulk_all ((List.range n).map D)
    simp only [List.length_map, List.length_range] at h1
    simp only [Rows.uptoBulk]
    omega
theorem bulk_three {H : Type} {d1 d2 d3 : DataW H} (h : Rows.uptoSmall H [d1, d2, d3] = true) : Rows.uptoBulk d1 ≤ 1048576 ∧ Rows.uptoBulk d2 ≤ 1048576 ∧ Rows.uptoBulk d3 ≤ 1048576 := by
  have h := of_decide_eq_true h
  simp only [Rows.uptoBulkAll] at h
  omega
end Go.Proofs.YtgaepmddbjdhfaaGreatDoor
