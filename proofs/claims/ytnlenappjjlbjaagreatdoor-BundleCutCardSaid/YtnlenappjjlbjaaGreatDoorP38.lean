/- How items and bytes come out of a row's reading. Conditions: those of each theorem. -/
import Derived.Test.YtnlenappjjlbjaaGreatDoorP36
import Derived.Test.YtnlenappjjlbjaaGreatDoorP37
import Derived.Lib.SmallJoins
import Derived.Test.YtnlenappjjlbjaaGreatDoorCards
import Derived.Test.YtnlenappjjlbjaaGreatDoorTie
import Derived.LaidMore
import Derived.LaidSub
import Derived.MakeChecks
import Derived.Lib.LaidTab
import Derived.Deep.DeepHandedRow
import Derived.SevenTiedAt
import Derived.Shelf.Vars
namespace Go.Proofs.YtnlenappjjlbjaaGreatDoor
open Go.ChangeShapes Go.WideShapes Go.ChangeAt Go.RowKit
instance : Inhabited It.Item := ⟨⟨0, 0, 0, ⟨#[]⟩, [], [], 0, 0, [], 0, ⟨#[]⟩, 0, 0, 0, 0, [], 0⟩⟩
instance : Inhabited It.Loc := ⟨⟨none, 0, none, 0, none, 0, none, 0⟩⟩
set_option maxRecDepth 100000 in
theorem str_openW {H : Type} {enc : TypeId × Value → H} {W : World} {n : Nat} {cs : List Value} {y : DataW H × List MemPlace} (h : DataW.trod enc Tryz.prog W 0 (fun _ => true) true n 9 cs = some y) (hl : Light Tryz.prog 9 y.1) : ∃ x : ByteArray, cs = [.string x] ∧ x.size ≤ 140737488351232 := by
  obtain ⟨s, e, rfl, -⟩ := DataW.trod_string Tryz.underlying9 h
  refine ⟨s, e, ?_⟩
  have := light_str hl
  simpa using this
theorem list17 {α : Type} {l : List α} (h : l.length = 17) : ∃ c0 c1 c2 c3 c4 c5 c6 c7 c8 c9 c10 c11 c12 c13 c14 c15 c16, l = [c0, c1, c2, c3, c4, c5, c6, c7, c8, c9, c10, c11, c12, c13, c14, c15, c16] := by
  match l, h with
  | [c0, c1, c2, c3, c4, c5, c6, c7, c8, c9, c10, c11, c12, c13, c14, c15, c16], _ => exact ⟨c0, c1, c2, c3, c4, c5, c6, c7, c8, c9, c10, c11, c12, c13, c14, c15, c16, rfl⟩
set_option maxRecDepth 100000 in
set_option maxHeartbeats 1600000 in
theorem itemc_open {H : Type} {enc : TypeId × Value → H} {W : World} (n : Nat) (cs : List Value) (y : DataW H × List MemPlace)
    (h : DataW.trod enc Tryz.prog W 0 (fun _ => true) true n 45 cs = some y) (hy : Light Tryz.prog 45 y.1) : ∃ q : It.Item × It.Loc, cs = It.cells q.1 q.2 ∧ It.In W q.1 q.2 := by
  obtain ⟨hl, m, hf⟩ := fieldsW Tryz.underlying45 h hy
  obtain ⟨c0, c1, c2, c3, c4, c5, c6, c7, c8, c9, c10, c11, c12, c13, c14, c15, c16, rfl⟩ := list17 (hl.trans (by kernel_rfl))
  have k3 : Tryz.prog.cellsOf 3 = 1 := by kernel_rfl
  have k9 : Tryz.prog.cellsOf 9 = 1 := by kernel_rfl
  have ks : Tryz.prog.cellsOf 42 = 1 := by kernel_rfl
  have ki : Tryz.prog.cellsOf 43 = 1 := by kernel_rfl
  obtain ⟨z0, h0, l0⟩ := hf 0 _ rfl
  change DataW.trod enc Tryz.prog W 0 (fun _ => true) true m 3 (([c0, c1, c2, c3, c4, c5, c6, c7, c8, c9, c10, c11, c12, c13, c14, c15, c16].drop 0).take (Tryz.prog.cellsOf 3)) = some z0 at h0
  obtain ⟨z1, h1, l1⟩ := hf 1 _ rfl
  change DataW.trod enc Tryz.prog W 0 (fun _ => true) true m 3 (([c0, c1, c2, c3, c4, c5, c6, c7, c8, c9, c10, c11, c12, c13, c14, c15, c16].drop 1).take (Tryz.prog.cellsOf 3)) = some z1 at h1
  obtain ⟨z2, h2, l2⟩ := hf 2 _ rfl
  change DataW.trod enc Tryz.prog W 0 (fun _ => true) true m 3 (([c0, c1, c2, c3, c4, c5, c6, c7, c8, c9, c10, c11, c12, c13, c14, c15, c16].drop 2).take (Tryz.prog.cellsOf 3)) = some z2 at h2
  obtain ⟨z3, h3, l3⟩ := hf 3 _ rfl
  change DataW.trod enc Tryz.prog W 0 (fun _ => true) true m 9 (([c0, c1, c2, c3, c4, c5, c6, c7, c8, c9, c10, c11, c12, c13, c14, c15, c16].drop 3).take (Tryz.prog.cellsOf 9)) = some z3 at h3
  obtain ⟨z4, h4, l4⟩ := hf 4 _ rfl
  change DataW.trod enc Tryz.prog W 0 (fun _ => true) true m 42 (([c0, c1, c2, c3, c4, c5, c6, c7, c8, c9, c10, c11, c12, c13, c14, c15, c16].drop 4).take (Tryz.prog.cellsOf 42)) = some z4 at h4
  obtain ⟨z5, h5, l5⟩ := hf 5 _ rfl
  change DataW.trod enc Tryz.prog W 0 (fun _ => true) true m 43 (([c0, c1, c2, c3, c4, c5, c6, c7, c8, c9, c10, c11, c12, c13, c14, c15, c16].drop 5).take (Tryz.prog.cellsOf 43)) = some z5 at h5
  obtain ⟨z6, h6, l6⟩ := hf 6 _ rfl
  change DataW.trod enc Tryz.prog W 0 (fun _ => true) true m 3 (([c0, c1, c2, c3, c4, c5, c6, c7, c8, c9, c10, c11, c12, c13, c14, c15, c16].drop 6).take (Tryz.prog.cellsOf 3)) = some z6 at h6
  obtain ⟨z7, h7, l7⟩ := hf 7 _ rfl
  change DataW.trod enc Tryz.prog W 0 (fun _ => true) true m 3 (([c0, c1, c2, c3, c4, c5, c6, c7, c8, c9, c10, c11, c12, c13, c14, c15, c16].drop 7).take (Tryz.prog.cellsOf 3)) = some z7 at h7
  obtain ⟨z8, h8, l8⟩ := hf 8 _ rfl
  change DataW.trod enc Tryz.prog W 0 (fun _ => true) true m 42 (([c0, c1, c2, c3, c4, c5, c6, c7, c8, c9, c10, c11, c12, c13, c14, c15, c16].drop 8).take (Tryz.prog.cellsOf 42)) = some z8 at h8
  obtain ⟨z9, h9, l9⟩ := hf 9 _ rfl
  change DataW.trod enc Tryz.prog W 0 (fun _ => true) true m 3 (([c0, c1, c2, c3, c4, c5, c6, c7, c8, c9, c10, c11, c12, c13, c14, c15, c16].drop 9).take (Tryz.prog.cellsOf 3)) = some z9 at h9
  obtain ⟨z10, h10, l10⟩ := hf 10 _ rfl
  change DataW.trod enc Tryz.prog W 0 (fun _ => true) true m 9 (([c0, c1, c2, c3, c4, c5, c6, c7, c8, c9, c10, c11, c12, c13, c14, c15, c16].drop 10).take (Tryz.prog.cellsOf 9)) = some z10 at h10
  obtain ⟨z11, h11, l11⟩ := hf 11 _ rfl
  change DataW.trod enc Tryz.prog W 0 (fun _ => true) true m 3 (([c0, c1, c2, c3, c4, c5, c6, c7, c8, c9, c10, c11, c12, c13, c14, c15, c16].drop 11).take (Tryz.prog.cellsOf 3)) = some z11 at h11
  obtain ⟨z12, h12, l12⟩ := hf 12 _ rfl
  change DataW.trod enc Tryz.prog W 0 (fun _ => true) true m 3 (([c0, c1, c2, c3, c4, c5, c6, c7, c8, c9, c10, c11, c12, c13, c14, c15, c16].drop 12).take (Tryz.prog.cellsOf 3)) = some z12 at h12
  obtain ⟨z13, h13, l13⟩ := hf 13 _ rfl
  change DataW.trod enc Tryz.prog W 0 (fun _ => true) true m 3 (([c0, c1, c2, c3, c4, c5, c6, c7, c8, c9, c10, c11, c12, c13, c14, c15, c16].drop 13).take (Tryz.prog.cellsOf 3)) = some z13 at h13
  obtain ⟨z14, h14, l14⟩ := hf 14 _ rfl
  change DataW.trod enc Tryz.prog W 0 (fun _ => true) true m 3 (([c0, c1, c2, c3, c4, c5, c6, c7, c8, c9, c10, c11, c12, c13, c14, c15, c16].drop 14).take (Tryz.prog.cellsOf 3)) = some z14 at h14
  obtain ⟨z15, h15, l15⟩ := hf 15 _ rfl
  change DataW.trod enc Tryz.prog W 0 (fun _ => true) true m 43 (([c0, c1, c2, c3, c4, c5, c6, c7, c8, c9, c10, c11, c12, c13, c14, c15, c16].drop 15).take (Tryz.prog.cellsOf 43)) = some z15 at h15
  obtain ⟨z16, h16, l16⟩ := hf 16 _ rfl
  change DataW.trod enc Tryz.prog W 0 (fun _ => true) true m 3 (([c0, c1, c2, c3, c4, c5, c6, c7, c8, c9, c10, c11, c12, c13, c14, c15, c16].drop 16).take (Tryz.prog.cellsOf 3)) = some z16 at h16
  simp only [k3, k9, ks, ki, List.drop_zero, List.take_succ_cons, List.take_zero, List.drop_succ_cons] at h0 h1 h2 h3 h4 h5 h6 h7 h8 h9 h10 h11 h12 h13 h14 h15 h16
  obtain ⟨a0, e0, -, w0⟩ := DataW.trod_int Tryz.underlying3 h0
  obtain ⟨a1, e1, -, w1⟩ := DataW.trod_int Tryz.underlying3 h1
  obtain ⟨a2, e2, -, w2⟩ := DataW.trod_int Tryz.underlying3 h2
  obtain ⟨a3, e3, b3⟩ := str_openW h3 l3
  obtain ⟨A4, a4, C4, e4, p4, q4, r4, s4, t4⟩ := open_slW (fun x : ByteArray => [.string x]) (fun x => x.size ≤ 140737488351232) Tryz.underlying42 (by kernel_rfl) (k := 1) (by omega) (bs := 16) (by kernel_rfl) (fun n cs y hy hl => str_openW hy hl) h4 l4
  obtain ⟨A5, a5, C5, e5, p5, q5, r5, s5, t5⟩ := open_slW (fun x : Int => [.int .i64 x]) In64 Tryz.underlying43 (by kernel_rfl) (k := 1) (by omega) (bs := 8) (by kernel_rfl) (fun n cs y hy _ => by
    obtain ⟨x, h1, _, h3⟩ := DataW.trod_int Tryz.underlying3 hy
    exact ⟨x, h1, in64_of_wf h3⟩) h5 l5
  obtain ⟨a6, e6, -, w6⟩ := DataW.trod_int Tryz.underlying3 h6
  obtain ⟨a7, e7, -, w7⟩ := DataW.trod_int Tryz.underlying3 h7
  obtain ⟨A8, a8, C8, e8, p8, q8, r8, s8, t8⟩ := open_slW (fun x : ByteArray => [.string x]) (fun x => x.size ≤ 140737488351232) Tryz.underlying42 (by kernel_rfl) (k := 1) (by omega) (bs := 16) (by kernel_rfl) (fun n cs y hy hl => str_openW hy hl) h8 l8
  obtain ⟨a9, e9, -, w9⟩ := DataW.trod_int Tryz.underlying3 h9
  obtain ⟨a10, e10, b10⟩ := str_openW h10 l10
  obtain ⟨a11, e11, -, w11⟩ := DataW.trod_int Tryz.underlying3 h11
  obtain ⟨a12, e12, -, w12⟩ := DataW.trod_int Tryz.underlying3 h12
  obtain ⟨a13, e13, -, w13⟩ := DataW.trod_int Tryz.underlying3 h13
  obtain ⟨a14, e14, -, w14⟩ := DataW.trod_int Tryz.underlying3 h14
  obtain ⟨A15, a15, C15, e15, p15, q15, r15, s15, t15⟩ := open_slW (fun x : Int => [.int .i64 x]) In64 Tryz.underlying43 (by kernel_rfl) (k := 1) (by omega) (bs := 8) (by kernel_rfl) (fun n cs y hy _ => by
    obtain ⟨x, h1, _, h3⟩ := DataW.trod_int Tryz.underlying3 hy
    exact ⟨x, h1, in64_of_wf h3⟩) h15 l15
  obtain ⟨a16, e16, -, w16⟩ := DataW.trod_int Tryz.underlying3 h16
  simp at e0 e1 e2 e3 e4 e5 e6 e7 e8 e9 e10 e11 e12 e13 e14 e15 e16
  subst e0 e1 e2 e3 e4 e5 e6 e7 e8 e9 e10 e11 e12 e13 e14 e15 e16
  refine ⟨(⟨a0, a1, a2, a3, a4, a5, a6, a7, a8, a9, a10, a11, a12, a13, a14, a15, a16⟩, ⟨A4, C4, A5, C5, A8, C8, A15, C15⟩), rfl, ⟨in64_of_wf w0, in64_of_wf w1, in64_of_wf w2, in64_of_wf w6, in64_of_wf w7, in64_of_wf w9, in64_of_wf w11, in64_of_wf w12, in64_of_wf w13, in64_of_wf w14, in64_of_wf w16, b3, b10, s4, s8, s5, s15, ?_, ?_, ?_, ?_⟩, t4, t5, t8, t15, ⟨p4, q4⟩, ⟨p5, q5⟩, ⟨p8, q8⟩, ⟨p15, q15⟩⟩
  all_goals (dsimp only; omega)
def valLaid : DataW Unit → Array Value
  | .agg l => (l.map fun | .lit (.int k n) => Value.int k n | .lit (.string s) => Value.string ⟨s.toArray⟩ | _ => undef).toArray
  | _ => #[]
noncomputable def laidW (os : Os) : World :=
  { World.doorLaid Tryz.prog 4000 os with heap := (World.doorLaid Tryz.prog 4000 os).heap.modify 1 fun
      | .cells _ t frozen => .cells (valLaid Rows.laid_unicode_utf8_first) t frozen
      | o => o }

set_option maxRecDepth 100000 in
theorem items_open {H : Type} {enc : TypeId × Value → H} {W : World} {base : Nat} {v : Value} {d : DataW H} {p : List MemPlace} (hv : Value.okWide Tryz.prog W .any base 23 v)
    (h : DataW.Trod enc Tryz.prog W 0 (fun _ => true) true 23 v d p) (hd : Light Tryz.prog 23 d) : ∃ (A : Option Addr) (c : Nat) (xs : List Rt.ItL), v = .slice A xs.length c ∧ Rt.SlIt W A xs ∧ xs.length ≤ c ∧ c ≤ maxLen ∧ c * 216 ≤ 140737488351232 := by
  obtain ⟨A0, n0, c0, rfl⟩ := okWide_slice Tryz.underlying23 hv
  obtain ⟨fuel, hf⟩ := h
  obtain ⟨A, xs, c, h1, h2, h3, h4, h5, h6⟩ := open_slW Rt.cl (fun x => It.In W x.1 x.2) Tryz.underlying23 (by kernel_rfl) (k := 17) (by omega) (bs := 216) (by kernel_rfl) itemc_open hf hd
  simp [Value.cells] at h1
  obtain ⟨rfl, rfl, rfl⟩ := h1
  exact ⟨_, _, xs, rfl, ⟨h6, h5⟩, h2, h3, h4⟩
theorem u8_wf {x : Int} (h : (Lit.int .u8 x).wf = true) : 0 ≤ x ∧ x < 256 := by
  simp [Lit.wf, IntKind.min, IntKind.max, IntKind.signed, IntKind.bits] at h
  omega
theorem u16_wf {x : Int} (h : (Lit.int .u16 x).wf = true) : 0 ≤ x ∧ x < 65536 := by
  simp [Lit.wf, IntKind.min, IntKind.max, IntKind.signed, IntKind.bits] at h
  omega
theorem u64_wf {x : Int} (h : (Lit.int .u64 x).wf = true) : Bu.U64 x := by
  simp [Lit.wf, IntKind.min, IntKind.max, IntKind.signed, IntKind.bits] at h
  unfold Bu.U64
  omega
set_option maxRecDepth 100000 in
theorem bytes_open {H : Type} {enc : TypeId × Value → H} {W : World} {base : Nat} {v : Value} {d : DataW H} {p : List MemPlace} (hv : Value.okWide Tryz.prog W .any base 24 v)
    (h : DataW.Trod enc Tryz.prog W 0 (fun _ => true) true 24 v d p) (hd : Light Tryz.prog 24 d) : ∃ (A : Option Addr) (c : Nat) (xs : List Int), v = .slice A xs.length c ∧ SlU W A xs ∧ Bu.Byt xs ∧ xs.length ≤ c ∧ c ≤ maxLen ∧ c * 1 ≤ 140737488351232 := by
  obtain ⟨A0, n0, c0, rfl⟩ := okWide_slice Tryz.underlying24 hv
  obtain ⟨fuel, hf⟩ := h
  obtain ⟨A, xs, c, h1, h2, h3, h4, h5, h6⟩ := open_slW (fun x : Int => [.int .u8 x]) (fun x => 0 ≤ x ∧ x < 256) Tryz.underlying24 (by kernel_rfl) (k := 1) (by omega) (bs := 1) (by kernel_rfl) (fun n cs y hy _ => by
    obtain ⟨x, h1, _, h3⟩ := DataW.trod_int Tryz.underlying5 hy
    exact ⟨x, h1, u8_wf h3⟩) hf hd
  simp [Value.cells] at h1
  obtain ⟨rfl, rfl, rfl⟩ := h1
  exact ⟨_, _, xs, rfl, h6, h5, h2, h3, h4⟩
end Go.Proofs.YtnlenappjjlbjaaGreatDoor
