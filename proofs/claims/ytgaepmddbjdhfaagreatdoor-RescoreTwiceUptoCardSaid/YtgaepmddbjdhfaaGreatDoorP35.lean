/- The law's choice, slice literals of whole structs. Conditions: those of each theorem. The law's awake: the chapter's example. Conditions: those of each theorem. -/
import Derived.Test.YtgaepmddbjdhfaaGreatDoorP28
import Derived.Test.YtgaepmddbjdhfaaGreatDoorP32
import Derived.Test.YtgaepmddbjdhfaaGreatDoorP33
import Derived.Great.Walk
namespace Go.Proofs.YtgaepmddbjdhfaaGreatDoor
open Go.ChangeShapes Go.WideShapes Go.ChangeAt Go.RowKit
theorem rowSet_at {w : World} {g : Nat} {cs cs' : Array Value} {t : TypeId} (h : w.heap[g]? = some (.cells cs t (0, 0))) : (w.setRow g cs').heap[g]? = some (.cells cs' t (0, 0)) := by
  simp [World.setRow, Array.getElem?_modify, h]
theorem ch_ok {i v k : Int} (hi : In64 i) (hv : In64 v) (hk : In64 k) : It.Ok (Rx.chI i v k) := by
  refine ⟨?_, ?_, ?_, ?_, ?_, ?_, ?_, ?_, ?_, ?_, ?_, ?_, ?_, ?_, ?_, ?_, ?_, ?_, ?_, ?_, ?_⟩
  · exact hi
  · exact hv
  all_goals first
    | (simp only [Rx.chI, In64]; omega)
    | (simp only [Rx.chI]; decide)
    | (simp only [Rx.chI, List.length_cons, List.length_nil]; omega)
    | (intro x hx; simp only [Rx.chI, List.not_mem_nil] at hx; done)
    | (intro x hx; simp only [Rx.chI, List.mem_cons, List.not_mem_nil, or_false] at hx; first | (exact hx.elim) | (subst hx; exact hk) | (rcases hx with rfl | rfl <;> decide))
set_option maxRecDepth 100000 in
set_option maxHeartbeats 6400000 in
theorem choice_any (i v k : Int) (hi : In64 i) (hv : In64 v) (hk : In64 k) (w : World) : Calls Tryz.prog 30 #[.int .i64 i, .int .i64 v, .int .i64 k] w fun e w' => (∃ L, e = .returned (It.agg (Rx.chI i v k) L) ∧ It.In w' (Rx.chI i v k) L) ∧ Ext w w' := by
  go_enter Tryz.func30, Tryz.ntmps30
  have h0 : (((w.alloc (.cells #[.int .i64 0, .int .i64 0, .int .i64 0, .string ⟨#[]⟩, .slice none 0 0, .slice none 0 0, .int .i64 0, .int .i64 0, .slice none 0 0, .int .i64 0, .string ⟨#[]⟩, .int .i64 0, .int .i64 0, .int .i64 0, .int .i64 0, .slice none 0 0, .int .i64 0] 55)).alloc (.cells #[.string ⟨#[49]⟩, .string ⟨#[50]⟩] 9)).alloc (.cells #[.int .i64 k] 3)).heap[w.heap.size]? = some (.cells #[.int .i64 0, .int .i64 0, .int .i64 0, .string ⟨#[]⟩, .slice none 0 0, .slice none 0 0, .int .i64 0, .int .i64 0, .slice none 0 0, .int .i64 0, .string ⟨#[]⟩, .int .i64 0, .int .i64 0, .int .i64 0, .int .i64 0, .slice none 0 0, .int .i64 0] 55 (0, 0)) :=
    (((Ext.refl _).alloc _).alloc _).blockAt (heap_alloc_new w _)
  have H0 := Lib.hid h0
  clear h0
  go_wp2_with (refine wpList_store_row rfl _ _ _ rfl w.heap.size #[.int .i64 i, .int .i64 v, .int .i64 1, .string ⟨#[115]⟩, .slice (some ⟨w.heap.size + 1, 0, none⟩) 2 2, .slice (some ⟨w.heap.size + 1 + 1, 0, none⟩) 1 1, .int .i64 0, .int .i64 0, .slice none 0 0, .int .i64 1, .string ⟨#[65]⟩, .int .i64 0, .int .i64 0, .int .i64 0, .int .i64 30, .slice none 0 0, .int .i64 0] rfl rfl _ #[.int .i64 0, .int .i64 0, .int .i64 0, .string ⟨#[]⟩, .slice none 0 0, .slice none 0 0, .int .i64 0, .int .i64 0, .slice none 0 0, .int .i64 0, .string ⟨#[]⟩, .int .i64 0, .int .i64 0, .int .i64 0, .int .i64 0, .slice none 0 0, .int .i64 0] H0.out (by kernel_rfl) rfl (by simp [Value.oneCell']) ?_)
  have HRS := rowSet_at (cs' := #[.int .i64 i, .int .i64 v, .int .i64 1, .string ⟨#[115]⟩, .slice (some ⟨w.heap.size + 1, 0, none⟩) 2 2, .slice (some ⟨w.heap.size + 1 + 1, 0, none⟩) 1 1, .int .i64 0, .int .i64 0, .slice none 0 0, .int .i64 1, .string ⟨#[65]⟩, .int .i64 0, .int .i64 0, .int .i64 0, .int .i64 30, .slice none 0 0, .int .i64 0]) H0.out
  refine bodyPost_ret (v := .agg #[.int .i64 i, .int .i64 v, .int .i64 1, .string ⟨#[115]⟩, .slice (some ⟨w.heap.size + 1, 0, none⟩) 2 2, .slice (some ⟨w.heap.size + 1 + 1, 0, none⟩) 1 1, .int .i64 0, .int .i64 0, .slice none 0 0, .int .i64 1, .string ⟨#[65]⟩, .int .i64 0, .int .i64 0, .int .i64 0, .int .i64 30, .slice none 0 0, .int .i64 0]) (results_cell_row Tryz.results30 _ _ w.heap.size _ _ _ _ rfl HRS Tryz.underlying55 rfl (by kernel_rfl)) rfl ?_
  refine ⟨⟨⟨some ⟨w.heap.size + 1, 0, none⟩, 2, some ⟨w.heap.size + 1 + 1, 0, none⟩, 1, none, 0, none, 0⟩, rfl, ch_ok hi hv hk, ?_, ?_, SlS.nil _ _, SlI.nil _ _, ⟨Nat.le_refl 2, (by decide : 2 ≤ maxLen)⟩, ⟨Nat.le_refl 1, (by decide : 1 ≤ maxLen)⟩, ⟨Nat.le_refl 0, (by decide : 0 ≤ maxLen)⟩, ⟨Nat.le_refl 0, (by decide : 0 ≤ maxLen)⟩⟩, ?_⟩
  · refine Sl.rowSet (Sl.ext (w := (w.alloc (.cells #[.int .i64 0, .int .i64 0, .int .i64 0, .string ⟨#[]⟩, .slice none 0 0, .slice none 0 0, .int .i64 0, .int .i64 0, .slice none 0 0, .int .i64 0, .string ⟨#[]⟩, .int .i64 0, .int .i64 0, .int .i64 0, .int .i64 0, .slice none 0 0, .int .i64 0] 55)).alloc (.cells #[.string ⟨#[49]⟩, .string ⟨#[50]⟩] 9)) ?_ ((Ext.refl _).alloc _)) (by rintro a ha; cases ha; simp) _
    exact Sl.new_at (w.alloc (.cells #[.int .i64 0, .int .i64 0, .int .i64 0, .string ⟨#[]⟩, .slice none 0 0, .slice none 0 0, .int .i64 0, .int .i64 0, .slice none 0 0, .int .i64 0, .string ⟨#[]⟩, .int .i64 0, .int .i64 0, .int .i64 0, .int .i64 0, .slice none 0 0, .int .i64 0] 55)) [.string ⟨#[49]⟩, .string ⟨#[50]⟩] 9 _ (by simp)
  · refine Sl.rowSet ?_ (by rintro a ha; cases ha; simp; omega) _
    exact Sl.new_at ((w.alloc (.cells #[.int .i64 0, .int .i64 0, .int .i64 0, .string ⟨#[]⟩, .slice none 0 0, .slice none 0 0, .int .i64 0, .int .i64 0, .slice none 0 0, .int .i64 0, .string ⟨#[]⟩, .int .i64 0, .int .i64 0, .int .i64 0, .int .i64 0, .slice none 0 0, .int .i64 0] 55)).alloc (.cells #[.string ⟨#[49]⟩, .string ⟨#[50]⟩] 9)) [.int .i64 k] 3 _ (by simp)
  · exact ((((Ext.refl _).alloc _).alloc _).alloc _).rowSet (Nat.le_refl _) _

/-- A slice literal whose cells the caller says; the operation may be guarded. -/
theorem wpList_buildS {P : Program} {ops : Array Oper} {rest : List Oper} {o : Oper} {a : Act} {w : World} {Q : Exit → Act → World → Prop} (hw : Region.wanted o (yielded ops a.tmps) = true) (t e : TypeId) (len : Nat) (parts : Array (Nat × Operand)) (ho : o.op = .buildSlice t len parts)
    (N : Nat) (hN : w.heap.size = N) (dst : Option Tmp) (hdst : o.dst = dst) (hu : P.underlying t = some (.slice e)) (cells : Array Value)
    (hf : P.builtSlice e len (parts.map fun (i, x) => (i, a.eval x)).toList = some cells) (W : World) (hW : w.alloc (.cells cells e) = W)
    (h : wpList P ops Q rest (a.put dst (.slice (some ⟨N, 0, none⟩) len len)) W) : wpList P ops Q (o :: rest) a w := by
  subst hN hdst hW
  unfold Program.builtSlice at hf
  cases hie : P.info? e with
  | none => simp [hie] at hf
  | some ie =>
    simp only [hie] at hf
    cases hz : ie.zero with
    | none => simp [hz] at hf
    | some z =>
      simp only [hz] at hf
      by_cases hc : len * ie.size > 2 ^ 24 ∨ len * ie.size = 0
      · simp [hc] at hf
      · rw [if_neg hc] at hf
        exact Go.BigFrame.wpList_want hw fun _ hK => wp_buildSlice t e len parts ho cells ie z hu hie hz (fun h' => hc (Or.inl h')) (fun h' => hc (Or.inr h')) hf (hK _ _ h)
theorem Sl.newk1 {k : Nat} {c : List Value} (w : World) (t : TypeId) : Sl (w.alloc (.cells c.toArray t)) k (some ⟨w.heap.size, 0, none⟩) [c] := by
  refine Or.inr ⟨w.heap.size, 0, rfl, by simp, fun i cs hi j v hv => ?_⟩
  match i, hi with
  | 0, hi =>
    simp at hi
    subst hi
    rw [World.cell?_alloc_new]
    simpa using hv
theorem Sl.newk2 {k : Nat} {c d : List Value} (hc : c.length = k) (w : World) (t : TypeId) : Sl (w.alloc (.cells (c ++ d).toArray t)) k (some ⟨w.heap.size, 0, none⟩) [c, d] := by
  refine Or.inr ⟨w.heap.size, 0, rfl, by simp, fun i cs hi j v hv => ?_⟩
  rw [World.cell?_alloc_new]
  match i, hi with
  | 0, hi =>
    simp at hi
    subst hi
    have := (List.getElem?_eq_some_iff.1 hv).1
    simp only [List.getElem?_toArray, Nat.zero_mul, Nat.zero_add]
    rw [List.getElem?_append_left this]
    exact hv
  | 1, hi =>
    simp at hi
    subst hi
    simp only [List.getElem?_toArray, Nat.zero_add, Nat.one_mul]
    rw [List.getElem?_append_right (by omega), hc, Nat.add_sub_cancel_left]
    exact hv
theorem limbs_one {n : Nat} (h0 : n ≠ 0) (h : n < 4294967296) : Rw.limbs n = [n] := by
  rw [Rw.limbs_pos h0, Nat.mod_eq_of_lt h, Nat.div_eq_of_lt h, Rw.limbs_zero]
theorem RetIt.two {er : Int} {a b : It.Item} {l : List It.Item} (hl : l = [a, b]) {e : Ending} {w' : World} (h : Rt.RetIt er l e w') : ∃ (A : Option Addr) (c : Nat) (ys : List Rt.ItL), ys.length = 2 ∧ Rt.its ys = l ∧ e = .returned (.tuple #[.slice A 2 c, .int .i64 er]) ∧ Rt.SlIt w' A ys := by
  obtain ⟨A, c, ys, h1, h2, h3, -, -⟩ := h
  have : ys.length = 2 := by rw [← Rt.its_len, h1, hl]; rfl
  exact ⟨A, c, ys, this, h1, by rw [h2, this], h3⟩
end Go.Proofs.YtgaepmddbjdhfaaGreatDoor
namespace Go.Proofs.YtgaepmddbjdhfaaGreatDoor
open Go.ChangeShapes Go.WideShapes Go.ChangeAt Go.RowKit
theorem Rx.aft_its (L5 L6 : It.Loc) : [Rx.chI 3 1 0, Rx.chI 7 2 1] = Rt.its [(Rx.chI 3 1 0, L5), (Rx.chI 7 2 1, L6)] := rfl
theorem ans_one {w : World} {A : Option Addr} {i k : Int} (hi : In64 i) (hk : In64 k) (h : SlI w A [k]) : Rs.Ans.In w ⟨i, [k], 0, ⟨#[]⟩, false⟩ (A, 1) := by
  refine ⟨⟨hi, by simp only [In64]; omega, ?_, ?_, ?_⟩, h, ?_, ?_⟩
  · intro x hx
    simp only [List.mem_cons, List.not_mem_nil, or_false] at hx
    subst hx
    exact hk
  all_goals first
    | decide
    | exact Nat.zero_le _
    | (simp only [List.length_cons, List.length_nil, maxLen]; omega)
theorem il_two {w : World} {A : Option Addr} {a b : Int} (ha : In64 a) (hb : In64 b) (h : SlI w A [a, b]) : IL.In w ⟨A, 2, [a, b]⟩ := by
  refine ⟨h, Nat.le_refl 2, by show 2 ≤ maxLen; decide, ?_⟩
  intro x hx
  simp only [List.mem_cons, List.not_mem_nil, or_false] at hx
  rcases hx with rfl | rfl
  · exact ha
  · exact hb
theorem nl_val {A : Option Addr} {v : Nat} (h0 : v ≠ 0) (h : v < 4294967296) : NL.val ⟨A, 1, v⟩ = .slice A 1 1 := by
  unfold NL.val
  rw [limbs_one h0 h]
  rfl
theorem nl_in {w : World} {A : Option Addr} {v : Nat} (h0 : v ≠ 0) (h : v < 4294967296) (hs : SlU w A [v]) : NL.In w ⟨A, 1, v⟩ := by
  refine ⟨by rw [limbs_one h0 h]; exact hs, by rw [limbs_one h0 h]; exact Nat.le_refl 1, by show 1 ≤ maxLen; decide⟩
theorem wl_two {w : World} {A A1 A2 : Option Addr} {u v : Nat} (h0 : u ≠ 0) (h : u < 4294967296) (g0 : v ≠ 0) (g : v < 4294967296) (hu : SlU w A1 [u]) (hv : SlU w A2 [v])
    (hs : Sl w 1 A ([Value.slice A1 1 1, Value.slice A2 1 1].map fun x => [x])) : WL.In w ⟨A, 2, [⟨A1, 1, u⟩, ⟨A2, 1, v⟩]⟩ := by
  refine ⟨?_, ?_, Nat.le_refl 2, by show 2 ≤ maxLen; decide⟩
  · show Sl w 1 A [[NL.val ⟨A1, 1, u⟩], [NL.val ⟨A2, 1, v⟩]]
    rw [nl_val h0 h, nl_val g0 g]
    exact hs
  · intro x hx
    simp only [List.mem_cons, List.not_mem_nil, or_false] at hx
    rcases hx with rfl | rfl
    · exact nl_in h0 h hu
    · exact nl_in g0 g hv
set_option maxRecDepth 100000 in
set_option maxHeartbeats 128000000 in
theorem awake_any (w : World) (hg : ∀ w', Ext w w' → Gm w') : Calls Tryz.prog 15 #[] w fun e w' => e = .returned (.bool true) ∧ Ext w w' := by
  have HG := Lib.hid hg
  clear hg
  go_enter Tryz.func15, Tryz.ntmps15
  go_wp2_with fail
  with_reducible refine (choice_any 3 1 0 (by unfold In64; decide) (by unfold In64; decide) (by unfold In64; decide) _).mono ?_
  rintro e w1 ⟨⟨L1, rfl, hI⟩, hb⟩
  have X_1 := Lib.hid (hb)
  clear hb
  have IL1_1 := Lib.hid hI
  clear hI
  go_wp2_with fail
  with_reducible refine (choice_any 7 1 0 (by unfold In64; decide) (by unfold In64; decide) (by unfold In64; decide) _).mono ?_
  rintro e w2 ⟨⟨L2, rfl, hI⟩, hb⟩
  have IL1_2 := Lib.hid (IL1_1.out.ext hb)
  clear IL1_1
  have X_2 := Lib.hid (X_1.out.trans hb)
  clear X_1
  clear hb
  have IL2_2 := Lib.hid hI
  clear hI
  obtain ⟨w3, hw3⟩ : ∃ W, w2.alloc (.cells (It.cells (Rx.chI 3 1 0) L1 ++ It.cells (Rx.chI 7 1 0) L2).toArray 55) = W := ⟨_, rfl⟩
  have Ew3 : Ext w2 w3 := by rw [← hw3]; exact (Ext.refl _).alloc _
  have IL1_3 := Lib.hid (IL1_2.out.ext Ew3)
  have IL2_3 := Lib.hid (IL2_2.out.ext Ew3)
  clear IL1_2 IL2_2
  have X_3 := Lib.hid (X_2.out.trans Ew3)
  clear X_2
  have S1_3 := Lib.hid (show Rt.SlIt w3 (some ⟨w2.heap.size, 0, none⟩) [(Rx.chI 3 1 0, L1), (Rx.chI 7 1 0, L2)] from ⟨by rw [← hw3]; exact Sl.newk2 rfl _ _, fun x hx => by
    simp only [List.mem_cons, List.not_mem_nil, or_false] at hx
    rcases hx with rfl | rfl
    · exact IL1_3.out
    · exact IL2_3.out⟩)
  have Hw3 := Lib.hid hw3
  clear hw3 Ew3
  clear IL1_3 IL2_3
  go_wp2_with (first
      | (with_reducible refine wpList_buildS (by kernel_rfl) 22 55 2 _ rfl w2.heap.size rfl _ rfl Tryz.underlying22 (It.cells (Rx.chI 3 1 0) L1 ++ It.cells (Rx.chI 7 1 0) L2).toArray (by kernel_rfl) w3 Hw3.out ?_))
  with_reducible refine (choice_any 7 2 1 (by unfold In64; decide) (by unfold In64; decide) (by unfold In64; decide) _).mono ?_
  rintro e w4 ⟨⟨L3, rfl, hI⟩, hb⟩
  have S1_4 := Lib.hid (S1_3.out.ext hb)
  clear S1_3
  have X_4 := Lib.hid (X_3.out.trans hb)
  clear X_3
  clear hb
  have IL3_4 := Lib.hid hI
  clear hI
  obtain ⟨w5, hw5⟩ : ∃ W, w4.alloc (.cells (Rt.cch ((Rx.chI 7 2 1, L3), (5 : Int))).toArray 57) = W := ⟨_, rfl⟩
  have Ew5 : Ext w4 w5 := by rw [← hw5]; exact (Ext.refl _).alloc _
  have S1_5 := Lib.hid (S1_4.out.ext Ew5)
  have IL3_5 := Lib.hid (IL3_4.out.ext Ew5)
  clear S1_4 IL3_4
  have X_5 := Lib.hid (X_4.out.trans Ew5)
  clear X_4
  have S2_5 := Lib.hid (show Rt.SlCh w5 (some ⟨w4.heap.size, 0, none⟩) [((Rx.chI 7 2 1, L3), (5 : Int))] from ⟨by rw [← hw5]; exact Sl.newk1 _ _, fun x hx => by
    simp only [List.mem_cons, List.not_mem_nil, or_false] at hx
    subst hx
    exact IL3_5.out⟩)
  have Hw5 := Lib.hid hw5
  clear hw5 Ew5
  clear IL3_5
  have hK := kitems_any (n := 2) (m := 1) (some ⟨w2.heap.size, 0, none⟩) 2 [(Rx.chI 3 1 0, L1), (Rx.chI 7 1 0, L2)] (some ⟨w4.heap.size, 0, none⟩) 1 [((Rx.chI 7 2 1, L3), (5 : Int))] rfl rfl w5 S1_5.out S2_5.out (by decide) (by decide) (HG.out _ X_5.out)
  rw [show Rs.itmE (Rt.its [(Rx.chI 3 1 0, L1), (Rx.chI 7 1 0, L2)]) (Rt.chs [((Rx.chI 7 2 1, L3), (5 : Int))]) = 0 from Rx.items_er, show Rs.itmL (Rt.its [(Rx.chI 3 1 0, L1), (Rx.chI 7 1 0, L2)]) (Rt.chs [((Rx.chI 7 2 1, L3), (5 : Int))]) = Rx.aft from Rx.items_of] at hK
  have HK := Lib.hid (hK.mono fun e w' h => And.intro (RetIt.two rfl h.1) h.2)
  clear hK
  go_wp2_with (first
      | (with_reducible refine Go.wpList_buildTo rfl 57 _ rfl _ rfl (Rt.cch ((Rx.chI 7 2 1, L3), (5 : Int))).toArray (by kernel_rfl) ?_)
      | (with_reducible refine wpList_buildS (by kernel_rfl) 43 57 1 _ rfl w4.heap.size rfl _ rfl Tryz.underlying43 (Rt.cch ((Rx.chI 7 2 1, L3), (5 : Int))).toArray (by kernel_rfl) w5 Hw5.out ?_))
  with_reducible refine (HK.out).mono ?_
  rintro e w6 ⟨⟨A3, c3, ys, hy2, hya, rfl, hs3⟩, hb⟩
  have S1_6 := Lib.hid (S1_5.out.ext hb)
  have S2_6 := Lib.hid (S2_5.out.ext hb)
  clear S1_5 S2_5
  have X_6 := Lib.hid (X_5.out.trans hb)
  clear X_5
  clear hb
  have S3_6 := Lib.hid hs3
  have HYA := Lib.hid hya
  have HY2 := Lib.hid hy2
  clear hs3 hya hy2 HK
  clear S2_6
  go_wp2_with fail
  with_reducible refine (choice_any 3 1 0 (by unfold In64; decide) (by unfold In64; decide) (by unfold In64; decide) _).mono ?_
  rintro e w7 ⟨⟨L5, rfl, hI⟩, hb⟩
  have S1_7 := Lib.hid (S1_6.out.ext hb)
  have S3_7 := Lib.hid (S3_6.out.ext hb)
  clear S1_6 S3_6
  have X_7 := Lib.hid (X_6.out.trans hb)
  clear X_6
  clear hb
  have IL5_7 := Lib.hid hI
  clear hI
  go_wp2_with fail
  with_reducible refine (choice_any 7 2 1 (by unfold In64; decide) (by unfold In64; decide) (by unfold In64; decide) _).mono ?_
  rintro e w8 ⟨⟨L6, rfl, hI⟩, hb⟩
  have S1_8 := Lib.hid (S1_7.out.ext hb)
  have S3_8 := Lib.hid (S3_7.out.ext hb)
  have IL5_8 := Lib.hid (IL5_7.out.ext hb)
  clear S1_7 S3_7 IL5_7
  have X_8 := Lib.hid (X_7.out.trans hb)
  clear X_7
  clear hb
  have IL6_8 := Lib.hid hI
  clear hI
  obtain ⟨w9, hw9⟩ : ∃ W, w8.alloc (.cells (It.cells (Rx.chI 3 1 0) L5 ++ It.cells (Rx.chI 7 2 1) L6).toArray 55) = W := ⟨_, rfl⟩
  have Ew9 : Ext w8 w9 := by rw [← hw9]; exact (Ext.refl _).alloc _
  have S1_9 := Lib.hid (S1_8.out.ext Ew9)
  have S3_9 := Lib.hid (S3_8.out.ext Ew9)
  have IL5_9 := Lib.hid (IL5_8.out.ext Ew9)
  have IL6_9 := Lib.hid (IL6_8.out.ext Ew9)
  clear S1_8 S3_8 IL5_8 IL6_8
  have X_9 := Lib.hid (X_8.out.trans Ew9)
  clear X_8
  have S4_9 := Lib.hid (show Rt.SlIt w9 (some ⟨w8.heap.size, 0, none⟩) [(Rx.chI 3 1 0, L5), (Rx.chI 7 2 1, L6)] from ⟨by rw [← hw9]; exact Sl.newk2 rfl _ _, fun x hx => by
    simp only [List.mem_cons, List.not_mem_nil, or_false] at hx
    rcases hx with rfl | rfl
    · exact IL5_9.out
    · exact IL6_9.out⟩)
  have Hw9 := Lib.hid hw9
  clear hw9 Ew9
  clear IL5_9 IL6_9
  go_wp2_with (first
      | (with_reducible refine wpList_buildS (by kernel_rfl) 22 55 2 _ rfl w8.heap.size rfl _ rfl Tryz.underlying22 (It.cells (Rx.chI 3 1 0) L5 ++ It.cells (Rx.chI 7 2 1) L6).toArray (by kernel_rfl) w9 Hw9.out ?_))
  with_reducible refine (sameItems_eq (n := 2) A3 (some ⟨w8.heap.size, 0, none⟩) c3 2 ys [(Rx.chI 3 1 0, L5), (Rx.chI 7 2 1, L6)] HY2.out (HYA.out.trans (Rx.aft_its L5 L6)) w9 S3_9.out S4_9.out (by decide)).mono ?_
  rintro e w10 ⟨rfl, hb⟩
  have S1_10 := Lib.hid (S1_9.out.ext hb)
  have S3_10 := Lib.hid (S3_9.out.ext hb)
  have S4_10 := Lib.hid (S4_9.out.ext hb)
  clear S1_9 S3_9 S4_9
  have X_10 := Lib.hid (X_9.out.trans hb)
  clear X_9
  clear hb
  clear S4_10
  obtain ⟨w11, hw11⟩ : ∃ W, w10.alloc (.cells #[.int .i64 1] 3) = W := ⟨_, rfl⟩
  have Ew11 : Ext w10 w11 := by rw [← hw11]; exact (Ext.refl _).alloc _
  have S1_11 := Lib.hid (S1_10.out.ext Ew11)
  have S3_11 := Lib.hid (S3_10.out.ext Ew11)
  clear S1_10 S3_10
  have X_11 := Lib.hid (X_10.out.trans Ew11)
  clear X_10
  have C1_11 := Lib.hid (show SlI w11 (some ⟨w10.heap.size, 0, none⟩) [1] by rw [← hw11]; exact Sl.new w10 [.int .i64 1] _)
  have Hw11 := Lib.hid hw11
  clear hw11 Ew11
  obtain ⟨w12, hw12⟩ : ∃ W, w11.alloc (.cells #[.int .i64 0] 3) = W := ⟨_, rfl⟩
  have Ew12 : Ext w11 w12 := by rw [← hw12]; exact (Ext.refl _).alloc _
  have S1_12 := Lib.hid (S1_11.out.ext Ew12)
  have S3_12 := Lib.hid (S3_11.out.ext Ew12)
  have C1_12 := Lib.hid (C1_11.out.ext Ew12)
  clear S1_11 S3_11 C1_11
  have X_12 := Lib.hid (X_11.out.trans Ew12)
  clear X_11
  have C2_12 := Lib.hid (show SlI w12 (some ⟨w11.heap.size, 0, none⟩) [0] by rw [← hw12]; exact Sl.new w11 [.int .i64 0] _)
  have Hw12 := Lib.hid hw12
  clear hw12 Ew12
  obtain ⟨w13, hw13⟩ : ∃ W, w12.alloc (.cells (Rt.acl ((⟨7, [1], 0, ⟨#[]⟩, false⟩, (some ⟨w10.heap.size, 0, none⟩, 1)) : Rt.AnL) ++ Rt.acl ((⟨3, [0], 0, ⟨#[]⟩, false⟩, (some ⟨w11.heap.size, 0, none⟩, 1)) : Rt.AnL)).toArray 64) = W := ⟨_, rfl⟩
  have Ew13 : Ext w12 w13 := by rw [← hw13]; exact (Ext.refl _).alloc _
  have S1_13 := Lib.hid (S1_12.out.ext Ew13)
  have S3_13 := Lib.hid (S3_12.out.ext Ew13)
  have C1_13 := Lib.hid (C1_12.out.ext Ew13)
  have C2_13 := Lib.hid (C2_12.out.ext Ew13)
  clear S1_12 S3_12 C1_12 C2_12
  have X_13 := Lib.hid (X_12.out.trans Ew13)
  clear X_12
  have S5_13 := Lib.hid (show Rt.SlAn w13 (some ⟨w12.heap.size, 0, none⟩) [((⟨7, [1], 0, ⟨#[]⟩, false⟩, (some ⟨w10.heap.size, 0, none⟩, 1)) : Rt.AnL), ((⟨3, [0], 0, ⟨#[]⟩, false⟩, (some ⟨w11.heap.size, 0, none⟩, 1)) : Rt.AnL)] from ⟨by rw [← hw13]; exact Sl.newk2 rfl _ _, fun x hx => by
    simp only [List.mem_cons, List.not_mem_nil, or_false] at hx
    rcases hx with rfl | rfl
    · exact ans_one (by unfold In64; decide) (by unfold In64; decide) C1_13.out
    · exact ans_one (by unfold In64; decide) (by unfold In64; decide) C2_13.out⟩)
  have Hw13 := Lib.hid hw13
  clear hw13 Ew13
  clear C1_13 C2_13
  obtain ⟨w14, hw14⟩ : ∃ W, w13.alloc (.cells (Rt.scl (7, 0) ++ Rt.scl (3, 1)).toArray 50) = W := ⟨_, rfl⟩
  have Ew14 : Ext w13 w14 := by rw [← hw14]; exact (Ext.refl _).alloc _
  have S1_14 := Lib.hid (S1_13.out.ext Ew14)
  have S3_14 := Lib.hid (S3_13.out.ext Ew14)
  have S5_14 := Lib.hid (S5_13.out.ext Ew14)
  clear S1_13 S3_13 S5_13
  have X_14 := Lib.hid (X_13.out.trans Ew14)
  clear X_13
  have S6_14 := Lib.hid (show Rt.SlSt w14 (some ⟨w13.heap.size, 0, none⟩) [(7, 0), (3, 1)] by rw [← hw14]; exact Sl.newk2 rfl _ _)
  have Hw14 := Lib.hid hw14
  clear hw14 Ew14
  have hK := ksteps_any (n := 2) (m := 2) (s := 2) (some ⟨w2.heap.size, 0, none⟩) 2 [(Rx.chI 3 1 0, L1), (Rx.chI 7 1 0, L2)] (some ⟨w12.heap.size, 0, none⟩) 2 [((⟨7, [1], 0, ⟨#[]⟩, false⟩, (some ⟨w10.heap.size, 0, none⟩, 1)) : Rt.AnL), ((⟨3, [0], 0, ⟨#[]⟩, false⟩, (some ⟨w11.heap.size, 0, none⟩, 1)) : Rt.AnL)] (some ⟨w13.heap.size, 0, none⟩) 2 [(7, 0), (3, 1)] rfl rfl rfl w14 S1_14.out S5_14.out S6_14.out (by decide) (by decide) (by decide) (HG.out _ X_14.out)
  rw [show Rs.stsE (Rt.its [(Rx.chI 3 1 0, L1), (Rx.chI 7 1 0, L2)]) (Rt.ans [((⟨7, [1], 0, ⟨#[]⟩, false⟩, (some ⟨w10.heap.size, 0, none⟩, 1)) : Rt.AnL), ((⟨3, [0], 0, ⟨#[]⟩, false⟩, (some ⟨w11.heap.size, 0, none⟩, 1)) : Rt.AnL)]) [(7, 0), (3, 1)] = 0 from Rx.steps_er, show Rs.stsL (Rt.its [(Rx.chI 3 1 0, L1), (Rx.chI 7 1 0, L2)]) (Rt.ans [((⟨7, [1], 0, ⟨#[]⟩, false⟩, (some ⟨w10.heap.size, 0, none⟩, 1)) : Rt.AnL), ((⟨3, [0], 0, ⟨#[]⟩, false⟩, (some ⟨w11.heap.size, 0, none⟩, 1)) : Rt.AnL)]) [(7, 0), (3, 1)] = [(7, 0), (3, 1)] from Rx.steps_of] at hK
  have HK := Lib.hid hK
  clear hK
  go_wp2_with (first
      | (with_reducible refine wpList_buildS (by kernel_rfl) 29 3 1 _ rfl w10.heap.size rfl _ rfl Tryz.underlying29 #[.int .i64 1] (by kernel_rfl) w11 Hw11.out ?_)
      | (with_reducible refine wpList_buildS (by kernel_rfl) 29 3 1 _ rfl w11.heap.size rfl _ rfl Tryz.underlying29 #[.int .i64 0] (by kernel_rfl) w12 Hw12.out ?_)
      | (with_reducible refine wpList_buildS (by kernel_rfl) 23 64 2 _ rfl w12.heap.size rfl _ rfl Tryz.underlying23 (Rt.acl ((⟨7, [1], 0, ⟨#[]⟩, false⟩, (some ⟨w10.heap.size, 0, none⟩, 1)) : Rt.AnL) ++ Rt.acl ((⟨3, [0], 0, ⟨#[]⟩, false⟩, (some ⟨w11.heap.size, 0, none⟩, 1)) : Rt.AnL)).toArray (by kernel_rfl) w13 Hw13.out ?_)
      | (with_reducible refine wpList_buildS (by kernel_rfl) 24 50 2 _ rfl w13.heap.size rfl _ rfl Tryz.underlying24 (Rt.scl (7, 0) ++ Rt.scl (3, 1)).toArray (by kernel_rfl) w14 Hw14.out ?_))
  with_reducible refine (HK.out).mono ?_
  rintro e w15 ⟨⟨A7, c7, rfl, hs, hk, -⟩, hb⟩
  have S1_15 := Lib.hid (S1_14.out.ext hb)
  have S3_15 := Lib.hid (S3_14.out.ext hb)
  have S5_15 := Lib.hid (S5_14.out.ext hb)
  have S6_15 := Lib.hid (S6_14.out.ext hb)
  clear S1_14 S3_14 S5_14 S6_14
  have X_15 := Lib.hid (X_14.out.trans hb)
  clear X_14
  clear hb
  have S7_15 := Lib.hid hs
  have HC7 : Hid (2 ≤ c7) := Lib.hid hk
  clear hs HK hk
  have hK := ksteps_any (n := 2) (m := 2) (s := 2) A3 c3 ys (some ⟨w12.heap.size, 0, none⟩) 2 [((⟨7, [1], 0, ⟨#[]⟩, false⟩, (some ⟨w10.heap.size, 0, none⟩, 1)) : Rt.AnL), ((⟨3, [0], 0, ⟨#[]⟩, false⟩, (some ⟨w11.heap.size, 0, none⟩, 1)) : Rt.AnL)] (some ⟨w13.heap.size, 0, none⟩) 2 [(7, 0), (3, 1)] HY2.out rfl rfl w15 S3_15.out S5_15.out S6_15.out (by decide) (by decide) (by decide) (HG.out _ X_15.out)
  rw [show Rs.stsE (Rt.its ys) (Rt.ans [((⟨7, [1], 0, ⟨#[]⟩, false⟩, (some ⟨w10.heap.size, 0, none⟩, 1)) : Rt.AnL), ((⟨3, [0], 0, ⟨#[]⟩, false⟩, (some ⟨w11.heap.size, 0, none⟩, 1)) : Rt.AnL)]) [(7, 0), (3, 1)] = 0 by rw [HYA.out]; exact Rx.steps2_er, show Rs.stsL (Rt.its ys) (Rt.ans [((⟨7, [1], 0, ⟨#[]⟩, false⟩, (some ⟨w10.heap.size, 0, none⟩, 1)) : Rt.AnL), ((⟨3, [0], 0, ⟨#[]⟩, false⟩, (some ⟨w11.heap.size, 0, none⟩, 1)) : Rt.AnL)]) [(7, 0), (3, 1)] = [(7, 1), (3, 1)] by rw [HYA.out]; exact Rx.steps2_of] at hK
  have HK := Lib.hid hK
  clear hK
  go_wp2_with fail
  with_reducible refine (HK.out).mono ?_
  rintro e w16 ⟨⟨A8, c8, rfl, hs, hk, -⟩, hb⟩
  have S1_16 := Lib.hid (S1_15.out.ext hb)
  have S3_16 := Lib.hid (S3_15.out.ext hb)
  have S5_16 := Lib.hid (S5_15.out.ext hb)
  have S6_16 := Lib.hid (S6_15.out.ext hb)
  have S7_16 := Lib.hid (S7_15.out.ext hb)
  clear S1_15 S3_15 S5_15 S6_15 S7_15
  have X_16 := Lib.hid (X_15.out.trans hb)
  clear X_15
  clear hb
  have S8_16 := Lib.hid hs
  have HC8 : Hid (2 ≤ c8) := Lib.hid hk
  clear hs HK hk
  have hK := kchanged_any (n := 2) (m := 2) A7 A8 c7 c8 [(7, 0), (3, 1)] [(7, 1), (3, 1)] rfl rfl w16 S7_16.out S8_16.out (by decide) (by decide) (by decide)
  rw [show Rs.chdE [(7, 0), (3, 1)] [(7, 1), (3, 1)] = 0 from Rx.chd_er, show Rs.chdL [(7, 0), (3, 1)] [(7, 1), (3, 1)] = [0] from Rx.chd_of] at hK
  have HK := Lib.hid hK
  clear hK
  go_wp2_with fail
  with_reducible refine (HK.out).mono ?_
  rintro e w17 ⟨⟨A9, c9, rfl, hs, -, -⟩, hb⟩
  have S1_17 := Lib.hid (S1_16.out.ext hb)
  have S3_17 := Lib.hid (S3_16.out.ext hb)
  have S5_17 := Lib.hid (S5_16.out.ext hb)
  have S6_17 := Lib.hid (S6_16.out.ext hb)
  have S7_17 := Lib.hid (S7_16.out.ext hb)
  have S8_17 := Lib.hid (S8_16.out.ext hb)
  clear S1_16 S3_16 S5_16 S6_16 S7_16 S8_16
  have X_17 := Lib.hid (X_16.out.trans hb)
  clear X_16
  clear hb
  have S9_17 := Lib.hid hs
  clear hs HK
  have hK := affected_any (n := 2) (m := 2) (s := 2) (some ⟨w2.heap.size, 0, none⟩) A3 2 c3 [(Rx.chI 3 1 0, L1), (Rx.chI 7 1 0, L2)] ys (some ⟨w12.heap.size, 0, none⟩) 2 [((⟨7, [1], 0, ⟨#[]⟩, false⟩, (some ⟨w10.heap.size, 0, none⟩, 1)) : Rt.AnL), ((⟨3, [0], 0, ⟨#[]⟩, false⟩, (some ⟨w11.heap.size, 0, none⟩, 1)) : Rt.AnL)] rfl HY2.out rfl w17 S1_17.out S3_17.out S5_17.out (by decide) (by decide) (by decide) (HG.out _ X_17.out)
  rw [show Rs.afE (Rt.its [(Rx.chI 3 1 0, L1), (Rx.chI 7 1 0, L2)]) (Rt.its ys) = 0 by rw [HYA.out]; exact Rx.aff_er, show Rs.afV (Rt.its [(Rx.chI 3 1 0, L1), (Rx.chI 7 1 0, L2)]) (Rt.its ys) (Rt.ans [((⟨7, [1], 0, ⟨#[]⟩, false⟩, (some ⟨w10.heap.size, 0, none⟩, 1)) : Rt.AnL), ((⟨3, [0], 0, ⟨#[]⟩, false⟩, (some ⟨w11.heap.size, 0, none⟩, 1)) : Rt.AnL)]) = true by rw [HYA.out]; exact Rx.aff_of] at hK
  have HK := Lib.hid hK
  clear hK
  go_wp2_with fail
  with_reducible refine (HK.out).mono ?_
  rintro e w18 ⟨rfl, hb⟩
  have S1_18 := Lib.hid (S1_17.out.ext hb)
  have S3_18 := Lib.hid (S3_17.out.ext hb)
  have S5_18 := Lib.hid (S5_17.out.ext hb)
  have S6_18 := Lib.hid (S6_17.out.ext hb)
  have S7_18 := Lib.hid (S7_17.out.ext hb)
  have S8_18 := Lib.hid (S8_17.out.ext hb)
  have S9_18 := Lib.hid (S9_17.out.ext hb)
  clear S1_17 S3_17 S5_17 S6_17 S7_17 S8_17 S9_17
  have X_18 := Lib.hid (X_17.out.trans hb)
  clear X_17
  clear hb
  clear HK
  clear S3_18 S5_18
  go_wp2_with fail
  with_reducible refine (same_eq (n := 2) A7 (some ⟨w13.heap.size, 0, none⟩) c7 2 [(7, 0), (3, 1)] rfl w18 S7_18.out S6_18.out (by decide)).mono ?_
  rintro e w19 ⟨rfl, hb⟩
  have S1_19 := Lib.hid (S1_18.out.ext hb)
  have S6_19 := Lib.hid (S6_18.out.ext hb)
  have S7_19 := Lib.hid (S7_18.out.ext hb)
  have S8_19 := Lib.hid (S8_18.out.ext hb)
  have S9_19 := Lib.hid (S9_18.out.ext hb)
  clear S1_18 S6_18 S7_18 S8_18 S9_18
  have X_19 := Lib.hid (X_18.out.trans hb)
  clear X_18
  clear hb
  obtain ⟨w20, hw20⟩ : ∃ W, w19.alloc (.cells (Rt.scl (7, 1) ++ Rt.scl (3, 1)).toArray 50) = W := ⟨_, rfl⟩
  have Ew20 : Ext w19 w20 := by rw [← hw20]; exact (Ext.refl _).alloc _
  have S1_20 := Lib.hid (S1_19.out.ext Ew20)
  have S6_20 := Lib.hid (S6_19.out.ext Ew20)
  have S7_20 := Lib.hid (S7_19.out.ext Ew20)
  have S8_20 := Lib.hid (S8_19.out.ext Ew20)
  have S9_20 := Lib.hid (S9_19.out.ext Ew20)
  clear S1_19 S6_19 S7_19 S8_19 S9_19
  have X_20 := Lib.hid (X_19.out.trans Ew20)
  clear X_19
  have S10_20 := Lib.hid (show Rt.SlSt w20 (some ⟨w19.heap.size, 0, none⟩) [(7, 1), (3, 1)] by rw [← hw20]; exact Sl.newk2 rfl _ _)
  have Hw20 := Lib.hid hw20
  clear hw20 Ew20
  go_wp2_with (first
      | (with_reducible refine wpList_buildS (by kernel_rfl) 24 50 2 _ rfl w19.heap.size rfl _ rfl Tryz.underlying24 (Rt.scl (7, 1) ++ Rt.scl (3, 1)).toArray (by kernel_rfl) w20 Hw20.out ?_))
  with_reducible refine (same_eq (n := 2) A8 (some ⟨w19.heap.size, 0, none⟩) c8 2 [(7, 1), (3, 1)] rfl w20 S8_20.out S10_20.out (by decide)).mono ?_
  rintro e w21 ⟨rfl, hb⟩
  have S1_21 := Lib.hid (S1_20.out.ext hb)
  have S6_21 := Lib.hid (S6_20.out.ext hb)
  have S7_21 := Lib.hid (S7_20.out.ext hb)
  have S8_21 := Lib.hid (S8_20.out.ext hb)
  have S9_21 := Lib.hid (S9_20.out.ext hb)
  have S10_21 := Lib.hid (S10_20.out.ext hb)
  clear S1_20 S6_20 S7_20 S8_20 S9_20 S10_20
  have X_21 := Lib.hid (X_20.out.trans hb)
  clear X_20
  clear hb
  clear S8_21 S10_21
  obtain ⟨w22, hw22⟩ : ∃ W, w21.alloc (.cells #[.int .i64 0] 3) = W := ⟨_, rfl⟩
  have Ew22 : Ext w21 w22 := by rw [← hw22]; exact (Ext.refl _).alloc _
  have S1_22 := Lib.hid (S1_21.out.ext Ew22)
  have S6_22 := Lib.hid (S6_21.out.ext Ew22)
  have S7_22 := Lib.hid (S7_21.out.ext Ew22)
  have S9_22 := Lib.hid (S9_21.out.ext Ew22)
  clear S1_21 S6_21 S7_21 S9_21
  have X_22 := Lib.hid (X_21.out.trans Ew22)
  clear X_21
  have S11_22 := Lib.hid (show SlI w22 (some ⟨w21.heap.size, 0, none⟩) [0] by rw [← hw22]; exact Sl.new w21 [.int .i64 0] _)
  have Hw22 := Lib.hid hw22
  clear hw22 Ew22
  go_wp2_with (first
      | (with_reducible refine wpList_buildS (by kernel_rfl) 29 3 1 _ rfl w21.heap.size rfl _ rfl Tryz.underlying29 #[.int .i64 0] (by kernel_rfl) w22 Hw22.out ?_))
  with_reducible refine (sameInts_eq (n := 1) A9 (some ⟨w21.heap.size, 0, none⟩) c9 1 [0] rfl w22 S9_22.out S11_22.out (by decide)).mono ?_
  rintro e w23 ⟨rfl, hb⟩
  have S1_23 := Lib.hid (S1_22.out.ext hb)
  have S6_23 := Lib.hid (S6_22.out.ext hb)
  have S7_23 := Lib.hid (S7_22.out.ext hb)
  have S9_23 := Lib.hid (S9_22.out.ext hb)
  have S11_23 := Lib.hid (S11_22.out.ext hb)
  clear S1_22 S6_22 S7_22 S9_22 S11_22
  have X_23 := Lib.hid (X_22.out.trans hb)
  clear X_22
  clear hb
  clear S9_23 S11_23
  obtain ⟨w24, hw24⟩ : ∃ W, w23.alloc (.cells #[.int .i64 500, .int .i64 500] 3) = W := ⟨_, rfl⟩
  have Ew24 : Ext w23 w24 := by rw [← hw24]; exact (Ext.refl _).alloc _
  have S1_24 := Lib.hid (S1_23.out.ext Ew24)
  have S6_24 := Lib.hid (S6_23.out.ext Ew24)
  have S7_24 := Lib.hid (S7_23.out.ext Ew24)
  clear S1_23 S6_23 S7_23
  have X_24 := Lib.hid (X_23.out.trans Ew24)
  clear X_23
  have M1_24 := Lib.hid (show SlI w24 (some ⟨w23.heap.size, 0, none⟩) [500, 500] by rw [← hw24]; exact Sl.new w23 [.int .i64 500, .int .i64 500] _)
  have Hw24 := Lib.hid hw24
  clear hw24 Ew24
  obtain ⟨w25, hw25⟩ : ∃ W, w24.alloc (.cells #[.int .i64 300, .int .i64 700] 3) = W := ⟨_, rfl⟩
  have Ew25 : Ext w24 w25 := by rw [← hw25]; exact (Ext.refl _).alloc _
  have S1_25 := Lib.hid (S1_24.out.ext Ew25)
  have S6_25 := Lib.hid (S6_24.out.ext Ew25)
  have S7_25 := Lib.hid (S7_24.out.ext Ew25)
  have M1_25 := Lib.hid (M1_24.out.ext Ew25)
  clear S1_24 S6_24 S7_24 M1_24
  have X_25 := Lib.hid (X_24.out.trans Ew25)
  clear X_24
  have M2_25 := Lib.hid (show SlI w25 (some ⟨w24.heap.size, 0, none⟩) [300, 700] by rw [← hw25]; exact Sl.new w24 [.int .i64 300, .int .i64 700] _)
  have Hw25 := Lib.hid hw25
  clear hw25 Ew25
  obtain ⟨w26, hw26⟩ : ∃ W, w25.alloc (.cells #[IL.val (⟨some ⟨w23.heap.size, 0, none⟩, 2, [500, 500]⟩ : IL), IL.val (⟨some ⟨w24.heap.size, 0, none⟩, 2, [300, 700]⟩ : IL)] 29) = W := ⟨_, rfl⟩
  have Ew26 : Ext w25 w26 := by rw [← hw26]; exact (Ext.refl _).alloc _
  have S1_26 := Lib.hid (S1_25.out.ext Ew26)
  have S6_26 := Lib.hid (S6_25.out.ext Ew26)
  have S7_26 := Lib.hid (S7_25.out.ext Ew26)
  have M1_26 := Lib.hid (M1_25.out.ext Ew26)
  have M2_26 := Lib.hid (M2_25.out.ext Ew26)
  clear S1_25 S6_25 S7_25 M1_25 M2_25
  have X_26 := Lib.hid (X_25.out.trans Ew26)
  clear X_25
  have M3_26 := Lib.hid (show SlL w26 (some ⟨w25.heap.size, 0, none⟩) [(⟨some ⟨w23.heap.size, 0, none⟩, 2, [500, 500]⟩ : IL), (⟨some ⟨w24.heap.size, 0, none⟩, 2, [300, 700]⟩ : IL)] from ⟨by rw [← hw26]; exact Sl.new w25 [IL.val (⟨some ⟨w23.heap.size, 0, none⟩, 2, [500, 500]⟩ : IL), IL.val (⟨some ⟨w24.heap.size, 0, none⟩, 2, [300, 700]⟩ : IL)] _, fun x hx => by
    simp only [List.mem_cons, List.not_mem_nil, or_false] at hx
    rcases hx with rfl | rfl
    · exact il_two (by unfold In64; decide) (by unfold In64; decide) M1_26.out
    · exact il_two (by unfold In64; decide) (by unfold In64; decide) M2_26.out⟩)
  have Hw26 := Lib.hid hw26
  clear hw26 Ew26
  clear M1_26 M2_26
  obtain ⟨w27, hw27⟩ : ∃ W, w26.alloc (.cells #[.slice (some ⟨w25.heap.size, 0, none⟩) 2 2] 70) = W := ⟨_, rfl⟩
  have Ew27 : Ext w26 w27 := by rw [← hw27]; exact (Ext.refl _).alloc _
  have hmc : w27.cell? ⟨w26.heap.size, 0, none⟩ = some (.slice (some ⟨w25.heap.size, 0, none⟩) 2 2) := by rw [← hw27, World.cell?_alloc_new]; rfl
  have S1_27 := Lib.hid (S1_26.out.ext Ew27)
  have S6_27 := Lib.hid (S6_26.out.ext Ew27)
  have S7_27 := Lib.hid (S7_26.out.ext Ew27)
  have M3_27 := Lib.hid (M3_26.out.ext Ew27)
  clear S1_26 S6_26 S7_26 M3_26
  have X_27 := Lib.hid (X_26.out.trans Ew27)
  clear X_26
  have Hw27 := Lib.hid hw27
  clear hw27 Ew27
  obtain ⟨w28, hw28⟩ : ∃ W, w27.alloc (.cells (PL.cl (⟨Rx.pit 3, some ⟨w25.heap.size, 0, none⟩, 2, [(⟨some ⟨w23.heap.size, 0, none⟩, 2, [500, 500]⟩ : IL), (⟨some ⟨w24.heap.size, 0, none⟩, 2, [300, 700]⟩ : IL)]⟩ : PL) ++ PL.cl (⟨Rx.pit 7, some ⟨w25.heap.size, 0, none⟩, 2, [(⟨some ⟨w23.heap.size, 0, none⟩, 2, [500, 500]⟩ : IL), (⟨some ⟨w24.heap.size, 0, none⟩, 2, [300, 700]⟩ : IL)]⟩ : PL)).toArray 72) = W := ⟨_, rfl⟩
  have Ew28 : Ext w27 w28 := by rw [← hw28]; exact (Ext.refl _).alloc _
  have S1_28 := Lib.hid (S1_27.out.ext Ew28)
  have S6_28 := Lib.hid (S6_27.out.ext Ew28)
  have S7_28 := Lib.hid (S7_27.out.ext Ew28)
  have M3_28 := Lib.hid (M3_27.out.ext Ew28)
  clear S1_27 S6_27 S7_27 M3_27
  have X_28 := Lib.hid (X_27.out.trans Ew28)
  clear X_27
  have S12_28 := Lib.hid (show SlPo w28 (some ⟨w27.heap.size, 0, none⟩) [(⟨Rx.pit 3, some ⟨w25.heap.size, 0, none⟩, 2, [(⟨some ⟨w23.heap.size, 0, none⟩, 2, [500, 500]⟩ : IL), (⟨some ⟨w24.heap.size, 0, none⟩, 2, [300, 700]⟩ : IL)]⟩ : PL), (⟨Rx.pit 7, some ⟨w25.heap.size, 0, none⟩, 2, [(⟨some ⟨w23.heap.size, 0, none⟩, 2, [500, 500]⟩ : IL), (⟨some ⟨w24.heap.size, 0, none⟩, 2, [300, 700]⟩ : IL)]⟩ : PL)] from ⟨by rw [← hw28]; exact Sl.newk2 rfl _ _, fun x hx => by
    simp only [List.mem_cons, List.not_mem_nil, or_false] at hx
    rcases hx with rfl | rfl
    · exact ⟨M3_28.out, rfl, Nat.le_of_ble_eq_true rfl, Nat.le_of_ble_eq_true rfl⟩
    · exact ⟨M3_28.out, rfl, Nat.le_of_ble_eq_true rfl, Nat.le_of_ble_eq_true rfl⟩⟩)
  have Hw28 := Lib.hid hw28
  clear hw28 Ew28
  clear M3_28
  obtain ⟨w29, hw29⟩ : ∃ W, w28.alloc (.cells #[.int .i64 0, .int .i64 100] 3) = W := ⟨_, rfl⟩
  have Ew29 : Ext w28 w29 := by rw [← hw29]; exact (Ext.refl _).alloc _
  have S1_29 := Lib.hid (S1_28.out.ext Ew29)
  have S6_29 := Lib.hid (S6_28.out.ext Ew29)
  have S7_29 := Lib.hid (S7_28.out.ext Ew29)
  have S12_29 := Lib.hid (S12_28.out.ext Ew29)
  clear S1_28 S6_28 S7_28 S12_28
  have X_29 := Lib.hid (X_28.out.trans Ew29)
  clear X_28
  have G1_29 := Lib.hid (show SlI w29 (some ⟨w28.heap.size, 0, none⟩) [0, 100] by rw [← hw29]; exact Sl.new w28 [.int .i64 0, .int .i64 100] _)
  have Hw29 := Lib.hid hw29
  clear hw29 Ew29
  obtain ⟨w30, hw30⟩ : ∃ W, w29.alloc (.cells #[.int .i64 1, .int .i64 1] 3) = W := ⟨_, rfl⟩
  have Ew30 : Ext w29 w30 := by rw [← hw30]; exact (Ext.refl _).alloc _
  have S1_30 := Lib.hid (S1_29.out.ext Ew30)
  have S6_30 := Lib.hid (S6_29.out.ext Ew30)
  have S7_30 := Lib.hid (S7_29.out.ext Ew30)
  have S12_30 := Lib.hid (S12_29.out.ext Ew30)
  have G1_30 := Lib.hid (G1_29.out.ext Ew30)
  clear S1_29 S6_29 S7_29 S12_29 G1_29
  have X_30 := Lib.hid (X_29.out.trans Ew30)
  clear X_29
  have G2_30 := Lib.hid (show SlI w30 (some ⟨w29.heap.size, 0, none⟩) [1, 1] by rw [← hw30]; exact Sl.new w29 [.int .i64 1, .int .i64 1] _)
  have Hw30 := Lib.hid hw30
  clear hw30 Ew30
  have hK := kweights_any (n := 2) (m := 2) (np := 2) (ns := 2) (some ⟨w28.heap.size, 0, none⟩) 2 (some ⟨w29.heap.size, 0, none⟩) 2 [0, 100] [1, 1] rfl rfl (some ⟨w27.heap.size, 0, none⟩) 2 [(⟨Rx.pit 3, some ⟨w25.heap.size, 0, none⟩, 2, [(⟨some ⟨w23.heap.size, 0, none⟩, 2, [500, 500]⟩ : IL), (⟨some ⟨w24.heap.size, 0, none⟩, 2, [300, 700]⟩ : IL)]⟩ : PL), (⟨Rx.pit 7, some ⟨w25.heap.size, 0, none⟩, 2, [(⟨some ⟨w23.heap.size, 0, none⟩, 2, [500, 500]⟩ : IL), (⟨some ⟨w24.heap.size, 0, none⟩, 2, [300, 700]⟩ : IL)]⟩ : PL)] rfl (some ⟨w13.heap.size, 0, none⟩) 2 [(7, 0), (3, 1)] rfl w30 G1_30.out G2_30.out S12_30.out S6_30.out (by decide) (by decide) (by decide) (by decide) (HG.out _ X_30.out)
  rw [show Rw.wgtE [0, 100] [1, 1] (pool [(⟨Rx.pit 3, some ⟨w25.heap.size, 0, none⟩, 2, [(⟨some ⟨w23.heap.size, 0, none⟩, 2, [500, 500]⟩ : IL), (⟨some ⟨w24.heap.size, 0, none⟩, 2, [300, 700]⟩ : IL)]⟩ : PL), (⟨Rx.pit 7, some ⟨w25.heap.size, 0, none⟩, 2, [(⟨some ⟨w23.heap.size, 0, none⟩, 2, [500, 500]⟩ : IL), (⟨some ⟨w24.heap.size, 0, none⟩, 2, [300, 700]⟩ : IL)]⟩ : PL)]) [(7, 0), (3, 1)] = 0 from Rx.wgt_er, show Rw.wgtV [0, 100] [1, 1] (pool [(⟨Rx.pit 3, some ⟨w25.heap.size, 0, none⟩, 2, [(⟨some ⟨w23.heap.size, 0, none⟩, 2, [500, 500]⟩ : IL), (⟨some ⟨w24.heap.size, 0, none⟩, 2, [300, 700]⟩ : IL)]⟩ : PL), (⟨Rx.pit 7, some ⟨w25.heap.size, 0, none⟩, 2, [(⟨some ⟨w23.heap.size, 0, none⟩, 2, [500, 500]⟩ : IL), (⟨some ⟨w24.heap.size, 0, none⟩, 2, [300, 700]⟩ : IL)]⟩ : PL)]) [(7, 0), (3, 1)] = [250000, 210000] from Rx.wgt_of] at hK
  have HK := Lib.hid hK
  clear hK
  go_wp2_with (first
      | (with_reducible refine wpList_buildS (by kernel_rfl) 29 3 2 _ rfl w23.heap.size rfl _ rfl Tryz.underlying29 #[.int .i64 500, .int .i64 500] (by kernel_rfl) w24 Hw24.out ?_)
      | (with_reducible refine wpList_buildS (by kernel_rfl) 29 3 2 _ rfl w24.heap.size rfl _ rfl Tryz.underlying29 #[.int .i64 300, .int .i64 700] (by kernel_rfl) w25 Hw25.out ?_)
      | (with_reducible refine wpList_buildS (by kernel_rfl) 68 29 2 _ rfl w25.heap.size rfl _ rfl Tryz.underlying68 #[IL.val (⟨some ⟨w23.heap.size, 0, none⟩, 2, [500, 500]⟩ : IL), IL.val (⟨some ⟨w24.heap.size, 0, none⟩, 2, [300, 700]⟩ : IL)] (by kernel_rfl) w26 Hw26.out ?_)
      | (with_reducible refine wpList_store_new rfl 70 (.tmp 14) (.tmp 115) rfl #[.slice none 0 0] #[.slice (some ⟨w25.heap.size, 0, none⟩) 2 2] 70 (by with_unfolding_all rfl) (by with_unfolding_all rfl) (by kernel_rfl) rfl (by simp [Value.oneCell']) ?_; rw [Hw27.out])
      | (with_reducible refine wpList_buildS (by kernel_rfl) 37 72 2 _ rfl w27.heap.size rfl _ rfl Tryz.underlying37 (PL.cl (⟨Rx.pit 3, some ⟨w25.heap.size, 0, none⟩, 2, [(⟨some ⟨w23.heap.size, 0, none⟩, 2, [500, 500]⟩ : IL), (⟨some ⟨w24.heap.size, 0, none⟩, 2, [300, 700]⟩ : IL)]⟩ : PL) ++ PL.cl (⟨Rx.pit 7, some ⟨w25.heap.size, 0, none⟩, 2, [(⟨some ⟨w23.heap.size, 0, none⟩, 2, [500, 500]⟩ : IL), (⟨some ⟨w24.heap.size, 0, none⟩, 2, [300, 700]⟩ : IL)]⟩ : PL)).toArray (by kernel_rfl) w28 Hw28.out ?_)
      | (with_reducible refine wpList_buildS (by kernel_rfl) 29 3 2 _ rfl w28.heap.size rfl _ rfl Tryz.underlying29 #[.int .i64 0, .int .i64 100] (by kernel_rfl) w29 Hw29.out ?_)
      | (with_reducible refine wpList_buildS (by kernel_rfl) 29 3 2 _ rfl w29.heap.size rfl _ rfl Tryz.underlying29 #[.int .i64 1, .int .i64 1] (by kernel_rfl) w30 Hw30.out ?_))
  with_reducible refine (HK.out).mono ?_
  rintro e w31 ⟨⟨V, rfl, hVi, hVv⟩, hb⟩
  have S1_31 := Lib.hid (S1_30.out.ext hb)
  have S6_31 := Lib.hid (S6_30.out.ext hb)
  have S7_31 := Lib.hid (S7_30.out.ext hb)
  have S12_31 := Lib.hid (S12_30.out.ext hb)
  have G1_31 := Lib.hid (G1_30.out.ext hb)
  have G2_31 := Lib.hid (G2_30.out.ext hb)
  clear S1_30 S6_30 S7_30 S12_30 G1_30 G2_30
  have X_31 := Lib.hid (X_30.out.trans hb)
  clear X_30
  clear hb
  clear hmc HK
  clear S6_31 S12_31 G1_31 G2_31
  have SV_31 := Lib.hid hVi
  have HVV := Lib.hid hVv
  obtain ⟨VV, hVV⟩ : ∃ q, V.val = q := ⟨_, rfl⟩
  rw [hVV]
  have HVX := Lib.hid hVV
  clear hVi hVv hVV
  obtain ⟨w32, hw32⟩ : ∃ W, w31.alloc (.cells #[.int .u32 250000] 73) = W := ⟨_, rfl⟩
  have Ew32 : Ext w31 w32 := by rw [← hw32]; exact (Ext.refl _).alloc _
  have S1_32 := Lib.hid (S1_31.out.ext Ew32)
  have S7_32 := Lib.hid (S7_31.out.ext Ew32)
  have SV_32 := Lib.hid (SV_31.out.ext Ew32)
  clear S1_31 S7_31 SV_31
  have X_32 := Lib.hid (X_31.out.trans Ew32)
  clear X_31
  have N1_32 := Lib.hid (show SlU w32 (some ⟨w31.heap.size, 0, none⟩) [250000] by rw [← hw32]; exact Sl.new w31 [.int .u32 250000] _)
  have Hw32 := Lib.hid hw32
  clear hw32 Ew32
  obtain ⟨w33, hw33⟩ : ∃ W, w32.alloc (.cells #[.int .u32 210000] 73) = W := ⟨_, rfl⟩
  have Ew33 : Ext w32 w33 := by rw [← hw33]; exact (Ext.refl _).alloc _
  have S1_33 := Lib.hid (S1_32.out.ext Ew33)
  have S7_33 := Lib.hid (S7_32.out.ext Ew33)
  have SV_33 := Lib.hid (SV_32.out.ext Ew33)
  have N1_33 := Lib.hid (N1_32.out.ext Ew33)
  clear S1_32 S7_32 SV_32 N1_32
  have X_33 := Lib.hid (X_32.out.trans Ew33)
  clear X_32
  have N2_33 := Lib.hid (show SlU w33 (some ⟨w32.heap.size, 0, none⟩) [210000] by rw [← hw33]; exact Sl.new w32 [.int .u32 210000] _)
  have Hw33 := Lib.hid hw33
  clear hw33 Ew33
  obtain ⟨w34, hw34⟩ : ∃ W, w33.alloc (.cells #[.slice (some ⟨w31.heap.size, 0, none⟩) 1 1, .slice (some ⟨w32.heap.size, 0, none⟩) 1 1] 75) = W := ⟨_, rfl⟩
  have Ew34 : Ext w33 w34 := by rw [← hw34]; exact (Ext.refl _).alloc _
  have S1_34 := Lib.hid (S1_33.out.ext Ew34)
  have S7_34 := Lib.hid (S7_33.out.ext Ew34)
  have SV_34 := Lib.hid (SV_33.out.ext Ew34)
  have N1_34 := Lib.hid (N1_33.out.ext Ew34)
  have N2_34 := Lib.hid (N2_33.out.ext Ew34)
  clear S1_33 S7_33 SV_33 N1_33 N2_33
  have X_34 := Lib.hid (X_33.out.trans Ew34)
  clear X_33
  have S13_34 := Lib.hid (show (⟨some ⟨w33.heap.size, 0, none⟩, 2, [(⟨some ⟨w31.heap.size, 0, none⟩, 1, 250000⟩ : NL), (⟨some ⟨w32.heap.size, 0, none⟩, 1, 210000⟩ : NL)]⟩ : WL).In w34 from wl_two (by decide) (by decide) (by decide) (by decide) N1_34.out N2_34.out (by rw [← hw34]; exact Sl.new w33 [.slice (some ⟨w31.heap.size, 0, none⟩) 1 1, .slice (some ⟨w32.heap.size, 0, none⟩) 1 1] _))
  have Hw34 := Lib.hid hw34
  clear hw34 Ew34
  clear N1_34 N2_34
  have hK := wequal_eq V ⟨some ⟨w33.heap.size, 0, none⟩, 2, [(⟨some ⟨w31.heap.size, 0, none⟩, 1, 250000⟩ : NL), (⟨some ⟨w32.heap.size, 0, none⟩, 1, 210000⟩ : NL)]⟩ (HVV.out.trans rfl) w34 SV_34.out S13_34.out
  rw [HVX.out, show (⟨some ⟨w33.heap.size, 0, none⟩, 2, [(⟨some ⟨w31.heap.size, 0, none⟩, 1, 250000⟩ : NL), (⟨some ⟨w32.heap.size, 0, none⟩, 1, 210000⟩ : NL)]⟩ : WL).val = .slice (some ⟨w33.heap.size, 0, none⟩) 2 2 from rfl] at hK
  have HK := Lib.hid hK
  clear hK
  go_wp2_with (first
      | (with_reducible refine wpList_buildS (by kernel_rfl) 75 73 1 _ rfl w31.heap.size rfl _ rfl Tryz.underlying75 #[.int .u32 250000] (by kernel_rfl) w32 Hw32.out ?_)
      | (with_reducible refine wpList_buildS (by kernel_rfl) 75 73 1 _ rfl w32.heap.size rfl _ rfl Tryz.underlying75 #[.int .u32 210000] (by kernel_rfl) w33 Hw33.out ?_)
      | (with_reducible refine wpList_buildS (by kernel_rfl) 38 75 2 _ rfl w33.heap.size rfl _ rfl Tryz.underlying38 #[.slice (some ⟨w31.heap.size, 0, none⟩) 1 1, .slice (some ⟨w32.heap.size, 0, none⟩) 1 1] (by kernel_rfl) w34 Hw34.out ?_))
  with_reducible refine (HK.out).mono ?_
  rintro e w35 ⟨rfl, hb⟩
  have S1_35 := Lib.hid (S1_34.out.ext hb)
  have S7_35 := Lib.hid (S7_34.out.ext hb)
  have SV_35 := Lib.hid (SV_34.out.ext hb)
  have S13_35 := Lib.hid (S13_34.out.ext hb)
  clear S1_34 S7_34 SV_34 S13_34
  have X_35 := Lib.hid (X_34.out.trans hb)
  clear X_34
  clear hb
  clear HK HVX HVV
  clear SV_35 S13_35
  go_wp2_with fail
  with_reducible refine (choice_any 7 3 1 (by unfold In64; decide) (by unfold In64; decide) (by unfold In64; decide) _).mono ?_
  rintro e w36 ⟨⟨L7, rfl, hI⟩, hb⟩
  have S1_36 := Lib.hid (S1_35.out.ext hb)
  have S7_36 := Lib.hid (S7_35.out.ext hb)
  clear S1_35 S7_35
  have X_36 := Lib.hid (X_35.out.trans hb)
  clear X_35
  clear hb
  have IL7_36 := Lib.hid hI
  clear hI
  obtain ⟨w37, hw37⟩ : ∃ W, w36.alloc (.cells (Rt.cch ((Rx.chI 7 3 1, L7), (0 : Int))).toArray 57) = W := ⟨_, rfl⟩
  have Ew37 : Ext w36 w37 := by rw [← hw37]; exact (Ext.refl _).alloc _
  have S1_37 := Lib.hid (S1_36.out.ext Ew37)
  have S7_37 := Lib.hid (S7_36.out.ext Ew37)
  have IL7_37 := Lib.hid (IL7_36.out.ext Ew37)
  clear S1_36 S7_36 IL7_36
  have X_37 := Lib.hid (X_36.out.trans Ew37)
  clear X_36
  have S2_37 := Lib.hid (show Rt.SlCh w37 (some ⟨w36.heap.size, 0, none⟩) [((Rx.chI 7 3 1, L7), (0 : Int))] from ⟨by rw [← hw37]; exact Sl.newk1 _ _, fun x hx => by
    simp only [List.mem_cons, List.not_mem_nil, or_false] at hx
    subst hx
    exact IL7_37.out⟩)
  have Hw37 := Lib.hid hw37
  clear hw37 Ew37
  clear IL7_37
  have hK := kitems_any (n := 2) (m := 1) (some ⟨w2.heap.size, 0, none⟩) 2 [(Rx.chI 3 1 0, L1), (Rx.chI 7 1 0, L2)] (some ⟨w36.heap.size, 0, none⟩) 1 [((Rx.chI 7 3 1, L7), (0 : Int))] rfl rfl w37 S1_37.out S2_37.out (by decide) (by decide) (HG.out _ X_37.out)
  rw [show Rs.itmE (Rt.its [(Rx.chI 3 1 0, L1), (Rx.chI 7 1 0, L2)]) (Rt.chs [((Rx.chI 7 3 1, L7), (0 : Int))]) = 18 from Rx.items_bad.1, show Rs.itmL (Rt.its [(Rx.chI 3 1 0, L1), (Rx.chI 7 1 0, L2)]) (Rt.chs [((Rx.chI 7 3 1, L7), (0 : Int))]) = [] from Rx.items_bad_of.1] at hK
  have HK := Lib.hid hK
  clear hK
  go_wp2_with (first
      | (with_reducible refine Go.wpList_buildTo rfl 57 _ rfl _ rfl (Rt.cch ((Rx.chI 7 3 1, L7), (0 : Int))).toArray (by kernel_rfl) ?_)
      | (with_reducible refine wpList_buildS (by kernel_rfl) 43 57 1 _ rfl w36.heap.size rfl _ rfl Tryz.underlying43 (Rt.cch ((Rx.chI 7 3 1, L7), (0 : Int))).toArray (by kernel_rfl) w37 Hw37.out ?_))
  with_reducible refine (HK.out).mono ?_
  rintro e w38 ⟨⟨AB1, cB1, zs1, hz, rfl, -, -, -⟩, hb⟩
  have S1_38 := Lib.hid (S1_37.out.ext hb)
  have S7_38 := Lib.hid (S7_37.out.ext hb)
  have S2_38 := Lib.hid (S2_37.out.ext hb)
  clear S1_37 S7_37 S2_37
  have X_38 := Lib.hid (X_37.out.trans hb)
  clear X_37
  clear hb
  obtain rfl : zs1 = [] := List.map_eq_nil_iff.1 hz
  clear hz HK
  clear S2_38
  go_wp2_with fail
  with_reducible refine (choice_any 9 2 1 (by unfold In64; decide) (by unfold In64; decide) (by unfold In64; decide) _).mono ?_
  rintro e w39 ⟨⟨L8, rfl, hI⟩, hb⟩
  have S1_39 := Lib.hid (S1_38.out.ext hb)
  have S7_39 := Lib.hid (S7_38.out.ext hb)
  clear S1_38 S7_38
  have X_39 := Lib.hid (X_38.out.trans hb)
  clear X_38
  clear hb
  have IL8_39 := Lib.hid hI
  clear hI
  obtain ⟨w40, hw40⟩ : ∃ W, w39.alloc (.cells (Rt.cch ((Rx.chI 9 2 1, L8), (0 : Int))).toArray 57) = W := ⟨_, rfl⟩
  have Ew40 : Ext w39 w40 := by rw [← hw40]; exact (Ext.refl _).alloc _
  have S1_40 := Lib.hid (S1_39.out.ext Ew40)
  have S7_40 := Lib.hid (S7_39.out.ext Ew40)
  have IL8_40 := Lib.hid (IL8_39.out.ext Ew40)
  clear S1_39 S7_39 IL8_39
  have X_40 := Lib.hid (X_39.out.trans Ew40)
  clear X_39
  have S2_40 := Lib.hid (show Rt.SlCh w40 (some ⟨w39.heap.size, 0, none⟩) [((Rx.chI 9 2 1, L8), (0 : Int))] from ⟨by rw [← hw40]; exact Sl.newk1 _ _, fun x hx => by
    simp only [List.mem_cons, List.not_mem_nil, or_false] at hx
    subst hx
    exact IL8_40.out⟩)
  have Hw40 := Lib.hid hw40
  clear hw40 Ew40
  clear IL8_40
  have hK := kitems_any (n := 2) (m := 1) (some ⟨w2.heap.size, 0, none⟩) 2 [(Rx.chI 3 1 0, L1), (Rx.chI 7 1 0, L2)] (some ⟨w39.heap.size, 0, none⟩) 1 [((Rx.chI 9 2 1, L8), (0 : Int))] rfl rfl w40 S1_40.out S2_40.out (by decide) (by decide) (HG.out _ X_40.out)
  rw [show Rs.itmE (Rt.its [(Rx.chI 3 1 0, L1), (Rx.chI 7 1 0, L2)]) (Rt.chs [((Rx.chI 9 2 1, L8), (0 : Int))]) = 6 from Rx.items_bad.2, show Rs.itmL (Rt.its [(Rx.chI 3 1 0, L1), (Rx.chI 7 1 0, L2)]) (Rt.chs [((Rx.chI 9 2 1, L8), (0 : Int))]) = [] from Rx.items_bad_of.2] at hK
  have HK := Lib.hid hK
  clear hK
  go_wp2_with (first
      | (with_reducible refine Go.wpList_buildTo rfl 57 _ rfl _ rfl (Rt.cch ((Rx.chI 9 2 1, L8), (0 : Int))).toArray (by kernel_rfl) ?_)
      | (with_reducible refine wpList_buildS (by kernel_rfl) 43 57 1 _ rfl w39.heap.size rfl _ rfl Tryz.underlying43 (Rt.cch ((Rx.chI 9 2 1, L8), (0 : Int))).toArray (by kernel_rfl) w40 Hw40.out ?_))
  with_reducible refine (HK.out).mono ?_
  rintro e w41 ⟨⟨AB2, cB2, zs2, hz, rfl, -, -, -⟩, hb⟩
  have S1_41 := Lib.hid (S1_40.out.ext hb)
  have S7_41 := Lib.hid (S7_40.out.ext hb)
  have S2_41 := Lib.hid (S2_40.out.ext hb)
  clear S1_40 S7_40 S2_40
  have X_41 := Lib.hid (X_40.out.trans hb)
  clear X_40
  clear hb
  obtain rfl : zs2 = [] := List.map_eq_nil_iff.1 hz
  clear hz HK
  clear S2_41
  clear S1_41
  have hs7 := S7_41.out
  have HS8 : Hid (Rt.SlSt w41 A7 [(7, 0)]) := Lib.hid (by
    rcases hs7 with h | ⟨b, off, hA, hb, hc⟩
    · cases h
    · refine Or.inr ⟨b, off, hA, hb, fun i cs hi => ?_⟩
      match i, hi with
      | 0, hi => exact hc 0 cs hi)
  obtain ⟨b7, off7, rfl⟩ : ∃ b off, A7 = some ⟨b, off, none⟩ := by
    rcases hs7 with h | ⟨b, off, hA, -, -⟩
    · cases h
    · exact ⟨b, off, hA⟩
  clear hs7
  have hK := kchanged_any (n := 2) (m := 1) (some ⟨b7, off7, none⟩) (some ⟨b7, off7, none⟩) c7 c7 [(7, 0), (3, 1)] [(7, 0)] rfl rfl w41 S7_41.out HS8.out (by decide) (by decide) (by decide)
  rw [show Rs.chdE [(7, 0), (3, 1)] [(7, 0)] = 1 from Rx.chd_bad.1, show Rs.chdL [(7, 0), (3, 1)] [(7, 0)] = [] from Rx.chd_bad.2] at hK
  have HK := Lib.hid hK
  clear hK
  have hc7 : 1 ≤ c7 := Nat.le_trans (by decide) HC7.out
  have hc7i : (1 : Int) ≤ (c7 : Int) := by omega
  go_wp2_with fail
  with_reducible refine (HK.out).mono ?_
  rintro e w42 ⟨⟨AC, cC, rfl, -, -, -⟩, hb⟩
  have S7_42 := Lib.hid (S7_41.out.ext hb)
  clear S7_41
  have X_42 := Lib.hid (X_41.out.trans hb)
  clear X_41
  clear hb
  go_wp2
  go_ret
  exact ⟨rfl, X_42.out⟩
end Go.Proofs.YtgaepmddbjdhfaaGreatDoor
