/- The laws' own examples (awake): they hold. Conditions: none. -/
import Derived.Test.YthjledbomonfpaaAdjG
import Derived.Deep.DeepCutAuto
namespace Go.Proofs.Ythjledbomonfpaa
open Go.RowKit

theorem sl_two {w : World} {g a b : Nat} {x y : Int} (h0 : w.cell? ⟨g, 0, none⟩ = some (.slice (some ⟨a, 0, none⟩) 1 1)) (h1 : w.cell? ⟨g, 1, none⟩ = some (.slice (some ⟨b, 0, none⟩) 1 1)) (hx : (⟨some ⟨a, 0, none⟩, 1, [x]⟩ : IL).In w) (hy : (⟨some ⟨b, 0, none⟩, 1, [y]⟩ : IL).In w) :
    SlL w (some ⟨g, 0, none⟩) [⟨some ⟨a, 0, none⟩, 1, [x]⟩, ⟨some ⟨b, 0, none⟩, 1, [y]⟩] := by
  refine ⟨Or.inr ⟨g, 0, rfl, World.block_lt_of_cell? w _ h0, fun i xs hi j u hu => ?_⟩, fun z hz => by simp at hz; rcases hz with rfl | rfl; exact hx; exact hy⟩
  match i, hi with
  | 0, hi =>
    simp at hi
    subst hi
    match j, hu with
    | 0, hu => simp [IL.val] at hu; subst hu; simpa using h0
    | j + 1, hu => simp at hu
  | 1, hi =>
    simp at hi
    subst hi
    match j, hu with
    | 0, hu => simp [IL.val] at hu; subst hu; simpa using h1
    | j + 1, hu => simp at hu
  | i + 2, hi => simp at hi
theorem sl_three {w : World} {g a b c : Nat} {x y z : Int} (h0 : w.cell? ⟨g, 0, none⟩ = some (.slice (some ⟨a, 0, none⟩) 1 1)) (h1 : w.cell? ⟨g, 1, none⟩ = some (.slice (some ⟨b, 0, none⟩) 1 1)) (h2 : w.cell? ⟨g, 2, none⟩ = some (.slice (some ⟨c, 0, none⟩) 1 1)) (hx : (⟨some ⟨a, 0, none⟩, 1, [x]⟩ : IL).In w) (hy : (⟨some ⟨b, 0, none⟩, 1, [y]⟩ : IL).In w) (hz : (⟨some ⟨c, 0, none⟩, 1, [z]⟩ : IL).In w) :
    SlL w (some ⟨g, 0, none⟩) [⟨some ⟨a, 0, none⟩, 1, [x]⟩, ⟨some ⟨b, 0, none⟩, 1, [y]⟩, ⟨some ⟨c, 0, none⟩, 1, [z]⟩] := by
  refine ⟨Or.inr ⟨g, 0, rfl, World.block_lt_of_cell? w _ h0, fun i xs hi j u hu => ?_⟩, fun q hq => by simp at hq; rcases hq with rfl | rfl | rfl; exact hx; exact hy; exact hz⟩
  match i, hi with
  | 0, hi =>
    simp at hi
    subst hi
    match j, hu with
    | 0, hu => simp [IL.val] at hu; subst hu; simpa using h0
    | j + 1, hu => simp at hu
  | 1, hi =>
    simp at hi
    subst hi
    match j, hu with
    | 0, hu => simp [IL.val] at hu; subst hu; simpa using h1
    | j + 1, hu => simp at hu
  | 2, hi =>
    simp at hi
    subst hi
    match j, hu with
    | 0, hu => simp [IL.val] at hu; subst hu; simpa using h2
    | j + 1, hu => simp at hu
  | i + 3, hi => simp at hi

theorem need2 (gap rule : Int) (A : Option Addr) (c : Nat) (L : Option Addr) (a b : Nat) (x y : Int) (w : World) (h : RubIn w 1 A c [styleT]) (hL : SlL w L [⟨some ⟨a, 0, none⟩, 1, [x]⟩, ⟨some ⟨b, 0, none⟩, 1, [y]⟩]) :
    Calls Try.prog 20 #[.agg #[.int .i64 gap, .int .i64 rule], .agg #[.int .i64 1, .slice A 1 c], .slice L 2 2] w fun e w' =>
      e = .returned (.tuple #[.int .i64 (Adj.needV gap rule 1 [styleT] [[x], [y]]), .int .i64 (Adj.chkE gap rule 1 [styleT] [[x], [y]])]) ∧ Ext w w' :=
  need_any gap rule 1 A c [styleT] L 2 [⟨some ⟨a, 0, none⟩, 1, [x]⟩, ⟨some ⟨b, 0, none⟩, 1, [y]⟩] w h hL (by simp [maxLen])
theorem score2 (gap rule : Int) (A : Option Addr) (c : Nat) (L : Option Addr) (a b : Nat) (x y : Int) (w : World) (h : RubIn w 1 A c [styleT]) (hL : SlL w L [⟨some ⟨a, 0, none⟩, 1, [x]⟩, ⟨some ⟨b, 0, none⟩, 1, [y]⟩]) :
    Calls Try.prog 22 #[.agg #[.int .i64 gap, .int .i64 rule], .agg #[.int .i64 1, .slice A 1 c], .slice L 2 2] w fun e w' =>
      e = .returned (.tuple #[.int .i64 (Adj.scoreR gap rule 1 [styleT] [[x], [y]]).1, .int .i64 (Adj.scoreR gap rule 1 [styleT] [[x], [y]]).2]) ∧ Ext w w' :=
  score_any gap rule 1 A c [styleT] L 2 [⟨some ⟨a, 0, none⟩, 1, [x]⟩, ⟨some ⟨b, 0, none⟩, 1, [y]⟩] w h hL (by simp [maxLen])
theorem score3 (gap rule : Int) (A : Option Addr) (c : Nat) (L : Option Addr) (a b d : Nat) (x y z : Int) (w : World) (h : RubIn w 1 A c [styleT]) (hL : SlL w L [⟨some ⟨a, 0, none⟩, 1, [x]⟩, ⟨some ⟨b, 0, none⟩, 1, [y]⟩, ⟨some ⟨d, 0, none⟩, 1, [z]⟩]) :
    Calls Try.prog 22 #[.agg #[.int .i64 gap, .int .i64 rule], .agg #[.int .i64 1, .slice A 1 c], .slice L 3 3] w fun e w' =>
      e = .returned (.tuple #[.int .i64 (Adj.scoreR gap rule 1 [styleT] [[x], [y], [z]]).1, .int .i64 (Adj.scoreR gap rule 1 [styleT] [[x], [y], [z]]).2]) ∧ Ext w w' :=
  score_any gap rule 1 A c [styleT] L 3 [⟨some ⟨a, 0, none⟩, 1, [x]⟩, ⟨some ⟨b, 0, none⟩, 1, [y]⟩, ⟨some ⟨d, 0, none⟩, 1, [z]⟩] w h hL (by simp [maxLen])

theorem sr_two {w : World} {g a b : Nat} {p q i j x y : Int} (h0 : w.cell? ⟨g, 0, none⟩ = some (.int .i64 p)) (h1 : w.cell? ⟨g, 1, none⟩ = some (.int .i64 i)) (h2 : w.cell? ⟨g, 2, none⟩ = some (.slice (some ⟨a, 0, none⟩) 1 1)) (h3 : w.cell? ⟨g, 3, none⟩ = some (.int .i64 q)) (h4 : w.cell? ⟨g, 4, none⟩ = some (.int .i64 j)) (h5 : w.cell? ⟨g, 5, none⟩ = some (.slice (some ⟨b, 0, none⟩) 1 1)) (hx : (⟨some ⟨a, 0, none⟩, 1, [x]⟩ : IL).In w) (hy : (⟨some ⟨b, 0, none⟩, 1, [y]⟩ : IL).In w) :
    SlR w (some ⟨g, 0, none⟩) [⟨p, i, ⟨some ⟨a, 0, none⟩, 1, [x]⟩⟩, ⟨q, j, ⟨some ⟨b, 0, none⟩, 1, [y]⟩⟩] := by
  refine ⟨Or.inr ⟨g, 0, rfl, World.block_lt_of_cell? w _ h0, fun n xs hi m u hu => ?_⟩, fun z hz => by simp at hz; rcases hz with rfl | rfl; exact ⟨hx, by simp⟩; exact ⟨hy, by simp⟩⟩
  match n, hi with
  | 0, hi =>
    simp at hi
    subst hi
    match m, hu with
    | 0, hu => simp [Adj.Rt.cells] at hu; subst hu; simpa using h0
    | 1, hu => simp [Adj.Rt.cells] at hu; subst hu; simpa using h1
    | 2, hu => simp [Adj.Rt.cells] at hu; subst hu; simpa using h2
    | m + 3, hu => simp [Adj.Rt.cells] at hu
  | 1, hi =>
    simp at hi
    subst hi
    match m, hu with
    | 0, hu => simp [Adj.Rt.cells] at hu; subst hu; simpa using h3
    | 1, hu => simp [Adj.Rt.cells] at hu; subst hu; simpa using h4
    | 2, hu => simp [Adj.Rt.cells] at hu; subst hu; simpa using h5
    | m + 3, hu => simp [Adj.Rt.cells] at hu
  | n + 2, hi => simp at hi
/-- Pick, at the example: one list of marks, [4]. -/
theorem pick2 (g a b : Nat) (w : World) (h : SlR w (some ⟨g, 0, none⟩) [⟨1, 7, ⟨some ⟨a, 0, none⟩, 1, [3]⟩⟩, ⟨1, 8, ⟨some ⟨b, 0, none⟩, 1, [4]⟩⟩]) :
    Calls Try.prog 29 #[.slice (some ⟨g, 0, none⟩) 2 2, .int .i64 8] w fun e w' => ∃ (L : Option Addr) (c : Nat) (y : IL), e = .returned (.tuple #[.slice L 1 c, .int .i64 0]) ∧ SlL w' L [y] ∧ y.xs = [4] ∧ Ext w w' := by
  refine (pick_any (some ⟨g, 0, none⟩) 2 [⟨1, 7, ⟨some ⟨a, 0, none⟩, 1, [3]⟩⟩, ⟨1, 8, ⟨some ⟨b, 0, none⟩, 1, [4]⟩⟩] 8 w h (by simp [maxLen])).mono ?_
  have hE : Adj.pickE [⟨1, 7, ⟨some ⟨a, 0, none⟩, 1, [3]⟩⟩, ⟨1, 8, ⟨some ⟨b, 0, none⟩, 1, [4]⟩⟩] 8 = 0 := by simp [Adj.pickE, Adj.own]
  have hL : Adj.pickL [⟨1, 7, ⟨some ⟨a, 0, none⟩, 1, [3]⟩⟩, ⟨1, 8, ⟨some ⟨b, 0, none⟩, 1, [4]⟩⟩] 8 = [[4]] := by unfold Adj.pickL; rw [if_pos hE]; simp [Adj.own]
  rintro e w' ⟨L, c, ils, rfl, hs, hm, hc, hc2, he⟩
  rw [hL] at hm
  rw [hE]
  obtain ⟨y, rfl⟩ : ∃ y, ils = [y] := by
    have hlen : ils.length = 1 := by simpa using congrArg List.length hm
    exact List.length_eq_one_iff.1 hlen
  exact ⟨L, c, y, rfl, hs, by simpa using hm, he⟩
theorem sl_one {w : World} {g a : Nat} {x : Int} (h0 : w.cell? ⟨g, 0, none⟩ = some (.slice (some ⟨a, 0, none⟩) 1 1)) (hx : (⟨some ⟨a, 0, none⟩, 1, [x]⟩ : IL).In w) :
    SlL w (some ⟨g, 0, none⟩) [⟨some ⟨a, 0, none⟩, 1, [x]⟩] := by
  refine ⟨Or.inr ⟨g, 0, rfl, World.block_lt_of_cell? w _ h0, fun i xs hi j u hu => ?_⟩, fun z hz => by simp at hz; subst hz; exact hx⟩
  match i, hi with
  | 0, hi =>
    simp at hi
    subst hi
    match j, hu with
    | 0, hu => simp [IL.val] at hu; subst hu; simpa using h0
    | j + 1, hu => simp at hu
  | i + 1, hi => simp at hi
theorem equal1 (A : Option Addr) (ac : Nat) (y : IL) (g a : Nat) (w : World) (hy : y.xs = [4]) (ha : SlL w A [y]) (hb : SlL w (some ⟨g, 0, none⟩) [⟨some ⟨a, 0, none⟩, 1, [4]⟩]) :
    Calls Try.prog 33 #[.slice A 1 ac, .slice (some ⟨g, 0, none⟩) 1 1] w fun e w' => e = .returned (.bool true) ∧ Ext w w' := by
  refine (equal_any A ac [y] (some ⟨g, 0, none⟩) 1 [⟨some ⟨a, 0, none⟩, 1, [4]⟩] w ha hb (by simp [maxLen])).mono ?_
  rintro e w' ⟨rfl, he⟩
  exact ⟨by simp [hy], he⟩

set_option maxRecDepth 100000 in
set_option maxHeartbeats 800000 in
theorem scored_any (rule x y z want : Int) (w : World) (hx : 0 ≤ x ∧ x ≤ 10) (hy : 0 ≤ y ∧ y ≤ 10) (hz : 0 ≤ z ∧ z ≤ 10) (h : Adj.scoreR 1 rule 1 [styleT] [[x], [y], [z]] = (want, 0)) :
    Calls Try.prog 43 #[.int .i64 rule, .int .i64 x, .int .i64 y, .int .i64 z, .int .i64 want] w fun e w' => e = .returned (.bool true) ∧ Ext w w' := by
  have HH := Lib.hid h
  clear h
  go_enter Try.func43, Try.ntmps43
  go_wp2_with fail
  refine (sample_any _).mono ?_
  rintro e ws ⟨SA, sc, rfl, hs, hbs⟩
  have HS := Lib.hid hs
  clear hs
  go_wp2_with fail
  refine (score3 1 rule SA sc _ ws.heap.size (ws.heap.size + 1) (ws.heap.size + 1 + 1) x y z _ (HS.out.ext (by repeat (first | exact Ext.refl _ | refine Ext.alloc ?_ _))) (sl_three (by simp [go_sem]) (by simp [go_sem]) (by simp [go_sem]) (one_in (by simp [go_sem]) hx.1 hx.2) (one_in (by simp [go_sem]) hy.1 hy.2) (one_in (by simp [go_sem]) hz.1 hz.2))).mono ?_
  rintro e wg ⟨rfl, hbg⟩
  rw [HH.out]
  go_wp2
  go_ret
  exact ⟨ret_bool (by simp), hbs.trans (Ext.trans (by repeat (first | exact Ext.refl _ | refine Ext.alloc ?_ _)) hbg)⟩

theorem aw1 : Adj.agreeB 1 2 1 [styleT] [3] [2] = true ∧ Adj.agreeE 1 2 1 [styleT] [3] [2] = 0 := by decide +kernel
theorem aw2 : Adj.agreeB 1 2 1 [styleT] [3] [1] = false ∧ Adj.agreeE 1 2 1 [styleT] [3] [1] = 0 := by decide +kernel
theorem aw3 : Adj.needV 1 2 1 [styleT] [[3], [1]] = 1 ∧ Adj.chkE 1 2 1 [styleT] [[3], [1]] = 0 := by decide +kernel
theorem aw4 : (Adj.scoreR 1 2 1 [styleT] [[3], [2]]).1 = 5 ∧ (Adj.scoreR 1 2 1 [styleT] [[3], [2]]).2 = 0 := by decide +kernel
theorem aw5 : (Adj.scoreR 1 2 1 [styleT] [[3], [1]]).1 = 0 ∧ (Adj.scoreR 1 2 1 [styleT] [[3], [1]]).2 = 22 := by decide +kernel
theorem aw6 : Adj.scoreR 1 1 1 [styleT] [[1], [4], [2]] = (4, 0) ∧ Adj.scoreR 1 2 1 [styleT] [[1], [4], [2]] = (3, 0) ∧ Adj.scoreR 1 3 1 [styleT] [[1], [4], [2]] = (4, 0) ∧ Adj.scoreR 1 2 1 [styleT] [[0], [4], [2]] = (2, 0) := by decide +kernel

end Go.Proofs.Ythjledbomonfpaa
