/- adjudicate.Essay and its counterpart in the reference: contracts for the walk; ratings out of a row's reading; rows of structs that a call owns as slices. Conditions: those of each theorem. -/
import Derived.Test.YthjledbomonfpaaAdjJ
import Derived.Test.YthjledbomonfpaaAdjO
import Derived.Test.YthjledbomonfpaaW
namespace Go.Proofs.Ythjledbomonfpaa
open Go.ChangeShapes Go.WideShapes Go.ChangeAt Go.RowKit

theorem flatten_at {α : Type} {k : Nat} : ∀ {xs : List (List α)} {i j : Nat} {cs : List α} {v : α}, (∀ c ∈ xs, c.length = k) → xs[i]? = some cs → cs[j]? = some v → xs.flatten[i * k + j]? = some v
  | c0 :: xs, 0, j, cs, v, hk, hi, hj => by
    simp at hi
    subst hi
    have hj' : j < c0.length := by
      rcases Nat.lt_or_ge j c0.length with g | g
      · exact g
      · rw [List.getElem?_eq_none g] at hj; cases hj
    rw [List.flatten_cons, Nat.zero_mul, Nat.zero_add, List.getElem?_append_left hj']; exact hj
  | c0 :: xs, i + 1, j, cs, v, hk, hi, hj => by
    have h0 := hk c0 (by simp)
    rw [List.flatten_cons, List.getElem?_append_right (by rw [h0, Nat.succ_mul]; omega), h0, show (i + 1) * k + j - k = i * k + j by rw [Nat.succ_mul]; omega]
    exact flatten_at (fun c hc => hk c (List.mem_cons_of_mem _ hc)) (by simpa using hi) hj

/-- A row that the call owns reads as a slice of its elements. -/
theorem Sl.of_own {w : World} {base : Nat} {e : TypeId} {k : Nat} {v : Value} {n : Nat} {xs : List (List Value)} (hk : ∀ c ∈ xs, c.length = k) (hl : xs.length = n) (h : w.ownsRow base e k v n xs.flatten) : ∃ A c, v = .slice A xs.length c ∧ xs.length ≤ c ∧ c ≤ maxLen ∧ Sl w k A xs := by
  rcases h.2 with ⟨rfl, h0⟩ | ⟨g, cap, cur, rfl, hg, hh, h1, h2, h3, h4⟩
  · have : xs = [] := List.eq_nil_of_length_eq_zero (by omega)
    subst this
    exact ⟨none, 0, rfl, Nat.le_refl _, Nat.zero_le _, Or.inl rfl⟩
  · refine ⟨some ⟨g, 0, none⟩, cap, by rw [hl], by omega, h2, Or.inr ⟨g, 0, rfl, ?_, fun i cs hi j v hv => ?_⟩⟩
    · rcases Nat.lt_or_ge g w.heap.size with hlt | hge
      · exact hlt
      · rw [Array.getElem?_eq_none hge] at hh; cases hh
    · have h5 := flatten_at hk hi hv
      rw [← h4] at h5
      have h6 := cell_of_row w g (i * k + j) cur e (0, 0) hh
      rw [Nat.zero_add, h6]
      have hlt : i * k + j < n * k := by
        rcases Nat.lt_or_ge (i * k + j) (n * k) with g | g
        · exact g
        · rw [List.getElem?_eq_none (by rw [List.length_take]; omega)] at h5; cases h5
      rw [List.getElem?_take_of_lt hlt] at h5
      simpa using h5

def Adj.essayR (gap rule id : Int) (ts : List Rub.Trait) (rs : List Adj.Rt) (it : Int) : Int × Int := if Adj.pickE rs it = 0 then Adj.scoreR gap rule id ts (Adj.pickL rs it) else (0, Adj.pickE rs it)

set_option maxHeartbeats 800000 in
theorem essay_any (gap rule : Int) (id : Int) (A : Option Addr) (c : Nat) (ts : List Rub.Trait) (B : Option Addr) (bc : Nat) (rs : List Adj.Rt) (it : Int) (w : World) (h : RubIn w id A c ts) (hR : SlR w B rs) (hlen : rs.length ≤ maxLen) :
    Calls Try.prog 31 #[.agg #[.int .i64 gap, .int .i64 rule], .agg #[.int .i64 id, .slice A ts.length c], .slice B rs.length bc, .int .i64 it] w fun e w' =>
      e = .returned (.tuple #[.int .i64 (Adj.essayR gap rule id ts rs it).1, .int .i64 (Adj.essayR gap rule id ts rs it).2]) ∧ Ext w w' := by
  have H := Lib.hid h
  have HR := Lib.hid hR
  have HL := Lib.hid hlen
  clear h hR hlen
  have hx0 : Ext w ((w.alloc (.cells #[.int .i64 gap, .int .i64 rule] 38)).alloc (.cells #[.int .i64 id, .slice A ts.length c] 24)) := ((Ext.refl _).alloc _).alloc _
  by_cases z : Adj.pickE rs it = 0
  · have E := Lib.hid z
    have ES : Hid (Adj.essayR gap rule id ts rs it = Adj.scoreR gap rule id ts (Adj.pickL rs it)) := by show _ = _; unfold Adj.essayR; rw [if_pos z]
    clear z
    go_enter Try.func31, Try.ntmps31
    go_wp2_with fail
    refine (pick_any B bc rs it _ (HR.out.ext hx0) HL.out).mono ?_
    rintro e w1 ⟨L, lc, ils, rfl, hl1, hl2, hl3, hl4, hb1⟩
    rw [E.out]
    have HI := Lib.hid hl1
    have HM := Lib.hid hl2
    have HC := Lib.hid (Nat.le_trans hl3 hl4)
    clear hl1 hl2 hl3 hl4
    have ax1 : w1.cell? ⟨w.heap.size, 0, none⟩ = some (.int .i64 gap) := hb1.keep (by simp [go_sem])
    have ay1 : w1.cell? ⟨w.heap.size, 1, none⟩ = some (.int .i64 rule) := hb1.keep (by simp [go_sem])
    have bx1 : w1.cell? ⟨w.heap.size + 1, 0, none⟩ = some (.int .i64 id) := hb1.keep (by simp [go_sem])
    have by1 : w1.cell? ⟨w.heap.size + 1, 1, none⟩ = some (.slice A ts.length c) := hb1.keep (by simp [go_sem])
    have hx1 := hx0.trans hb1
    go_wp2_with fail
    refine (score_any gap rule id A c ts L lc ils _ (H.out.ext hx1) HI.out HC.out).mono ?_
    rintro e w2 ⟨rfl, hb2⟩
    go_wp2
    go_ret2
    exact ⟨ret_two' (by rw [ES.out, ← HM.out]) (by rw [ES.out, ← HM.out]), hx1.trans hb2⟩
  · have z' : (Adj.pickE rs it != 0) = true := by rw [bne_iff_ne]; exact z
    have ES : Hid (Adj.essayR gap rule id ts rs it = (0, Adj.pickE rs it)) := by show _ = _; unfold Adj.essayR; rw [if_neg z]
    clear z
    go_enter Try.func31, Try.ntmps31
    go_wp2_with fail
    refine (pick_any B bc rs it _ (HR.out.ext hx0) HL.out).mono ?_
    rintro e w1 ⟨L, lc, ils, rfl, hl1, hl2, hl3, hl4, hb1⟩
    clear hl1 hl2 hl3 hl4
    go_wp2
    go_ret2
    exact ⟨ret_two' (by rw [ES.out]) (by rw [ES.out]), hx0.trans hb1⟩

set_option maxHeartbeats 800000 in
theorem refEssay_any (gap rule : Int) (id : Int) (A : Option Addr) (c : Nat) (ts : List Rub.Trait) (B : Option Addr) (bc : Nat) (rs : List Adj.Rt) (it : Int) (w : World) (h : RubIn w id A c ts) (hR : SlR w B rs) (hlen : rs.length ≤ maxLen) :
    Calls Try.prog 32 #[.agg #[.int .i64 gap, .int .i64 rule], .agg #[.int .i64 id, .slice A ts.length c], .slice B rs.length bc, .int .i64 it] w fun e w' =>
      e = .returned (.tuple #[.int .i64 (Adj.essayR gap rule id ts rs it).1, .int .i64 (Adj.essayR gap rule id ts rs it).2]) ∧ Ext w w' := by
  have H := Lib.hid h
  have HR := Lib.hid hR
  have HL := Lib.hid hlen
  clear h hR hlen
  have hx0 : Ext w ((w.alloc (.cells #[.int .i64 gap, .int .i64 rule] 38)).alloc (.cells #[.int .i64 id, .slice A ts.length c] 24)) := ((Ext.refl _).alloc _).alloc _
  by_cases z : Adj.pickE rs it = 0
  · have E := Lib.hid z
    have ES : Hid (Adj.essayR gap rule id ts rs it = Adj.scoreR gap rule id ts (Adj.pickL rs it)) := by show _ = _; unfold Adj.essayR; rw [if_pos z]
    clear z
    go_enter Try.func32, Try.ntmps32
    go_wp2_with fail
    refine (refPick_any B bc rs it _ (HR.out.ext hx0) HL.out).mono ?_
    rintro e w1 ⟨L, lc, ils, rfl, hl1, hl2, hl3, hl4, hb1⟩
    rw [E.out]
    have HI := Lib.hid hl1
    have HM := Lib.hid hl2
    have HC := Lib.hid (Nat.le_trans hl3 hl4)
    clear hl1 hl2 hl3 hl4
    have ax1 : w1.cell? ⟨w.heap.size, 0, none⟩ = some (.int .i64 gap) := hb1.keep (by simp [go_sem])
    have ay1 : w1.cell? ⟨w.heap.size, 1, none⟩ = some (.int .i64 rule) := hb1.keep (by simp [go_sem])
    have bx1 : w1.cell? ⟨w.heap.size + 1, 0, none⟩ = some (.int .i64 id) := hb1.keep (by simp [go_sem])
    have by1 : w1.cell? ⟨w.heap.size + 1, 1, none⟩ = some (.slice A ts.length c) := hb1.keep (by simp [go_sem])
    have hx1 := hx0.trans hb1
    go_wp2_with fail
    refine (refScore_any gap rule id A c ts L lc ils _ (H.out.ext hx1) HI.out HC.out).mono ?_
    rintro e w2 ⟨rfl, hb2⟩
    go_wp2
    go_ret2
    exact ⟨ret_two' (by rw [ES.out, ← HM.out]) (by rw [ES.out, ← HM.out]), hx1.trans hb2⟩
  · have z' : (Adj.pickE rs it != 0) = true := by rw [bne_iff_ne]; exact z
    have ES : Hid (Adj.essayR gap rule id ts rs it = (0, Adj.pickE rs it)) := by show _ = _; unfold Adj.essayR; rw [if_neg z]
    clear z
    go_enter Try.func32, Try.ntmps32
    go_wp2_with fail
    refine (refPick_any B bc rs it _ (HR.out.ext hx0) HL.out).mono ?_
    rintro e w1 ⟨L, lc, ils, rfl, hl1, hl2, hl3, hl4, hb1⟩
    clear hl1 hl2 hl3 hl4
    go_wp2
    go_ret2
    exact ⟨ret_two' (by rw [ES.out]) (by rw [ES.out]), hx0.trans hb1⟩
theorem rating_open {H : Type} {enc : TypeId × Value → H} {W : World} (n : Nat) (cs : List Value) (y : DataW H × List MemPlace)
    (h : DataW.trod enc Try.prog W 0 (fun _ => true) true n 54 cs = some y) (hy : Light Try.prog 54 y.1) : ∃ r : Adj.Rt, cs = r.cells ∧ (r.m.In W ∧ r.m.xs.length * 8 ≤ 140737488355328) := by
  obtain ⟨hl, m, hf⟩ := fieldsW Try.underlying54 h hy
  obtain ⟨c0, c1, c2, rfl⟩ := list3 (hl.trans (by kernel_rfl))
  obtain ⟨z0, h0, l0⟩ := hf 0 _ rfl
  obtain ⟨z1, h1, l1⟩ := hf 1 _ rfl
  obtain ⟨z2, h2, l2⟩ := hf 2 _ rfl
  change DataW.trod enc Try.prog W 0 (fun _ => true) true m 3 (([c0, c1, c2].drop 0).take (Try.prog.cellsOf 3)) = some z0 at h0
  change DataW.trod enc Try.prog W 0 (fun _ => true) true m 3 (([c0, c1, c2].drop 1).take (Try.prog.cellsOf 3)) = some z1 at h1
  change DataW.trod enc Try.prog W 0 (fun _ => true) true m 25 (([c0, c1, c2].drop 2).take (Try.prog.cellsOf 25)) = some z2 at h2
  have k3 : Try.prog.cellsOf 3 = 1 := by kernel_rfl
  have k4 : Try.prog.cellsOf 25 = 1 := by kernel_rfl
  simp only [k3, k4, List.drop_zero, List.take_succ_cons, List.take_zero, List.drop_succ_cons] at h0 h1 h2
  obtain ⟨a, e0, -, wa⟩ := DataW.trod_int Try.underlying3 h0
  obtain ⟨b, e1, -, wb⟩ := DataW.trod_int Try.underlying3 h1
  obtain ⟨A, xs, c, e2, g1, g2, g3, g4, g5⟩ := open_slW (fun x : Int => [.int .i64 x]) In64 Try.underlying25 (by kernel_rfl) (k := 1) (by omega) (bs := 8) (by kernel_rfl) (fun n cs y hy _ => by
    obtain ⟨x, h1, _, h3⟩ := DataW.trod_int Try.underlying3 hy
    exact ⟨x, h1, in64_of_wf h3⟩) h2 l2
  simp at e0 e1 e2
  subst e0 e1 e2
  exact ⟨⟨a, b, ⟨A, c, xs⟩⟩, rfl, ⟨g5, g1, g2, g4⟩, by show xs.length * 8 ≤ _; omega⟩

theorem ratings_open {H : Type} {enc : TypeId × Value → H} {W : World} {base : Nat} {v : Value} {d : DataW H} {p : List MemPlace} (hv : Value.okWide Try.prog W .any base 47 v)
    (h : DataW.Trod enc Try.prog W 0 (fun _ => true) true 47 v d p) (hd : Light Try.prog 47 d) : ∃ (B : Option Addr) (bc : Nat) (rs : List Adj.Rt), v = .slice B rs.length bc ∧ SlR W B rs ∧ rs.length ≤ maxLen := by
  obtain ⟨A0, n0, c0, rfl⟩ := okWide_slice Try.underlying47 hv
  obtain ⟨fuel, hf⟩ := h
  obtain ⟨A, xs, c, h1, h2, h3, h4, h5, h6⟩ := open_slW Adj.Rt.cells (fun r => r.m.In W ∧ r.m.xs.length * 8 ≤ 140737488355328) Try.underlying47 (by kernel_rfl) (k := 3) (by omega) (bs := 40) (by kernel_rfl) rating_open hf hd
  simp [Value.cells] at h1
  obtain ⟨rfl, rfl, rfl⟩ := h1
  exact ⟨_, _, xs, rfl, ⟨h6, h5⟩, Nat.le_trans h2 h3⟩
end Go.Proofs.Ythjledbomonfpaa
