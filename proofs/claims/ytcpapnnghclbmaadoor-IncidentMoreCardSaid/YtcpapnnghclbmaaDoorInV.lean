/- IncidentMore: plain laws of one incident more, the table of its first statement. No conditions. -/
import Derived.Test.YtcpapnnghclbmaaDoorInT
import Derived.Test.YtcpapnnghclbmaaDoorInO
namespace Go.Proofs.YtcpapnnghclbmaaDoor
open Go.ChangeShapes Go.WideShapes Go.ChangeAt Go.RowKit

namespace In
theorem chk_more {l : List Inc} {x : Inc} (h : chk (l ++ [x]) = 0) : chk l = 0 ∧ vld x = 0 := by
  obtain ⟨h1, h2⟩ := chk_zero.1 h
  refine ⟨chk_zero.2 ⟨by simp at h1; omega, fun p hp => h2 p (by simp [hp])⟩, h2 x (by simp)⟩
theorem lsum_more (l : List Inc) (x : Inc) : lsum (l ++ [x]) = lsum l + if x.1 ≤ 3 then x.2.2.1 else 0 := by
  unfold lsum; rw [List.map_append, List.sum_append]; simp
theorem lsum_nn {l : List Inc} (h : ∀ p ∈ l, vld p = 0) : 0 ≤ lsum l := by
  suffices hh : ∀ r : List Inc, (∀ p ∈ r, vld p = 0) → 0 ≤ lsum r.reverse by
    have := hh l.reverse (fun p hp => h p (by simpa using hp))
    simpa using this
  intro r
  induction r with
  | nil => intro _; simp [lsum]
  | cons p r ih =>
    intro hr
    have h1 := ih (fun q hq => hr q (by simp [hq]))
    have h2 := vld_zero.1 (hr p (by simp))
    rw [List.reverse_cons, lsum_more]
    split <;> omega
theorem lost_more {l : List Inc} {x : Inc} (most : Int) (h : chk (l ++ [x]) = 0) : lostV l most ≤ lostV (l ++ [x]) most ∧ 0 ≤ lostV (l ++ [x]) most ∧ lostV (l ++ [x]) most ≤ max most 0 := by
  obtain ⟨h1, h2⟩ := chk_more h
  unfold lostV
  rw [if_neg (by rw [h1]; simp), if_neg (by rw [h]; simp), lsum_more]
  have h3 := vld_zero.1 h2
  have h4 := lsum_nn (chk_zero.1 h1).2
  split <;> omega
theorem worst_more {l : List Inc} {x : Inc} (h : chk (l ++ [x]) = 0) : worstV l ≤ worstV (l ++ [x]) ∧ x.2.2.2 ≤ worstV (l ++ [x]) := by
  obtain ⟨h1, h2⟩ := chk_more h
  unfold worstV
  rw [if_neg (by rw [h1]; simp), if_neg (by rw [h]; simp)]
  unfold wst
  rw [List.foldl_append]
  simp only [List.foldl_cons, List.foldl_nil]
  omega
theorem hp_nn2 (p : Inc) : 0 ≤ hp p := by unfold hp; split <;> split <;> omega
theorem hold_more {l : List Inc} {x : Inc} (h : chk (l ++ [x]) = 0) : (holdV l = true → holdV (l ++ [x]) = true) ∧ (x.1 = 5 → holdV (l ++ [x]) = true) := by
  obtain ⟨h1, h2⟩ := chk_more h
  have e : hpts (l ++ [x]) = hpts l + hp x := by unfold hpts; rw [List.map_append, List.sum_append]; simp
  have h3 := hp_nn2 x
  have h4 : 0 ≤ hpts l := by
    unfold hpts
    induction l with
    | nil => simp
    | cons p l ih =>
      have := hp_nn2 p
      have : 0 ≤ (l.map hp).sum := by
        clear ih h h1 e
        induction l with
        | nil => simp
        | cons q l ih2 => have := hp_nn2 q; simp; omega
      simp; omega
  unfold holdV
  rw [if_neg (by rw [h1]; simp), if_neg (by rw [h]; simp), e]
  refine ⟨fun g => ?_, fun g => ?_⟩
  · rw [decide_eq_true_eq] at g ⊢; omega
  · rw [decide_eq_true_eq]
    have : 2 ≤ hp x := by unfold hp; rw [if_pos (Or.inr g)]; split <;> omega
    omega
theorem cnt_more (l : List Inc) (x : Inc) (j : Nat) : cnt (l ++ [x]) j = cnt l j + if x.1 = (j : Int) + 1 then 1 else 0 := by
  unfold cnt; rw [List.map_append, List.sum_append]; simp
theorem cnt_bd2 (l : List Inc) (j : Nat) : 0 ≤ cnt l j ∧ cnt l j ≤ l.length := by
  unfold cnt
  induction l with
  | nil => simp
  | cons p l ih => simp only [List.map_cons, List.sum_cons, List.length_cons]; split <;> omega
theorem count_at {l : List Inc} (j : Nat) (hj : j < 6) : (countL l)[j]? = some (cnt l j) := by
  match j, hj with
  | 0, _ => rfl
  | 1, _ => rfl
  | 2, _ => rfl
  | 3, _ => rfl
  | 4, _ => rfl
  | 5, _ => rfl
  | j + 6, h => omega
end In

/-- What the first statement leaves, operation by operation. -/
def MR (bs : Nat) (x : In.Inc) (A : Option Addr) (n c : Nat) (ps : List In.Inc) : Nat → Option Value → World → Prop
  | 0, u, w => ∃ b, u = some (.slice (some ⟨b, 0, none⟩) 0 0) ∧ w.ownsRow bs 23 4 (.slice (some ⟨b, 0, none⟩) 0 0) 0 []
  | 1, u, _ => u = some (.slice A n c)
  | 2, u, w => ∃ v, u = some v ∧ w.ownsRow bs 23 4 v n (ps.map In.cells).flatten
  | 3, u, _ => u = some (.agg #[.int .i64 x.1, .int .i64 x.2.1, .int .i64 x.2.2.1, .int .i64 x.2.2.2])
  | 4, u, w => ∃ b, u = some (.slice (some ⟨b, 0, none⟩) 1 1) ∧ SlN w (some ⟨b, 0, none⟩) [x]
  | 5, u, w => ∃ v, u = some v ∧ w.ownsRow bs 23 4 v (n + 1) ((ps ++ [x]).map In.cells).flatten
  | _, u, w => ∃ v, u = some v ∧ w.ownsRow bs 23 4 v (n + 1) ((ps ++ [x]).map In.cells).flatten
def MC : Nat → Option Nat
  | 0 => some 2
  | 2 => some 5
  | 4 => some 5
  | _ => none
def MD : List Nat := [20, 21, 22, 23, 24, 25, 7]
def ME (nb : Nat) (A : Option Addr) (n c : Nat) (t : Array Value) : Prop := t.size = 167 ∧ t.getD 0 undef = .slice A n c ∧ t.getD 4 undef = .pointer (some ⟨nb, 0, none⟩)
theorem MR.ext {bs : Nat} {x : In.Inc} {A : Option Addr} {n c : Nat} {ps : List In.Inc} (j : Nat) (u : Option Value) (w w' : World) (he : Ext w w') (h : MR bs x A n c ps j u w) : MR bs x A n c ps j u w' := by
  match j, h with
  | 0, ⟨b, h1, h2⟩ => exact ⟨b, h1, own_ext h2 he⟩
  | 1, h => exact h
  | 2, ⟨v, h1, h2⟩ => exact ⟨v, h1, own_ext h2 he⟩
  | 3, h => exact h
  | 4, ⟨b, h1, h2⟩ => exact ⟨b, h1, h2.ext he⟩
  | 5, ⟨v, h1, h2⟩ => exact ⟨v, h1, own_ext h2 he⟩
  | j + 6, ⟨v, h1, h2⟩ => exact ⟨v, h1, own_ext h2 he⟩
/-- A block without cells is not that of a slice that has some. -/
theorem one_other {w w' : World} {bs b g : Nat} {x : In.Inc} (h : SlN w (some ⟨b, 0, none⟩) [x]) (ho : w.ownsRow bs 23 4 (.slice (some ⟨g, 0, none⟩) 0 0) 0 []) (hg : w.grownBy w' (some g)) : SlN w' (some ⟨b, 0, none⟩) [x] := by
  obtain ⟨b', off, hA, hb, hc⟩ : ∃ b' off, (some ⟨b, 0, none⟩ : Option Addr) = some ⟨b', off, none⟩ ∧ b' < w.heap.size ∧ ∀ i cs, ([x].map In.cells)[i]? = some cs → ∀ j v, cs[j]? = some v → w.cell? ⟨b', off + (i * 4 + j), none⟩ = some v := by
    rcases h with h | h
    · simp at h
    · exact h
  injection hA with hA
  injection hA with h1 h2
  subst h1 h2
  have hne : b ≠ g := fun e => by
    subst e
    have h0 := hc 0 (In.cells x) rfl 0 _ rfl
    rcases ho.2 with ⟨e, -⟩ | ⟨g, cap, cur, e, h2, h3, h4, h5, h6, h7⟩
    · cases e
    · injection e with e1 e2 e3
      injection e1 with e1
      injection e1 with e1
      subst e1 e3
      rw [cell_of_row w b 0 cur _ (0, 0) h3] at h0
      have : cur.size = 0 := by omega
      simp [this] at h0
  refine Or.inr ⟨b, 0, rfl, Nat.lt_of_lt_of_le hb hg.size, fun i cs hi j v hv => ?_⟩
  rw [World.cell?_of_block (hg.block b hb (fun e => hne (by injection e)))]
  exact hc i cs hi j v hv
def MCut (bs : Nat) (x : In.Inc) (n : Nat) (ps : List In.Inc) (W1 : World) (p : Value) (wx : World) : Prop :=
  ∃ v, p = v ∧ wx.ownsRow bs 23 4 v (n + 1) ((ps ++ [x]).map In.cells).flatten ∧ Ext W1 wx
set_option maxRecDepth 100000 in
theorem incs_openW {H : Type} {enc : TypeId × Value → H} {W : World} {base : Nat} {v : Value} {d : DataW H} {p : List MemPlace} (hv : Value.okWide Tryd.prog W .any base 24 v)
    (h : DataW.Trod enc Tryd.prog W 0 (fun _ => true) true 24 v d p) (hd : Light Tryd.prog 24 d) : ∃ (L : Option Addr) (lc : Nat) (ps : List In.Inc), v = .slice L ps.length lc ∧ (⟨L, lc, ps⟩ : NL).In W ∧ lc * 32 ≤ 140737488351232 := by
  obtain ⟨A0, n0, c0, rfl⟩ := okWide_slice Tryd.underlying24 hv
  obtain ⟨fuel, hf⟩ := h
  obtain ⟨L, ps, lc, e, h2, h3, h6, h4, h5⟩ := open_slW In.cells In.ok64 Tryd.underlying24 (by kernel_rfl) (k := 4) (by omega) (by kernel_rfl) (bs := 32) (fun n cs y hy _ => inc_open n cs y hy) hf hd
  simp [Value.cells] at e
  obtain ⟨rfl, rfl, rfl⟩ := e
  exact ⟨_, _, ps, rfl, ⟨h5, h2, h3, h4⟩, h6⟩
end Go.Proofs.YtcpapnnghclbmaaDoor
