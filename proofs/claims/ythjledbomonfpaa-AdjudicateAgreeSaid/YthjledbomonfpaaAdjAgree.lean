/- AdjudicateAgree: two ratings that agree are decided without a third one, and every decision that is not taken trait by trait lies between twice the lowest and twice the highest total, for every input. No conditions. -/
import Derived.Test.YthjledbomonfpaaAdjI
import Derived.Test.YthjledbomonfpaaAdjO
namespace Go.Proofs.Ythjledbomonfpaa
open Go.ChangeShapes Go.WideShapes Go.ChangeAt Go.RowKit

namespace Adj
def loF : List Int → Int
  | [] => 0
  | x :: r => r.foldl min x
def hiF : List Int → Int
  | [] => 0
  | x :: r => r.foldl max x
theorem loF_snoc {l : List Int} (x : Int) (h : l ≠ []) : loF (l ++ [x]) = min (loF l) x := by
  cases l with
  | nil => exact absurd rfl h
  | cons a r => simp [loF, List.foldl_append]
theorem hiF_snoc {l : List Int} (x : Int) (h : l ≠ []) : hiF (l ++ [x]) = max (hiF l) x := by
  cases l with
  | nil => exact absurd rfl h
  | cons a r => simp [hiF, List.foldl_append]
def totsL (ts : List Rub.Trait) (ls : List IL) : List Int := ls.map fun x => Rub.tot (ts.zip x.xs)
theorem foldl_bd {n : Int} : ∀ (l : List Int) (a : Int), 0 ≤ a → a ≤ n → (∀ x ∈ l, 0 ≤ x ∧ x ≤ n) → 0 ≤ l.foldl min a ∧ l.foldl min a ≤ n ∧ 0 ≤ l.foldl max a ∧ l.foldl max a ≤ n
  | [], a, h1, h2, _ => ⟨h1, h2, h1, h2⟩
  | x :: r, a, h1, h2, h => by
    have hx := h x (by simp)
    have p := foldl_bd r (min a x) (by omega) (by omega) (fun y hy => h y (by simp [hy]))
    have q := foldl_bd r (max a x) (by omega) (by omega) (fun y hy => h y (by simp [hy]))
    exact ⟨p.1, p.2.1, q.2.2.1, q.2.2.2⟩
theorem lohi_bd {n : Int} (hn : 0 ≤ n) (l : List Int) (h : ∀ x ∈ l, 0 ≤ x ∧ x ≤ n) : 0 ≤ loF l ∧ loF l ≤ n ∧ 0 ≤ hiF l ∧ hiF l ≤ n := by
  cases l with
  | nil => exact ⟨Int.le_refl _, hn, Int.le_refl _, hn⟩
  | cons a r =>
    have ha := h a (by simp)
    exact foldl_bd r a ha.1 ha.2 (fun y hy => h y (by simp [hy]))
theorem score_bounds {gap rule id : Int} {ts : List Rub.Trait} {ls : List IL} (hr : rule = 1 ∨ rule = 2 ∨ rule = 3) (hc : ∀ x ∈ ls, Rub.checkE id ts x.xs = 0) (hl : ls.length = 2 ∨ ls.length = 3) (h0 : (score gap rule ts (ls.map IL.xs)).2 = 0) :
    0 ≤ (score gap rule ts (ls.map IL.xs)).1 ∧ (score gap rule ts (ls.map IL.xs)).1 ≤ 2 * Rub.most ts ∧ ((ls.length = 3 ∧ rule = 3) ∨ (2 * loF (totsL ts ls) ≤ (score gap rule ts (ls.map IL.xs)).1 ∧ (score gap rule ts (ls.map IL.xs)).1 ≤ 2 * hiF (totsL ts ls))) := by
  rcases hl with hl | hl
  · obtain ⟨x, y, -, -, rfl⟩ := two_of hl
    have hx := tot_bd (hc x (by simp))
    have hy := tot_bd (hc y (by simp))
    simp only [List.map_cons, List.map_nil, score, totsL, loF, hiF, List.foldl_cons, List.foldl_nil]
    exact ⟨by omega, by omega, Or.inr ⟨by omega, by omega⟩⟩
  · obtain ⟨x, y, z, -, -, -, rfl⟩ := three_of hl
    have hx := tot_bd (hc x (by simp))
    have hy := tot_bd (hc y (by simp))
    have hz := tot_bd (hc z (by simp))
    have hm := tot_bd (check_mids (hc x (by simp)) (hc y (by simp)) (hc z (by simp)))
    simp only [List.map_cons, List.map_nil, score, totsL, loF, hiF, List.foldl_cons, List.foldl_nil] at h0 ⊢
    by_cases hd : Rub.dist (x.xs.zip y.xs) 0 ≤ gap
    · rw [if_pos hd] at h0; cases h0
    · rw [if_neg hd]
      rcases hr with rfl | rfl | rfl
      · rw [if_pos rfl]
        exact ⟨by simp only; omega, by simp only; omega, Or.inr ⟨by simp only; omega, by simp only; omega⟩⟩
      · rw [if_neg (by decide), if_pos rfl]
        have hn : nearer (Rub.tot (ts.zip z.xs)) (Rub.tot (ts.zip x.xs)) (Rub.tot (ts.zip y.xs)) = Rub.tot (ts.zip x.xs) ∨ nearer (Rub.tot (ts.zip z.xs)) (Rub.tot (ts.zip x.xs)) (Rub.tot (ts.zip y.xs)) = Rub.tot (ts.zip y.xs) := by
          unfold nearer
          split
          · exact Or.inr rfl
          · exact Or.inl rfl
        simp only
        exact ⟨by omega, by omega, Or.inr ⟨by omega, by omega⟩⟩
      · rw [if_neg (by decide), if_neg (by decide)]
        exact ⟨by simp only; omega, by simp only; omega, Or.inl ⟨rfl, rfl⟩⟩
theorem totsL_snoc {ts : List Rub.Trait} {ls : List IL} {k : Nat} {x : IL} (h : ls[k]? = some x) : totsL ts (ls.take (k + 1)) = totsL ts (ls.take k) ++ [Rub.tot (ts.zip x.xs)] := by
  unfold totsL; rw [Rub.take_snoc h, List.map_append]; rfl
theorem score_two {gap rule : Int} {ts : List Rub.Trait} {ls : List IL} {x y : IL} (hl : ls.length = 2) (hx : ls[0]? = some x) (hy : ls[1]? = some y) : (Rub.dist (x.xs.zip y.xs) 0 ≤ gap → (score gap rule ts (ls.map IL.xs)).2 = 0) ∧ need gap (ls.map IL.xs) = if Rub.dist (x.xs.zip y.xs) 0 ≤ gap then 0 else 1 := by
  obtain ⟨x', y', hx', hy', rfl⟩ := two_of hl
  simp at hx hy
  subst hx hy
  exact ⟨fun _ => rfl, rfl⟩
theorem score_three {gap rule : Int} {ts : List Rub.Trait} {ls : List IL} {x y : IL} (hl : ls.length = 3) (hx : ls[0]? = some x) (hy : ls[1]? = some y) : (score gap rule ts (ls.map IL.xs)).2 = (if Rub.dist (x.xs.zip y.xs) 0 ≤ gap then 21 else 0) ∧ (Rub.dist (x.xs.zip y.xs) 0 ≤ gap → (score gap rule ts (ls.map IL.xs)).1 = 0) := by
  obtain ⟨x', y', z', hx', hy', hz', rfl⟩ := three_of hl
  simp at hx hy
  subst hx hy
  simp only [List.map_cons, List.map_nil, score]
  by_cases hd : Rub.dist (x'.xs.zip y'.xs) 0 ≤ gap
  · rw [if_pos hd, if_pos hd]; exact ⟨rfl, fun _ => rfl⟩
  · rw [if_neg hd, if_neg hd]
    refine ⟨?_, fun h => absurd h hd⟩
    split
    · rfl
    · split <;> rfl
end Adj

set_option maxRecDepth 100000 in
set_option maxHeartbeats 6400000 in
theorem adjudicateAgree_walk (gap rule : Int) (id : Int) (A : Option Addr) (c : Nat) (ts : List Rub.Trait) (L : Option Addr) (d : Nat) (ls : List IL) (w : World) (h : RubIn w id A c ts) (hL : SlL w L ls) (hd : ls.length ≤ maxLen) :
    Calls Try.prog 10 #[.agg #[.int .i64 gap, .int .i64 rule], .agg #[.int .i64 id, .slice A ts.length c], .slice L ls.length d] w fun e w' => e = .returned (.bool true) ∧ Ext w w' := by
  have H := Lib.hid h
  have HL := Lib.hid hL
  have HD := Lib.hid hd
  unfold maxLen at hd
  clear h hL
  have hx0 : Ext w ((w.alloc (.cells #[.int .i64 gap, .int .i64 rule] 38)).alloc (.cells #[.int .i64 id, .slice A ts.length c] 24)) := ((Ext.refl _).alloc _).alloc _
  by_cases z : Adj.chkE gap rule id ts (ls.map IL.xs) = 0
  · obtain ⟨y0, y1, y2, y3⟩ := Adj.chk_zero z
    rw [List.length_map] at y2
    obtain ⟨gp0, gp1, hrule⟩ := Adj.adj_zero y0
    have hcall : ∀ x ∈ ls, Rub.checkE id ts x.xs = 0 := fun x hx => Rub.all_zero y3 x.xs (List.mem_map.2 ⟨x, hx, rfl⟩)
    have HCALL := Lib.hid hcall
    have EC := Lib.hid z
    have EN := Lib.hid (Adj.need_yes z)
    have l3 : (ls.length : Int) ≤ 3 := by omega
    by_cases hl : ls.length < 2
    · have hl' : (ls.length : Int) < 2 := by omega
      have hn : Adj.need gap (ls.map IL.xs) = 2 ∨ Adj.need gap (ls.map IL.xs) = 1 := by
        have : ls.length = 0 ∨ ls.length = 1 := by omega
        rcases this with g | g
        · exact Or.inl (need_len0 g)
        · exact Or.inr (need_len1 g)
      have ES := Lib.hid (Adj.score_gap (rule := rule) z (by omega))
      clear z y0 y1 y3 hcall hrule
      rcases hn with hn | hn
      all_goals
        have HN := Lib.hid hn
        clear hn
        go_enter Try.func10, Try.ntmps10
        go_wp2_with fail
        refine (need_any gap rule id A c ts L d ls _ (H.out.ext hx0) (HL.out.ext hx0) HD.out).mono ?_
        rintro e w1 ⟨rfl, hb1⟩
        have ax1 : w1.cell? ⟨w.heap.size, 0, none⟩ = some (.int .i64 gap) := hb1.keep (by simp [go_sem])
        have ay1 : w1.cell? ⟨w.heap.size, 1, none⟩ = some (.int .i64 rule) := hb1.keep (by simp [go_sem])
        have bx1 : w1.cell? ⟨w.heap.size + 1, 0, none⟩ = some (.int .i64 id) := hb1.keep (by simp [go_sem])
        have by1 : w1.cell? ⟨w.heap.size + 1, 1, none⟩ = some (.slice A ts.length c) := hb1.keep (by simp [go_sem])
        have hx1 := hx0.trans hb1
        rw [EN.out, HN.out, EC.out]
        go_wp2_with fail
        refine (score_any gap rule id A c ts L d ls _ (H.out.ext hx1) (HL.out.ext hx1) HD.out).mono ?_
        rintro e w2 ⟨rfl, hb2⟩
        have ax2 : w2.cell? ⟨w.heap.size, 0, none⟩ = some (.int .i64 gap) := hb2.keep ax1
        have ay2 : w2.cell? ⟨w.heap.size, 1, none⟩ = some (.int .i64 rule) := hb2.keep ay1
        have bx2 : w2.cell? ⟨w.heap.size + 1, 0, none⟩ = some (.int .i64 id) := hb2.keep bx1
        have by2 : w2.cell? ⟨w.heap.size + 1, 1, none⟩ = some (.slice A ts.length c) := hb2.keep by1
        have hx2 := hx1.trans hb2
        clear ax1 ay1 bx1 by1
        rw [ES.out]
        clear ax2 ay2 bx2 by2
        go_wp2_with fail
        refine (awake_any _).mono ?_
        rintro e wz ⟨rfl, hbz⟩
        go_wp2_with fail
        go_ret
        exact ⟨ret_bool (by simp), hx2.trans hbz⟩
    · have hl' : 2 ≤ (ls.length : Int) := by omega
      obtain ⟨x, hx⟩ : ∃ x, ls[0]? = some x := ⟨ls[0], List.getElem?_eq_getElem (by omega)⟩
      obtain ⟨y, hy⟩ : ∃ y, ls[1]? = some y := ⟨ls[1], List.getElem?_eq_getElem (by omega)⟩
      have hcx := hcall x (List.mem_of_getElem? hx)
      have hcy := hcall y (List.mem_of_getElem? hy)
      have AG : Hid (Adj.agreeE gap rule id ts x.xs y.xs = 0 ∧ Adj.agreeB gap rule id ts x.xs y.xs = decide (Rub.dist (x.xs.zip y.xs) 0 ≤ gap)) := by
        have e : Adj.agreeE gap rule id ts x.xs y.xs = 0 := by unfold Adj.agreeE; rw [if_pos y0]; simp [Rub.checkAllE, hcx, hcy]
        exact Lib.hid ⟨e, by unfold Adj.agreeB; rw [if_pos e]⟩
      have l23 : ls.length = 2 ∨ ls.length = 3 := by omega
      -- what the score is
      have hfacts : (Adj.needV gap rule id ts (ls.map IL.xs) = 1 ∧ Adj.scoreR gap rule id ts (ls.map IL.xs) = (0, 22) ∧ ls.length = 2 ∧ ¬ Rub.dist (x.xs.zip y.xs) 0 ≤ gap) ∨ (Adj.needV gap rule id ts (ls.map IL.xs) = 0 ∧ Adj.scoreR gap rule id ts (ls.map IL.xs) = (0, 21) ∧ ls.length = 3 ∧ Rub.dist (x.xs.zip y.xs) 0 ≤ gap) ∨
          (Adj.needV gap rule id ts (ls.map IL.xs) = 0 ∧ (Adj.scoreR gap rule id ts (ls.map IL.xs)).2 = 0 ∧ Adj.scoreR gap rule id ts (ls.map IL.xs) = Adj.score gap rule ts (ls.map IL.xs) ∧ ((ls.length = 2 ∧ Rub.dist (x.xs.zip y.xs) 0 ≤ gap) ∨ (ls.length = 3 ∧ ¬ Rub.dist (x.xs.zip y.xs) 0 ≤ gap))) := by
        rcases l23 with g | g
        · obtain ⟨s1, s2⟩ := Adj.score_two (gap := gap) (rule := rule) (ts := ts) g hx hy
          by_cases hdd : Rub.dist (x.xs.zip y.xs) 0 ≤ gap
          · rw [if_pos hdd] at s2
            have e := Adj.score_ok (rule := rule) z (by rw [s2]; omega)
            exact Or.inr (Or.inr ⟨by rw [EN.out, s2], by rw [e]; exact s1 hdd, e, Or.inl ⟨g, hdd⟩⟩)
          · rw [if_neg hdd] at s2
            exact Or.inl ⟨by rw [EN.out, s2], Adj.score_gap z (by rw [s2]; omega), g, hdd⟩
        · obtain ⟨s1, s2⟩ := Adj.score_three (gap := gap) (rule := rule) (ts := ts) g hx hy
          have n3 := need_len3 (gap := gap) g
          have e := Adj.score_ok (rule := rule) z (by rw [n3]; omega)
          by_cases hdd : Rub.dist (x.xs.zip y.xs) 0 ≤ gap
          · rw [if_pos hdd] at s1
            exact Or.inr (Or.inl ⟨by rw [EN.out, n3], by rw [e]; exact Prod.ext (s2 hdd) s1, g, hdd⟩)
          · rw [if_neg hdd] at s1
            exact Or.inr (Or.inr ⟨by rw [EN.out, n3], by rw [e]; exact s1, e, Or.inr ⟨g, hdd⟩⟩)
      obtain ⟨b, off, rfl, hb, c0_0, hin0⟩ := HL.out.at_ hx
      obtain ⟨b', off', hA', -, c1_0, hin1⟩ := HL.out.at_ hy
      injection hA' with hA'
      injection hA' with hA1 hA2
      subst hA1 hA2
      rw [Nat.add_zero] at c0_0
      have HI0 := Lib.hid hin0
      have HI1 := Lib.hid hin1
      have u0 : 0 < (ls.length : Int) := by omega
      have u1 : 1 < (ls.length : Int) := by omega
      have u0n : 0 < ls.length := by omega
      have u1n : 1 < ls.length := by omega
      have C0 := Lib.hid c0_0
      have C1 := Lib.hid c1_0
      clear hx hy c0_0 c1_0 hin0 hin1 hcx hcy
      rcases hfacts with ⟨f1, f2, f3, f4⟩ | ⟨f1, f2, f3, f4⟩ | ⟨f1, f2, f3, f4⟩
      · have e2 : ((ls.length : Int) == 2) = true := by rw [beq_iff_eq]; omega
        have e3 : ((ls.length : Int) == 3) = false := by rw [beq_eq_false_iff_ne]; omega
        have AB : Hid (Adj.agreeB gap rule id ts x.xs y.xs = false) := Lib.hid (by rw [AG.out.2]; simpa using f4)
        have F1 := Lib.hid f1
        have F2 := Lib.hid f2
        clear z y0 y1 y3 hcall hrule l23 f1 f2 f3 f4
        go_enter Try.func10, Try.ntmps10
        go_wp2_with fail
        refine (need_any gap rule id A c ts (some ⟨b, off, none⟩) d ls _ (H.out.ext hx0) (HL.out.ext hx0) HD.out).mono ?_
        rintro e w1 ⟨rfl, hb1⟩
        have ax1 : w1.cell? ⟨w.heap.size, 0, none⟩ = some (.int .i64 gap) := hb1.keep (by simp [go_sem])
        have ay1 : w1.cell? ⟨w.heap.size, 1, none⟩ = some (.int .i64 rule) := hb1.keep (by simp [go_sem])
        have bx1 : w1.cell? ⟨w.heap.size + 1, 0, none⟩ = some (.int .i64 id) := hb1.keep (by simp [go_sem])
        have by1 : w1.cell? ⟨w.heap.size + 1, 1, none⟩ = some (.slice A ts.length c) := hb1.keep (by simp [go_sem])
        have hx1 := hx0.trans hb1
        rw [F1.out, EC.out]
        go_wp2_with fail
        refine (score_any gap rule id A c ts (some ⟨b, off, none⟩) d ls _ (H.out.ext hx1) (HL.out.ext hx1) HD.out).mono ?_
        rintro e w2 ⟨rfl, hb2⟩
        have ax2 : w2.cell? ⟨w.heap.size, 0, none⟩ = some (.int .i64 gap) := hb2.keep ax1
        have ay2 : w2.cell? ⟨w.heap.size, 1, none⟩ = some (.int .i64 rule) := hb2.keep ay1
        have bx2 : w2.cell? ⟨w.heap.size + 1, 0, none⟩ = some (.int .i64 id) := hb2.keep bx1
        have by2 : w2.cell? ⟨w.heap.size + 1, 1, none⟩ = some (.slice A ts.length c) := hb2.keep by1
        have hx2 := hx1.trans hb2
        clear ax1 ay1 bx1 by1
        rw [F2.out]
        have c0_2 := hx2.keep C0.out
        have c1_2 := hx2.keep C1.out
        go_wp2_with fail
        go_region_held3 (fun w' => w'.cell? ⟨w.heap.size, 0, none⟩ = some (.int .i64 gap) ∧ w'.cell? ⟨w.heap.size, 1, none⟩ = some (.int .i64 rule) ∧ w'.cell? ⟨w.heap.size + 1, 0, none⟩ = some (.int .i64 id) ∧ w'.cell? ⟨w.heap.size + 1, 1, none⟩ = some (.slice A ts.length c) ∧ w'.cell? ⟨b, off, none⟩ = some (.slice x.A x.xs.length x.c) ∧ w'.cell? ⟨b, off + 1, none⟩ = some (.slice y.A y.xs.length y.c))
          (first
            | (exact ⟨ax2, ay2, bx2, by2, c0_2, c1_2⟩)
            | (exact ⟨hb3.keep ax2, hb3.keep ay2, hb3.keep bx2, hb3.keep by2, hb3.keep c0_2, hb3.keep c1_2⟩))
          (first
            | (go_at_call 27; refine (agree_any gap rule id A c ts x.A x.c x.xs y.A y.c y.xs _ (H.out.ext (by exact hx2.drew)) (HI0.out.ext (by exact hx2.drew)) (HI1.out.ext (by exact hx2.drew))).mono ?_; rintro e w3 ⟨rfl, hb3⟩))
        replace hb3 := hb3.undrew
        have hx3 := hx2.trans hb3
        rw [AG.out.1, AB.out]
        have ax3 := hb3.keep ax2
        have ay3 := hb3.keep ay2
        have bx3 := hb3.keep bx2
        have by3 := hb3.keep by2
        clear ax2 ay2 bx2 by2 c0_2 c1_2
        clear ax3 ay3 bx3 by3
        go_wp2_with fail
        refine (awake_any _).mono ?_
        rintro e wz ⟨rfl, hbz⟩
        go_wp2_with fail
        go_ret
        exact ⟨ret_bool (by simp), hx3.trans hbz⟩
      · have e2 : ((ls.length : Int) == 2) = false := by rw [beq_eq_false_iff_ne]; omega
        have e3 : ((ls.length : Int) == 3) = true := by rw [beq_iff_eq]; omega
        have AB : Hid (Adj.agreeB gap rule id ts x.xs y.xs = true) := Lib.hid (by rw [AG.out.2]; simpa using f4)
        have F1 := Lib.hid f1
        have F2 := Lib.hid f2
        clear z y0 y1 y3 hcall hrule l23 f1 f2 f3 f4
        go_enter Try.func10, Try.ntmps10
        go_wp2_with fail
        refine (need_any gap rule id A c ts (some ⟨b, off, none⟩) d ls _ (H.out.ext hx0) (HL.out.ext hx0) HD.out).mono ?_
        rintro e w1 ⟨rfl, hb1⟩
        have ax1 : w1.cell? ⟨w.heap.size, 0, none⟩ = some (.int .i64 gap) := hb1.keep (by simp [go_sem])
        have ay1 : w1.cell? ⟨w.heap.size, 1, none⟩ = some (.int .i64 rule) := hb1.keep (by simp [go_sem])
        have bx1 : w1.cell? ⟨w.heap.size + 1, 0, none⟩ = some (.int .i64 id) := hb1.keep (by simp [go_sem])
        have by1 : w1.cell? ⟨w.heap.size + 1, 1, none⟩ = some (.slice A ts.length c) := hb1.keep (by simp [go_sem])
        have hx1 := hx0.trans hb1
        rw [F1.out, EC.out]
        go_wp2_with fail
        refine (score_any gap rule id A c ts (some ⟨b, off, none⟩) d ls _ (H.out.ext hx1) (HL.out.ext hx1) HD.out).mono ?_
        rintro e w2 ⟨rfl, hb2⟩
        have ax2 : w2.cell? ⟨w.heap.size, 0, none⟩ = some (.int .i64 gap) := hb2.keep ax1
        have ay2 : w2.cell? ⟨w.heap.size, 1, none⟩ = some (.int .i64 rule) := hb2.keep ay1
        have bx2 : w2.cell? ⟨w.heap.size + 1, 0, none⟩ = some (.int .i64 id) := hb2.keep bx1
        have by2 : w2.cell? ⟨w.heap.size + 1, 1, none⟩ = some (.slice A ts.length c) := hb2.keep by1
        have hx2 := hx1.trans hb2
        clear ax1 ay1 bx1 by1
        rw [F2.out]
        have c0_2 := hx2.keep C0.out
        have c1_2 := hx2.keep C1.out
        go_wp2_with fail
        go_region_held3 (fun w' => w'.cell? ⟨w.heap.size, 0, none⟩ = some (.int .i64 gap) ∧ w'.cell? ⟨w.heap.size, 1, none⟩ = some (.int .i64 rule) ∧ w'.cell? ⟨w.heap.size + 1, 0, none⟩ = some (.int .i64 id) ∧ w'.cell? ⟨w.heap.size + 1, 1, none⟩ = some (.slice A ts.length c) ∧ w'.cell? ⟨b, off, none⟩ = some (.slice x.A x.xs.length x.c) ∧ w'.cell? ⟨b, off + 1, none⟩ = some (.slice y.A y.xs.length y.c))
          (first
            | (exact ⟨ax2, ay2, bx2, by2, c0_2, c1_2⟩)
            | (exact ⟨hb3.keep ax2, hb3.keep ay2, hb3.keep bx2, hb3.keep by2, hb3.keep c0_2, hb3.keep c1_2⟩))
          (first
            | (go_at_call 27; refine (agree_any gap rule id A c ts x.A x.c x.xs y.A y.c y.xs _ (H.out.ext (by exact hx2.drew)) (HI0.out.ext (by exact hx2.drew)) (HI1.out.ext (by exact hx2.drew))).mono ?_; rintro e w3 ⟨rfl, hb3⟩))
        replace hb3 := hb3.undrew
        have hx3 := hx2.trans hb3
        rw [AG.out.1, AB.out]
        have ax3 := hb3.keep ax2
        have ay3 := hb3.keep ay2
        have bx3 := hb3.keep bx2
        have by3 := hb3.keep by2
        clear ax2 ay2 bx2 by2 c0_2 c1_2
        clear ax3 ay3 bx3 by3
        go_wp2_with fail
        refine (awake_any _).mono ?_
        rintro e wz ⟨rfl, hbz⟩
        go_wp2_with fail
        go_ret
        exact ⟨ret_bool (by simp), hx3.trans hbz⟩
      · obtain ⟨b1, b2, b3⟩ := Adj.score_bounds (gap := gap) (rule := rule) hrule hcall l23 (by rw [← f3]; exact f2)
        rw [← f3] at b1 b2 b3
        have F1 := Lib.hid f1
        have F2 := Lib.hid f2
        have hV := Lib.hid y1
        have mb : 0 ≤ Rub.most ts ∧ Rub.most ts ≤ 600 := by
          obtain ⟨q1, q2, q3⟩ := Adj.tot_bd (HCALL.out ls[0] (List.getElem_mem _))
          omega
        obtain ⟨mb1, mb2⟩ := mb
        have LB : Hid (∀ k, 0 ≤ Adj.loF (Adj.totsL ts (ls.take k)) ∧ Adj.loF (Adj.totsL ts (ls.take k)) ≤ 600 ∧ 0 ≤ Adj.hiF (Adj.totsL ts (ls.take k)) ∧ Adj.hiF (Adj.totsL ts (ls.take k)) ≤ 600) := Lib.hid (fun k => Adj.lohi_bd (by omega) _ (fun v hv => by
          unfold Adj.totsL at hv
          obtain ⟨q, hq, rfl⟩ := List.mem_map.1 hv
          have := Adj.tot_bd (HCALL.out q (List.mem_of_mem_take hq))
          omega))
        have MV : Hid (Rub.mostV id ts = Rub.most ts) := Lib.hid (by unfold Rub.mostV; rw [if_pos y1])
        generalize hsv : (Adj.scoreR gap rule id ts (ls.map IL.xs)).1 = sv at *
        have HSV := Lib.hid hsv
        have B3 := Lib.hid b3
        generalize hmo : Rub.most ts = mo at *
        clear z y0 y1 y3 hcall hrule l23 f1 f2 f3 hsv hmo b3
        rcases f4 with ⟨f5, f6⟩ | ⟨f5, f6⟩
        · have e2 : ((ls.length : Int) == 2) = true := by rw [beq_iff_eq]; omega
          have e3 : ((ls.length : Int) == 3) = false := by rw [beq_eq_false_iff_ne]; omega
          have AB : Hid (Adj.agreeB gap rule id ts x.xs y.xs = true) := Lib.hid (by rw [AG.out.2]; simpa using f6)
          have B4 : Hid (2 * Adj.loF (Adj.totsL ts ls) ≤ sv ∧ sv ≤ 2 * Adj.hiF (Adj.totsL ts ls)) := Lib.hid (by
            rcases B3.out with ⟨g, _⟩ | g
            · omega
            · exact g)
          clear f5 f6
          go_enter Try.func10, Try.ntmps10
          go_wp2_with fail
          refine (need_any gap rule id A c ts (some ⟨b, off, none⟩) d ls _ (H.out.ext hx0) (HL.out.ext hx0) HD.out).mono ?_
          rintro e w1 ⟨rfl, hb1⟩
          have ax1 : w1.cell? ⟨w.heap.size, 0, none⟩ = some (.int .i64 gap) := hb1.keep (by simp [go_sem])
          have ay1 : w1.cell? ⟨w.heap.size, 1, none⟩ = some (.int .i64 rule) := hb1.keep (by simp [go_sem])
          have bx1 : w1.cell? ⟨w.heap.size + 1, 0, none⟩ = some (.int .i64 id) := hb1.keep (by simp [go_sem])
          have by1 : w1.cell? ⟨w.heap.size + 1, 1, none⟩ = some (.slice A ts.length c) := hb1.keep (by simp [go_sem])
          have hx1 := hx0.trans hb1
          rw [F1.out, EC.out]
          go_wp2_with fail
          refine (score_any gap rule id A c ts (some ⟨b, off, none⟩) d ls _ (H.out.ext hx1) (HL.out.ext hx1) HD.out).mono ?_
          rintro e w2 ⟨rfl, hb2⟩
          have ax2 : w2.cell? ⟨w.heap.size, 0, none⟩ = some (.int .i64 gap) := hb2.keep ax1
          have ay2 : w2.cell? ⟨w.heap.size, 1, none⟩ = some (.int .i64 rule) := hb2.keep ay1
          have bx2 : w2.cell? ⟨w.heap.size + 1, 0, none⟩ = some (.int .i64 id) := hb2.keep bx1
          have by2 : w2.cell? ⟨w.heap.size + 1, 1, none⟩ = some (.slice A ts.length c) := hb2.keep by1
          have hx2 := hx1.trans hb2
          clear ax1 ay1 bx1 by1
          rw [HSV.out, F2.out]
          have c0_2 := hx2.keep C0.out
          have c1_2 := hx2.keep C1.out
          go_wp2_with fail
          go_region_held3 (fun w' => w'.cell? ⟨w.heap.size, 0, none⟩ = some (.int .i64 gap) ∧ w'.cell? ⟨w.heap.size, 1, none⟩ = some (.int .i64 rule) ∧ w'.cell? ⟨w.heap.size + 1, 0, none⟩ = some (.int .i64 id) ∧ w'.cell? ⟨w.heap.size + 1, 1, none⟩ = some (.slice A ts.length c) ∧ w'.cell? ⟨b, off, none⟩ = some (.slice x.A x.xs.length x.c) ∧ w'.cell? ⟨b, off + 1, none⟩ = some (.slice y.A y.xs.length y.c))
            (first
              | (exact ⟨ax2, ay2, bx2, by2, c0_2, c1_2⟩)
              | (exact ⟨hb3.keep ax2, hb3.keep ay2, hb3.keep bx2, hb3.keep by2, hb3.keep c0_2, hb3.keep c1_2⟩))
            (first
              | (go_at_call 27; refine (agree_any gap rule id A c ts x.A x.c x.xs y.A y.c y.xs _ (H.out.ext (by exact hx2.drew)) (HI0.out.ext (by exact hx2.drew)) (HI1.out.ext (by exact hx2.drew))).mono ?_; rintro e w3 ⟨rfl, hb3⟩))
          replace hb3 := hb3.undrew
          have hx3 := hx2.trans hb3
          rw [AG.out.1, AB.out]
          have ax3 := hb3.keep ax2
          have ay3 := hb3.keep ay2
          have bx3 := hb3.keep bx2
          have by3 := hb3.keep by2
          clear ax2 ay2 bx2 by2 c0_2 c1_2
          have AY3 := Lib.hid ay3
          have BX3 := Lib.hid bx3
          have BY3 := Lib.hid by3
          clear ax3 ay3 bx3 by3
          go_wp2_with fail
          go_loopw [118, 13, 14, 15] (fun i lo hi er wr => ∃ k : Nat, k ≤ ls.length ∧ i = .int .i64 k ∧ lo = .int .i64 (Adj.loF (Adj.totsL ts (ls.take k))) ∧ hi = .int .i64 (Adj.hiF (Adj.totsL ts (ls.take k))) ∧ er = .int .i64 0 ∧ Ext w3 wr) (fun i _ _ _ _ => ls.length - (intOf i).toNat)
          case atStart => exact ⟨0, by omega, rfl, rfl, rfl, rfl, Ext.refl _⟩
          case round =>
            obtain ⟨k, hk, rfl, rfl, rfl, rfl, he⟩ := hrel
            obtain ⟨lb1, lb2, lb3, lb4⟩ := LB.out k
            have bx4 := he.keep BX3.out
            have by4 := he.keep BY3.out
            by_cases hlt : k < ls.length
            · obtain ⟨q, hq⟩ : ∃ q, ls[k]? = some q := ⟨ls[k], List.getElem?_eq_getElem hlt⟩
              obtain ⟨b', off', hA', hb', cq, hqin⟩ := ((HL.out.ext hx3).ext he).at_ hq
              injection hA' with hA'
              injection hA' with hA1 hA2
              subst hA1 hA2
              have hqc := HCALL.out q (List.mem_of_getElem? hq)
              have QC := Lib.hid hqc
              have QT : Hid (Rub.totV id ts q.xs = Rub.tot (ts.zip q.xs)) := Lib.hid (by unfold Rub.totV; rw [if_pos hqc])
              have QB := Adj.tot_bd hqc
              obtain ⟨qb1, qb2, -⟩ := QB
              have HSN := Lib.hid (Adj.totsL_snoc (ts := ts) hq)
              have HQI := Lib.hid hqin
              generalize Rub.tot (ts.zip q.xs) = tq at *
              clear hq hqc hqin
              by_cases k0 : k = 0
              · have k0' : ((k : Int) == 0) = true := by rw [beq_iff_eq]; omega
                have HK0 := Lib.hid k0
                clear k0
                go_wp2_with fail
                refine (total_any id A c ts q.A q.c q.xs _ (H.out.ext (hx3.trans he)) (HQI.out.1) (Nat.le_trans HQI.out.2.1 HQI.out.2.2.1)).mono ?_
                rintro e w5 ⟨rfl, hb5⟩
                rw [QT.out, QC.out]
                go_wp2
                go_roundw
                case rel => exact ⟨k + 1, by omega, by go_num, by rw [HSN.out, HK0.out]; rfl, by rw [HSN.out, HK0.out]; rfl, rfl, he.trans hb5⟩
                case measure => simp [intOf]; omega
              · have k0' : ((k : Int) == 0) = false := by rw [beq_eq_false_iff_ne]; omega
                have HNE : Hid (Adj.totsL ts (ls.take k) ≠ []) := Lib.hid (fun e => by
                  have := congrArg List.length e
                  unfold Adj.totsL at this
                  rw [List.length_map, List.length_take, List.length_nil] at this
                  omega)
                have HSL := Lib.hid (Adj.loF_snoc tq HNE.out)
                have HSH := Lib.hid (Adj.hiF_snoc tq HNE.out)
                generalize Adj.loF (Adj.totsL ts (ls.take k)) = lo at *
                generalize Adj.hiF (Adj.totsL ts (ls.take k)) = hi at *
                clear k0
                go_wp2_with fail
                refine (total_any id A c ts q.A q.c q.xs _ (H.out.ext (hx3.trans he)) (HQI.out.1) (Nat.le_trans HQI.out.2.1 HQI.out.2.2.1)).mono ?_
                rintro e w5 ⟨rfl, hb5⟩
                rw [QT.out, QC.out]
                go_wp2
                all_goals
                  go_roundw
                  case rel => exact ⟨k + 1, by omega, by go_num, by rw [HSN.out, HSL.out]; congr 1; omega, by rw [HSN.out, HSH.out]; congr 1; omega, rfl, he.trans hb5⟩
                  case measure => simp [intOf]; omega
            · obtain rfl : k = ls.length := by omega
              have LBT := LB.out ls.length
              rw [List.take_of_length_le (Nat.le_refl _)] at LBT lb1 lb2 lb3 lb4 ⊢
              obtain ⟨b41, b42⟩ := B4.out
              generalize Adj.loF (Adj.totsL ts ls) = lo at *
              generalize Adj.hiF (Adj.totsL ts ls) = hi at *
              have ay4 := he.keep AY3.out
              clear LBT
              go_wp2_with fail
              refine (most_any id A c ts _ (H.out.ext (hx3.trans he))).mono ?_
              rintro e w6 ⟨rfl, hb6⟩
              rw [MV.out, hV.out]
              have ay6 := hb6.keep ay4
              clear ay4 bx4 by4
              go_wp2_with fail
              refine (awake_any _).mono ?_
              rintro e w7 ⟨rfl, hb7⟩
              go_wp2_with fail
              go_ret
              exact ⟨ret_bool (by simp), ((hx3.trans he).trans hb6).trans hb7⟩
        · have e2 : ((ls.length : Int) == 2) = false := by rw [beq_eq_false_iff_ne]; omega
          have e3 : ((ls.length : Int) == 3) = true := by rw [beq_iff_eq]; omega
          have AB : Hid (Adj.agreeB gap rule id ts x.xs y.xs = false) := Lib.hid (by rw [AG.out.2]; simpa using f6)
          by_cases r3 : rule = 3
          · have r3' : (rule == 3) = true := by rw [beq_iff_eq]; exact r3
            clear f5 f6 r3
            go_enter Try.func10, Try.ntmps10
            go_wp2_with fail
            refine (need_any gap rule id A c ts (some ⟨b, off, none⟩) d ls _ (H.out.ext hx0) (HL.out.ext hx0) HD.out).mono ?_
            rintro e w1 ⟨rfl, hb1⟩
            have ax1 : w1.cell? ⟨w.heap.size, 0, none⟩ = some (.int .i64 gap) := hb1.keep (by simp [go_sem])
            have ay1 : w1.cell? ⟨w.heap.size, 1, none⟩ = some (.int .i64 rule) := hb1.keep (by simp [go_sem])
            have bx1 : w1.cell? ⟨w.heap.size + 1, 0, none⟩ = some (.int .i64 id) := hb1.keep (by simp [go_sem])
            have by1 : w1.cell? ⟨w.heap.size + 1, 1, none⟩ = some (.slice A ts.length c) := hb1.keep (by simp [go_sem])
            have hx1 := hx0.trans hb1
            rw [F1.out, EC.out]
            go_wp2_with fail
            refine (score_any gap rule id A c ts (some ⟨b, off, none⟩) d ls _ (H.out.ext hx1) (HL.out.ext hx1) HD.out).mono ?_
            rintro e w2 ⟨rfl, hb2⟩
            have ax2 : w2.cell? ⟨w.heap.size, 0, none⟩ = some (.int .i64 gap) := hb2.keep ax1
            have ay2 : w2.cell? ⟨w.heap.size, 1, none⟩ = some (.int .i64 rule) := hb2.keep ay1
            have bx2 : w2.cell? ⟨w.heap.size + 1, 0, none⟩ = some (.int .i64 id) := hb2.keep bx1
            have by2 : w2.cell? ⟨w.heap.size + 1, 1, none⟩ = some (.slice A ts.length c) := hb2.keep by1
            have hx2 := hx1.trans hb2
            clear ax1 ay1 bx1 by1
            rw [HSV.out, F2.out]
            have c0_2 := hx2.keep C0.out
            have c1_2 := hx2.keep C1.out
            go_wp2_with fail
            go_region_held3 (fun w' => w'.cell? ⟨w.heap.size, 0, none⟩ = some (.int .i64 gap) ∧ w'.cell? ⟨w.heap.size, 1, none⟩ = some (.int .i64 rule) ∧ w'.cell? ⟨w.heap.size + 1, 0, none⟩ = some (.int .i64 id) ∧ w'.cell? ⟨w.heap.size + 1, 1, none⟩ = some (.slice A ts.length c) ∧ w'.cell? ⟨b, off, none⟩ = some (.slice x.A x.xs.length x.c) ∧ w'.cell? ⟨b, off + 1, none⟩ = some (.slice y.A y.xs.length y.c))
              (first
                | (exact ⟨ax2, ay2, bx2, by2, c0_2, c1_2⟩)
                | (exact ⟨hb3.keep ax2, hb3.keep ay2, hb3.keep bx2, hb3.keep by2, hb3.keep c0_2, hb3.keep c1_2⟩))
              (first
                | (go_at_call 27; refine (agree_any gap rule id A c ts x.A x.c x.xs y.A y.c y.xs _ (H.out.ext (by exact hx2.drew)) (HI0.out.ext (by exact hx2.drew)) (HI1.out.ext (by exact hx2.drew))).mono ?_; rintro e w3 ⟨rfl, hb3⟩))
            replace hb3 := hb3.undrew
            have hx3 := hx2.trans hb3
            rw [AG.out.1, AB.out]
            have ax3 := hb3.keep ax2
            have ay3 := hb3.keep ay2
            have bx3 := hb3.keep bx2
            have by3 := hb3.keep by2
            clear ax2 ay2 bx2 by2 c0_2 c1_2
            have AY3 := Lib.hid ay3
            have BX3 := Lib.hid bx3
            have BY3 := Lib.hid by3
            clear ax3 ay3 bx3 by3
            go_wp2_with fail
            go_loopw [118, 13, 14, 15] (fun i lo hi er wr => ∃ k : Nat, k ≤ ls.length ∧ i = .int .i64 k ∧ lo = .int .i64 (Adj.loF (Adj.totsL ts (ls.take k))) ∧ hi = .int .i64 (Adj.hiF (Adj.totsL ts (ls.take k))) ∧ er = .int .i64 0 ∧ Ext w3 wr) (fun i _ _ _ _ => ls.length - (intOf i).toNat)
            case atStart => exact ⟨0, by omega, rfl, rfl, rfl, rfl, Ext.refl _⟩
            case round =>
              obtain ⟨k, hk, rfl, rfl, rfl, rfl, he⟩ := hrel
              obtain ⟨lb1, lb2, lb3, lb4⟩ := LB.out k
              have bx4 := he.keep BX3.out
              have by4 := he.keep BY3.out
              by_cases hlt : k < ls.length
              · obtain ⟨q, hq⟩ : ∃ q, ls[k]? = some q := ⟨ls[k], List.getElem?_eq_getElem hlt⟩
                obtain ⟨b', off', hA', hb', cq, hqin⟩ := ((HL.out.ext hx3).ext he).at_ hq
                injection hA' with hA'
                injection hA' with hA1 hA2
                subst hA1 hA2
                have hqc := HCALL.out q (List.mem_of_getElem? hq)
                have QC := Lib.hid hqc
                have QT : Hid (Rub.totV id ts q.xs = Rub.tot (ts.zip q.xs)) := Lib.hid (by unfold Rub.totV; rw [if_pos hqc])
                have QB := Adj.tot_bd hqc
                obtain ⟨qb1, qb2, -⟩ := QB
                have HSN := Lib.hid (Adj.totsL_snoc (ts := ts) hq)
                have HQI := Lib.hid hqin
                generalize Rub.tot (ts.zip q.xs) = tq at *
                clear hq hqc hqin
                by_cases k0 : k = 0
                · have k0' : ((k : Int) == 0) = true := by rw [beq_iff_eq]; omega
                  have HK0 := Lib.hid k0
                  clear k0
                  go_wp2_with fail
                  refine (total_any id A c ts q.A q.c q.xs _ (H.out.ext (hx3.trans he)) (HQI.out.1) (Nat.le_trans HQI.out.2.1 HQI.out.2.2.1)).mono ?_
                  rintro e w5 ⟨rfl, hb5⟩
                  rw [QT.out, QC.out]
                  go_wp2
                  go_roundw
                  case rel => exact ⟨k + 1, by omega, by go_num, by rw [HSN.out, HK0.out]; rfl, by rw [HSN.out, HK0.out]; rfl, rfl, he.trans hb5⟩
                  case measure => simp [intOf]; omega
                · have k0' : ((k : Int) == 0) = false := by rw [beq_eq_false_iff_ne]; omega
                  have HNE : Hid (Adj.totsL ts (ls.take k) ≠ []) := Lib.hid (fun e => by
                    have := congrArg List.length e
                    unfold Adj.totsL at this
                    rw [List.length_map, List.length_take, List.length_nil] at this
                    omega)
                  have HSL := Lib.hid (Adj.loF_snoc tq HNE.out)
                  have HSH := Lib.hid (Adj.hiF_snoc tq HNE.out)
                  generalize Adj.loF (Adj.totsL ts (ls.take k)) = lo at *
                  generalize Adj.hiF (Adj.totsL ts (ls.take k)) = hi at *
                  clear k0
                  go_wp2_with fail
                  refine (total_any id A c ts q.A q.c q.xs _ (H.out.ext (hx3.trans he)) (HQI.out.1) (Nat.le_trans HQI.out.2.1 HQI.out.2.2.1)).mono ?_
                  rintro e w5 ⟨rfl, hb5⟩
                  rw [QT.out, QC.out]
                  go_wp2
                  all_goals
                    go_roundw
                    case rel => exact ⟨k + 1, by omega, by go_num, by rw [HSN.out, HSL.out]; congr 1; omega, by rw [HSN.out, HSH.out]; congr 1; omega, rfl, he.trans hb5⟩
                    case measure => simp [intOf]; omega
              · obtain rfl : k = ls.length := by omega
                have LBT := LB.out ls.length
                rw [List.take_of_length_le (Nat.le_refl _)] at LBT lb1 lb2 lb3 lb4 ⊢
                generalize Adj.loF (Adj.totsL ts ls) = lo at *
                generalize Adj.hiF (Adj.totsL ts ls) = hi at *
                have ay4 := he.keep AY3.out
                clear LBT
                go_wp2_with fail
                refine (most_any id A c ts _ (H.out.ext (hx3.trans he))).mono ?_
                rintro e w6 ⟨rfl, hb6⟩
                rw [MV.out, hV.out]
                have ay6 := hb6.keep ay4
                clear ay4 bx4 by4
                go_wp2_with fail
                refine (awake_any _).mono ?_
                rintro e w7 ⟨rfl, hb7⟩
                go_wp2_with fail
                go_ret
                exact ⟨ret_bool (by simp), ((hx3.trans he).trans hb6).trans hb7⟩
          · have r3' : (rule == 3) = false := by rw [beq_eq_false_iff_ne]; exact r3
            have B4 : Hid (2 * Adj.loF (Adj.totsL ts ls) ≤ sv ∧ sv ≤ 2 * Adj.hiF (Adj.totsL ts ls)) := Lib.hid (by
              rcases B3.out with ⟨_, g⟩ | g
              · exact absurd g r3
              · exact g)
            clear f5 f6 r3
            go_enter Try.func10, Try.ntmps10
            go_wp2_with fail
            refine (need_any gap rule id A c ts (some ⟨b, off, none⟩) d ls _ (H.out.ext hx0) (HL.out.ext hx0) HD.out).mono ?_
            rintro e w1 ⟨rfl, hb1⟩
            have ax1 : w1.cell? ⟨w.heap.size, 0, none⟩ = some (.int .i64 gap) := hb1.keep (by simp [go_sem])
            have ay1 : w1.cell? ⟨w.heap.size, 1, none⟩ = some (.int .i64 rule) := hb1.keep (by simp [go_sem])
            have bx1 : w1.cell? ⟨w.heap.size + 1, 0, none⟩ = some (.int .i64 id) := hb1.keep (by simp [go_sem])
            have by1 : w1.cell? ⟨w.heap.size + 1, 1, none⟩ = some (.slice A ts.length c) := hb1.keep (by simp [go_sem])
            have hx1 := hx0.trans hb1
            rw [F1.out, EC.out]
            go_wp2_with fail
            refine (score_any gap rule id A c ts (some ⟨b, off, none⟩) d ls _ (H.out.ext hx1) (HL.out.ext hx1) HD.out).mono ?_
            rintro e w2 ⟨rfl, hb2⟩
            have ax2 : w2.cell? ⟨w.heap.size, 0, none⟩ = some (.int .i64 gap) := hb2.keep ax1
            have ay2 : w2.cell? ⟨w.heap.size, 1, none⟩ = some (.int .i64 rule) := hb2.keep ay1
            have bx2 : w2.cell? ⟨w.heap.size + 1, 0, none⟩ = some (.int .i64 id) := hb2.keep bx1
            have by2 : w2.cell? ⟨w.heap.size + 1, 1, none⟩ = some (.slice A ts.length c) := hb2.keep by1
            have hx2 := hx1.trans hb2
            clear ax1 ay1 bx1 by1
            rw [HSV.out, F2.out]
            have c0_2 := hx2.keep C0.out
            have c1_2 := hx2.keep C1.out
            go_wp2_with fail
            go_region_held3 (fun w' => w'.cell? ⟨w.heap.size, 0, none⟩ = some (.int .i64 gap) ∧ w'.cell? ⟨w.heap.size, 1, none⟩ = some (.int .i64 rule) ∧ w'.cell? ⟨w.heap.size + 1, 0, none⟩ = some (.int .i64 id) ∧ w'.cell? ⟨w.heap.size + 1, 1, none⟩ = some (.slice A ts.length c) ∧ w'.cell? ⟨b, off, none⟩ = some (.slice x.A x.xs.length x.c) ∧ w'.cell? ⟨b, off + 1, none⟩ = some (.slice y.A y.xs.length y.c))
              (first
                | (exact ⟨ax2, ay2, bx2, by2, c0_2, c1_2⟩)
                | (exact ⟨hb3.keep ax2, hb3.keep ay2, hb3.keep bx2, hb3.keep by2, hb3.keep c0_2, hb3.keep c1_2⟩))
              (first
                | (go_at_call 27; refine (agree_any gap rule id A c ts x.A x.c x.xs y.A y.c y.xs _ (H.out.ext (by exact hx2.drew)) (HI0.out.ext (by exact hx2.drew)) (HI1.out.ext (by exact hx2.drew))).mono ?_; rintro e w3 ⟨rfl, hb3⟩))
            replace hb3 := hb3.undrew
            have hx3 := hx2.trans hb3
            rw [AG.out.1, AB.out]
            have ax3 := hb3.keep ax2
            have ay3 := hb3.keep ay2
            have bx3 := hb3.keep bx2
            have by3 := hb3.keep by2
            clear ax2 ay2 bx2 by2 c0_2 c1_2
            have AY3 := Lib.hid ay3
            have BX3 := Lib.hid bx3
            have BY3 := Lib.hid by3
            clear ax3 ay3 bx3 by3
            go_wp2_with fail
            go_loopw [118, 13, 14, 15] (fun i lo hi er wr => ∃ k : Nat, k ≤ ls.length ∧ i = .int .i64 k ∧ lo = .int .i64 (Adj.loF (Adj.totsL ts (ls.take k))) ∧ hi = .int .i64 (Adj.hiF (Adj.totsL ts (ls.take k))) ∧ er = .int .i64 0 ∧ Ext w3 wr) (fun i _ _ _ _ => ls.length - (intOf i).toNat)
            case atStart => exact ⟨0, by omega, rfl, rfl, rfl, rfl, Ext.refl _⟩
            case round =>
              obtain ⟨k, hk, rfl, rfl, rfl, rfl, he⟩ := hrel
              obtain ⟨lb1, lb2, lb3, lb4⟩ := LB.out k
              have bx4 := he.keep BX3.out
              have by4 := he.keep BY3.out
              by_cases hlt : k < ls.length
              · obtain ⟨q, hq⟩ : ∃ q, ls[k]? = some q := ⟨ls[k], List.getElem?_eq_getElem hlt⟩
                obtain ⟨b', off', hA', hb', cq, hqin⟩ := ((HL.out.ext hx3).ext he).at_ hq
                injection hA' with hA'
                injection hA' with hA1 hA2
                subst hA1 hA2
                have hqc := HCALL.out q (List.mem_of_getElem? hq)
                have QC := Lib.hid hqc
                have QT : Hid (Rub.totV id ts q.xs = Rub.tot (ts.zip q.xs)) := Lib.hid (by unfold Rub.totV; rw [if_pos hqc])
                have QB := Adj.tot_bd hqc
                obtain ⟨qb1, qb2, -⟩ := QB
                have HSN := Lib.hid (Adj.totsL_snoc (ts := ts) hq)
                have HQI := Lib.hid hqin
                generalize Rub.tot (ts.zip q.xs) = tq at *
                clear hq hqc hqin
                by_cases k0 : k = 0
                · have k0' : ((k : Int) == 0) = true := by rw [beq_iff_eq]; omega
                  have HK0 := Lib.hid k0
                  clear k0
                  go_wp2_with fail
                  refine (total_any id A c ts q.A q.c q.xs _ (H.out.ext (hx3.trans he)) (HQI.out.1) (Nat.le_trans HQI.out.2.1 HQI.out.2.2.1)).mono ?_
                  rintro e w5 ⟨rfl, hb5⟩
                  rw [QT.out, QC.out]
                  go_wp2
                  go_roundw
                  case rel => exact ⟨k + 1, by omega, by go_num, by rw [HSN.out, HK0.out]; rfl, by rw [HSN.out, HK0.out]; rfl, rfl, he.trans hb5⟩
                  case measure => simp [intOf]; omega
                · have k0' : ((k : Int) == 0) = false := by rw [beq_eq_false_iff_ne]; omega
                  have HNE : Hid (Adj.totsL ts (ls.take k) ≠ []) := Lib.hid (fun e => by
                    have := congrArg List.length e
                    unfold Adj.totsL at this
                    rw [List.length_map, List.length_take, List.length_nil] at this
                    omega)
                  have HSL := Lib.hid (Adj.loF_snoc tq HNE.out)
                  have HSH := Lib.hid (Adj.hiF_snoc tq HNE.out)
                  generalize Adj.loF (Adj.totsL ts (ls.take k)) = lo at *
                  generalize Adj.hiF (Adj.totsL ts (ls.take k)) = hi at *
                  clear k0
                  go_wp2_with fail
                  refine (total_any id A c ts q.A q.c q.xs _ (H.out.ext (hx3.trans he)) (HQI.out.1) (Nat.le_trans HQI.out.2.1 HQI.out.2.2.1)).mono ?_
                  rintro e w5 ⟨rfl, hb5⟩
                  rw [QT.out, QC.out]
                  go_wp2
                  all_goals
                    go_roundw
                    case rel => exact ⟨k + 1, by omega, by go_num, by rw [HSN.out, HSL.out]; congr 1; omega, by rw [HSN.out, HSH.out]; congr 1; omega, rfl, he.trans hb5⟩
                    case measure => simp [intOf]; omega
              · obtain rfl : k = ls.length := by omega
                have LBT := LB.out ls.length
                rw [List.take_of_length_le (Nat.le_refl _)] at LBT lb1 lb2 lb3 lb4 ⊢
                obtain ⟨b41, b42⟩ := B4.out
                generalize Adj.loF (Adj.totsL ts ls) = lo at *
                generalize Adj.hiF (Adj.totsL ts ls) = hi at *
                have ay4 := he.keep AY3.out
                clear LBT
                go_wp2_with fail
                refine (most_any id A c ts _ (H.out.ext (hx3.trans he))).mono ?_
                rintro e w6 ⟨rfl, hb6⟩
                rw [MV.out, hV.out]
                have ay6 := hb6.keep ay4
                clear ay4 bx4 by4
                go_wp2_with fail
                refine (awake_any _).mono ?_
                rintro e w7 ⟨rfl, hb7⟩
                go_wp2_with fail
                go_ret
                exact ⟨ret_bool (by simp), ((hx3.trans he).trans hb6).trans hb7⟩
  · have z' : (Adj.chkE gap rule id ts (ls.map IL.xs) != 0) = true := by rw [bne_iff_ne]; exact z
    have EN := Lib.hid (Adj.need_not z)
    have ES := Lib.hid (Adj.score_chk (rule := rule) z)
    clear z
    go_enter Try.func10, Try.ntmps10
    go_wp2_with fail
    refine (need_any gap rule id A c ts L d ls _ (H.out.ext hx0) (HL.out.ext hx0) HD.out).mono ?_
    rintro e w1 ⟨rfl, hb1⟩
    have ax1 : w1.cell? ⟨w.heap.size, 0, none⟩ = some (.int .i64 gap) := hb1.keep (by simp [go_sem])
    have ay1 : w1.cell? ⟨w.heap.size, 1, none⟩ = some (.int .i64 rule) := hb1.keep (by simp [go_sem])
    have bx1 : w1.cell? ⟨w.heap.size + 1, 0, none⟩ = some (.int .i64 id) := hb1.keep (by simp [go_sem])
    have by1 : w1.cell? ⟨w.heap.size + 1, 1, none⟩ = some (.slice A ts.length c) := hb1.keep (by simp [go_sem])
    have hx1 := hx0.trans hb1
    rw [EN.out]
    go_wp2_with fail
    refine (score_any gap rule id A c ts L d ls _ (H.out.ext hx1) (HL.out.ext hx1) HD.out).mono ?_
    rintro e w2 ⟨rfl, hb2⟩
    have ax2 : w2.cell? ⟨w.heap.size, 0, none⟩ = some (.int .i64 gap) := hb2.keep ax1
    have ay2 : w2.cell? ⟨w.heap.size, 1, none⟩ = some (.int .i64 rule) := hb2.keep ay1
    have bx2 : w2.cell? ⟨w.heap.size + 1, 0, none⟩ = some (.int .i64 id) := hb2.keep bx1
    have by2 : w2.cell? ⟨w.heap.size + 1, 1, none⟩ = some (.slice A ts.length c) := hb2.keep by1
    have hx2 := hx1.trans hb2
    clear ax1 ay1 bx1 by1
    rw [ES.out]
    clear ax2 ay2 bx2 by2
    go_wp2_with fail
    refine (awake_any _).mono ?_
    rintro e wz ⟨rfl, hbz⟩
    go_wp2_with fail
    go_ret
    exact ⟨ret_bool (by simp), hx2.trans hbz⟩

theorem adjudicateAgree_lifted (os : Os) (started : os.Started) (H : Type) (enc : TypeId × Value → H) :
    ReturnsInHanded {} Try.checked os 10 .any (Rows.adjudicateAgreeSpec.pre6 enc Try.prog Try.f10 Rows.adjudicateAgreeRow.domain false) (Rows.adjudicateAgreeSpec.post enc Try.prog Try.f10 false true false false) := by
  refine returnsInHanded_of_change (C := Try.checked) Try.own started (by kernel_rfl) Try.func10
    (ChangeSpec.witness6 (enc := enc) (C := Try.checked) false ⟨#[], #[.agg #[.int .i64 0, .int .i64 0], .agg #[.int .i64 0, .slice none 0 0], .slice none 0 0], []⟩ 8 (by kernel_rfl) (by kernel_rfl) (by kernel_rfl) (by kernel_rfl)) ?_
  intro W base args ds gs before hval0 hW _ _
  have hval : ∀ (j : Nat) t v, Try.f10.params[j]? = some t → args[j]? = some v → Value.okWide Try.prog W .any base t v := hval0
  have hW' := hW
  obtain ⟨p, q, hA0, hV, rfl, hfz, hnd⟩ := hW
  have hA : DataW.TrodAll enc Try.prog W 0 (fun _ => true) true Try.f10.params.toList args.toList ds p := hA0
  rw [Try.params10] at hA hval
  obtain ⟨v0, vs0, d0, ds0, p0, q0, hargs, rfl, rfl, h0, r0⟩ := trodAll_cons hA
  obtain ⟨v1, vs1, d1, ds1, p1, q1, rfl, rfl, rfl, h1, r1⟩ := trodAll_cons r0
  obtain ⟨v2, vs2, d2, ds2, p2, q2, rfl, rfl, rfl, h2, r2⟩ := trodAll_cons r1
  obtain ⟨rfl, rfl, rfl⟩ := trodAll_nil r2
  obtain rfl : args = #[v0, v1, v2] := by cases args; simp_all
  obtain ⟨rfl, rfl⟩ := trodVars_none hV
  obtain ⟨gap, rule, rfl, ga1, ga2⟩ := adj_open (hval 0 38 v0 rfl rfl) h0
  obtain ⟨id, A, c, ts, rfl, g1⟩ := rub_open (hval 1 24 v1 rfl rfl) h1
  obtain ⟨L, d, ls, rfl, g2, g3⟩ := intss_open (hval 2 39 v2 rfl rfl) h2
  refine (adjudicateAgree_walk gap rule id A c ts L d ls W g1 g2 g3).mono fun e W' ⟨he, hw⟩ => ?_
  subst he
  exact ⟨_, rfl, law_post hW' Try.laidOut (by kernel_rfl) rfl (by rfl) rfl Try.underlying4 hw⟩

theorem adjudicateAgree_holds : Rows.AdjudicateAgreeSaid :=
  OpenClaim.holds_of_wide 10 Try.f10 rfl rfl rfl rfl rfl rfl rfl ⟨rfl, rfl, rfl, rfl, rfl⟩ rfl rfl rfl rfl rfl (by kernel_rfl) Try.func10 (by kernel_rfl)
    (of_decide_eq_true (by kernel_rfl)) (by unfold Func.isWrapper; first | (rw [if_pos (by decide +kernel)]; kernel_rfl) | (rw [if_neg (by decide +kernel)]; exact ⟨rfl, rfl⟩))
    (fun os started H enc _ => adjudicateAgree_lifted os started H enc)
#print axioms adjudicateAgree_holds
end Go.Proofs.Ythjledbomonfpaa
