/- The laws' own equal: two slices of slices compared. Conditions: those of the theorem. -/
import Derived.Test.YthjledbomonfpaaAdjF
namespace Go.Proofs.Ythjledbomonfpaa
open Go.RowKit

set_option maxRecDepth 100000 in
set_option maxHeartbeats 1600000 in
theorem equal_any (A : Option Addr) (ac : Nat) (la : List IL) (B : Option Addr) (bc : Nat) (lb : List IL) (w : World) (ha : SlL w A la) (hb : SlL w B lb) (hal : la.length ≤ maxLen) :
    Calls Try.prog 33 #[.slice A la.length ac, .slice B lb.length bc] w fun e w' => e = .returned (.bool (decide (la.map IL.xs = lb.map IL.xs))) ∧ Ext w w' := by
  have HA := Lib.hid ha
  have HB := Lib.hid hb
  unfold maxLen at hal
  clear ha hb
  by_cases hl : la.length = lb.length
  · have hl' : ((la.length : Int) != (lb.length : Int)) = false := by rw [bne_eq_false_iff_eq]; omega
    have HL := Lib.hid hl
    clear hl
    go_enter Try.func33, Try.ntmps33
    go_wp2
    go_loopw [14] (fun i wr => ∃ k : Nat, k ≤ la.length ∧ i = .int .i64 k ∧ (∀ j : Nat, j < k → (la.map IL.xs)[j]? = (lb.map IL.xs)[j]?) ∧ Ext w wr) (fun i _ => la.length - (intOf i).toNat)
    case atStart => exact ⟨0, by omega, rfl, fun j hj => absurd hj (by omega), Ext.refl _⟩
    case round =>
      obtain ⟨k, hk, rfl, hall, he⟩ := hrel
      have HALL := Lib.hid hall
      clear hall
      by_cases hlt : k < la.length
      · obtain ⟨x, hx⟩ : ∃ x, la[k]? = some x := ⟨la[k], List.getElem?_eq_getElem hlt⟩
        obtain ⟨y, hy⟩ : ∃ y, lb[k]? = some y := ⟨lb[k], List.getElem?_eq_getElem (by rw [← HL.out]; exact hlt)⟩
        obtain ⟨ba, oa, rfl, hba, cx, hxin⟩ := (HA.out.ext he).at_ hx
        obtain ⟨bb, ob, rfl, hbb, cy, hyin⟩ := (HB.out.ext he).at_ hy
        have hki : (k : Int) < (lb.length : Int) := by rw [← HL.out]; omega
        have hki2 : (k : Int) < (la.length : Int) := by omega
        have HX : Hid ((la.map IL.xs)[k]? = some x.xs) := by show _ = _; rw [List.getElem?_map, hx]; rfl
        have HY : Hid ((lb.map IL.xs)[k]? = some y.xs) := by show _ = _; rw [List.getElem?_map, hy]; rfl
        have HXI := Lib.hid hxin
        have HYI := Lib.hid hyin
        have hxl := Nat.le_trans hxin.2.1 hxin.2.2.1
        unfold maxLen at hxl
        clear hx hy hxin hyin
        obtain ⟨wo, rfl⟩ : ∃ wo : World, wo = wr := ⟨_, rfl⟩
        by_cases hxy : x.xs.length = y.xs.length
        · have hxy' : ((x.xs.length : Int) != (y.xs.length : Int)) = false := by rw [bne_eq_false_iff_eq]; omega
          have HXY := Lib.hid hxy
          clear hxy
          go_wp2
          go_quiet (fail)
          go_wp2
          go_loopw [33] (fun i wr => ∃ j : Nat, j ≤ x.xs.length ∧ i = .int .i64 j ∧ (∀ j' : Nat, j' < j → x.xs[j']? = y.xs[j']?) ∧ Ext wo wr) (fun i _ => x.xs.length - (intOf i).toNat)
          case atStart => exact ⟨0, by omega, rfl, fun j hj => absurd hj (by omega), (Ext.refl _).drewN _⟩
          case round =>
            obtain ⟨j, hj, rfl, hin, hi⟩ := hrel
            have HIN := Lib.hid hin
            clear hin
            have hwi : Ext w wr := he.trans hi
            have dx := hi.keep cx
            have dy := hi.keep cy
            by_cases hjl : j < x.xs.length
            · obtain ⟨bx, ox, a, hA1, hbx, ha1, ca⟩ := (HXI.out.1.ext hi).at_ (i := j) hjl
              obtain ⟨by1, oy, b, hB1, hby, hb1, cb⟩ := (HYI.out.1.ext hi).at_ (i := j) (by rw [← HXY.out]; exact hjl)
              rw [hA1] at dx
              rw [hB1] at dy
              have hji : (j : Int) < (x.xs.length : Int) := by omega
              have hji2 : (j : Int) < (y.xs.length : Int) := by rw [← HXY.out]; omega
              have HA1 := Lib.hid ha1
              have HB1 := Lib.hid hb1
              have HAA := Lib.hid hA1
              have HBB := Lib.hid hB1
              clear ha1 hb1 hA1 hB1 cx cy
              by_cases hab : a = b
              · subst hab
                go_wp2
                go_quiet (fail)
                go_wp2
                go_roundw
                case rel =>
                  refine ⟨j + 1, by omega, by go_num, fun j' hj' => ?_, hi.drewN _⟩
                  rcases Nat.lt_or_ge j' j with g | g
                  · exact HIN.out j' g
                  · obtain rfl : j' = j := by omega
                    rw [HA1.out, HB1.out]
                case measure => simp [intOf]; omega
              · have hab' : (a != b) = true := by rw [bne_iff_ne]; exact hab
                have HAB := Lib.hid hab
                clear hab
                go_wp2
                go_quiet (fail)
                go_wp2
                go_ret
                refine ⟨ret_bool ?_, hwi.drewN _⟩
                symm
                rw [decide_eq_false_iff_not]
                intro e
                have h1 := HX.out
                rw [e, HY.out] at h1
                injection h1 with h1
                have h2 := HA1.out
                rw [← h1, HB1.out] at h2
                injection h2 with h2
                exact HAB.out h2.symm
            · go_wp2
              go_roundw
              case rel =>
                refine ⟨k + 1, by omega, by go_num, fun j' hj' => ?_, hwi⟩
                rcases Nat.lt_or_ge j' k with g | g
                · exact HALL.out j' g
                · obtain rfl : j' = k := by omega
                  rw [HX.out, HY.out]
                  congr 1
                  apply List.ext_getElem?
                  intro i
                  rcases Nat.lt_or_ge i j with g1 | g1
                  · exact HIN.out i g1
                  · rw [List.getElem?_eq_none (by omega), List.getElem?_eq_none (by rw [← HXY.out]; omega)]
              case measure => simp [intOf]; omega
        · have hxy' : ((x.xs.length : Int) != (y.xs.length : Int)) = true := by rw [bne_iff_ne]; omega
          have HXY := Lib.hid hxy
          clear hxy
          go_wp2
          go_quiet (fail)
          go_wp2
          go_ret
          refine ⟨ret_bool ?_, he.drewN _⟩
          symm
          rw [decide_eq_false_iff_not]
          intro e
          have h1 := HX.out
          rw [e, HY.out] at h1
          injection h1 with h1
          exact HXY.out (by rw [h1])
      · go_wp2
        go_ret
        refine ⟨ret_bool ?_, he⟩
        symm
        rw [decide_eq_true_iff]
        apply List.ext_getElem?
        intro j
        rcases Nat.lt_or_ge j k with g | g
        · exact HALL.out j g
        · rw [List.getElem?_eq_none (by simp; omega), List.getElem?_eq_none (by simp; rw [← HL.out]; omega)]
  · have hl' : ((la.length : Int) != (lb.length : Int)) = true := by rw [bne_iff_ne]; omega
    have HL := Lib.hid hl
    clear hl
    go_enter Try.func33, Try.ntmps33
    go_wp2
    go_ret
    refine ⟨ret_bool ?_, Ext.refl _⟩
    symm
    rw [decide_eq_false_iff_not]
    intro e
    exact HL.out (by have := congrArg List.length e; simpa using this)

/-- The sample rubric's trait. -/
def styleT : Rub.Trait := ⟨⟨#[115, 116, 121, 108, 101]⟩, 5, 1⟩
/-- The post of sample. -/
def RetSample (w : World) (e : Ending) (w' : World) : Prop := ∃ (A : Option Addr) (c : Nat), e = .returned (.agg #[.int .i64 1, .slice A 1 c]) ∧ RubIn w' 1 A c [styleT] ∧ Ext w w'

theorem Sl.new_one (w : World) (cs : List Value) (t : TypeId) (k n : Nat) (hn : n = w.heap.size) : Sl (w.alloc (.cells cs.toArray t)) k (some ⟨n, 0, none⟩) [cs] := by
  subst hn
  refine Or.inr ⟨w.heap.size, 0, rfl, by simp, fun i xs hi j v hv => ?_⟩
  have hi0 : i = 0 := by
    rcases Nat.eq_zero_or_pos i with g | g
    · exact g
    · rw [List.getElem?_eq_none (by simp; omega)] at hi; cases hi
  subst hi0
  simp at hi
  subst hi
  rw [Nat.zero_mul, Nat.zero_add, Nat.zero_add, World.cell?_alloc_new]
  simpa using hv

set_option maxHeartbeats 400000 in
theorem sample_any (w : World) : Calls Try.prog 42 #[] w (RetSample w) := by
  go_enter Try.func42, Try.ntmps42
  go_wp2
  refine bodyPost_ret (v := .agg #[.int .i64 1, .slice (some ⟨w.heap.size + 1, 0, none⟩) 1 1]) (by simp [results, Try.results42, go_sem]) rfl ⟨some ⟨w.heap.size + 1, 0, none⟩, 1, rfl, ⟨?_, ?_, Nat.le_refl _, by unfold maxLen; omega, by unfold In64; omega⟩, ((Ext.refl _).alloc _).alloc _⟩
  · exact Sl.new_one (w.alloc _) [.string ⟨#[115, 116, 121, 108, 101]⟩, .int .i64 5, .int .i64 1] 57 3 (w.heap.size + 1) (by simp)
  · intro t ht
    simp at ht
    subst ht
    exact ⟨by unfold maxLen; decide, by unfold In64; decide, by unfold In64; decide⟩

/-- One mark in memory. -/
theorem one_in {w : World} {g : Nat} {v : Int} (h : w.cell? ⟨g, 0, none⟩ = some (.int .i64 v)) (h1 : 0 ≤ v) (h2 : v ≤ 10) : (⟨some ⟨g, 0, none⟩, 1, [v]⟩ : IL).In w := by
  refine ⟨Or.inr ⟨g, 0, rfl, World.block_lt_of_cell? w _ h, fun i xs hi j u hu => ?_⟩, Nat.le_refl _, by show 1 ≤ maxLen; unfold maxLen; omega, fun x hx => by simp at hx; subst hx; exact ⟨by omega, by omega⟩⟩
  have hi0 : i = 0 := by
    rcases Nat.eq_zero_or_pos i with g | g
    · exact g
    · rw [List.getElem?_eq_none (by simp; omega)] at hi; cases hi
  subst hi0
  simp at hi
  subst hi
  have hj : j = 0 := by
    rcases Nat.eq_zero_or_pos j with g | g
    · exact g
    · rw [List.getElem?_eq_none (by simp; omega)] at hu; cases hu
  subst hj
  simp at hu
  subst hu
  simpa using h
end Go.Proofs.Ythjledbomonfpaa
