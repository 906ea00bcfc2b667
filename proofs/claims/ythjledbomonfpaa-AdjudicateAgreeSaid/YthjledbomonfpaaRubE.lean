/- rubric.Median and the reference's Median: contracts for the walk. Conditions: those of each theorem. -/
import Derived.Test.YthjledbomonfpaaRubD
namespace Go.Proofs.Ythjledbomonfpaa
open Go.RowKit

theorem mids_bd {id : Int} {ts : List Rub.Trait} {a b d : List Int} (h1 : Rub.checkE id ts a = 0) (h2 : Rub.checkE id ts b = 0) (h3 : Rub.checkE id ts d = 0) (x : Int) (hx : x ∈ Rub.mids a b d) : ∃ p q r : Int, 0 ≤ Rub.mid p q r ∧ Rub.mid p q r ≤ 10 ∧ x = Rub.mid p q r := by
  obtain ⟨-, hl1, -⟩ := Rub.check_zero h1
  obtain ⟨-, hl2, -⟩ := Rub.check_zero h2
  obtain ⟨-, hl3, -⟩ := Rub.check_zero h3
  have hml := Rub.mids_length a b d (by omega) (by omega)
  obtain ⟨j, hj, e⟩ := List.mem_iff_getElem.1 hx
  have ea := List.getElem?_eq_getElem (l := a) (i := j) (by omega)
  have eb := List.getElem?_eq_getElem (l := b) (i := j) (by omega)
  have ed := List.getElem?_eq_getElem (l := d) (i := j) (by omega)
  have hm := Rub.mids_at a b d j _ _ _ ea eb ed
  rw [List.getElem?_eq_getElem hj, e] at hm
  injection hm with hm
  have b1 := apart_bd h1 ea
  have b2 := apart_bd h2 eb
  have b3 := apart_bd h3 ed
  refine ⟨_, _, _, ?_, ?_, hm⟩
  · unfold Rub.mid; omega
  · unfold Rub.mid; omega

set_option maxHeartbeats 1600000 in
theorem median_any (id : Int) (A : Option Addr) (c : Nat) (ts : List Rub.Trait) (X : Option Addr) (xc : Nat) (a : List Int) (Y : Option Addr) (yc : Nat) (b : List Int) (Z : Option Addr) (zc : Nat) (d : List Int) (w : World)
    (h : RubIn w id A c ts) (ha : (⟨X, xc, a⟩ : IL).In w) (hb : (⟨Y, yc, b⟩ : IL).In w) (hd : (⟨Z, zc, d⟩ : IL).In w) :
    Calls Try.prog 11 #[.agg #[.int .i64 id, .slice A ts.length c], .slice X a.length xc, .slice Y b.length yc, .slice Z d.length zc] w (RetIntsErr (Rub.medV id ts a b d) (Rub.checkAllE id ts [a, b, d]) w) := by
  have H := Lib.hid h
  have HA := Lib.hid ha
  have HB := Lib.hid hb
  have HD := Lib.hid hd
  clear h ha hb hd
  have hx2 : Ext w ((w.alloc (.cells #[.int .i64 id, .slice A ts.length c] 24)).alloc (.cells #[.slice X a.length xc, .slice Y b.length yc, .slice Z d.length zc] 25)) := ((Ext.refl _).alloc _).alloc _
  have hsl := Sl.new_at (w.alloc (.cells #[.int .i64 id, .slice A ts.length c] 24)) [.slice X a.length xc, .slice Y b.length yc, .slice Z d.length zc] 25 (w.heap.size + 1) (by simp)
  have HX2 := Lib.hid hx2
  have HSL := Lib.hid hsl
  clear hx2 hsl
  by_cases hz : Rub.checkAllE id ts [a, b, d] = 0
  · have z1 := Rub.all_zero hz a (by simp)
    have z2 := Rub.all_zero hz b (by simp)
    have z3 := Rub.all_zero hz d (by simp)
    obtain ⟨hv, hl1, -⟩ := Rub.check_zero z1
    obtain ⟨-, hl2, -⟩ := Rub.check_zero z2
    obtain ⟨-, hl3, -⟩ := Rub.check_zero z3
    obtain ⟨l1, l2, -⟩ := Rub.valid_zero hv
    have a6 : a.length ≤ 6 := by omega
    have HZ := Lib.hid hz
    have HL : Hid (b.length = a.length) := by show b.length = a.length; omega
    have HL2 : Hid (d.length = a.length) := by show d.length = a.length; omega
    have Z1 := Lib.hid z1
    have Z2 := Lib.hid z2
    have Z3 := Lib.hid z3
    clear z1 z2 z3 hv hl1 hl2 hl3 l1 l2 hz
    have hmk := run_make_row' (P := Try.prog) 25 3 (.int .i64 0) 8 Try.underlying25 Try.infoInt rfl .i64 .i64 a.length (by omega) (by omega)
    go_enter Try.func11, Try.ntmps11
    go_wp2_with fail
    refine (checkAll3 id A c ts X xc a Y yc b Z zc d _ _ (H.out.ext HX2.out) (HA.out.ext HX2.out) (HB.out.ext HX2.out) (HD.out.ext HX2.out) HSL.out).mono ?_
    rintro e w1 ⟨rfl, hb1⟩
    rw [HZ.out]
    go_wp2
    go_loopw [29] (fun i wr => ∃ k : Nat, k ≤ a.length ∧ i = .int .i64 k ∧ wr.rowIs w1.heap.size 3 a.length (fun j => .int .i64 (if j < k then (Rub.mids a b d).getD j 0 else 0)) ∧ Ext w1 wr) (fun i _ => a.length - (intOf i).toNat)
    case atStart => exact ⟨0, by omega, rfl, (World.rowIs_made w1 (.int .i64 0) a.length 3).congr (fun i _ => by simp), (Ext.refl _).alloc _⟩
    case round =>
      obtain ⟨k, hk, rfl, hrow, he⟩ := hrel
      have HR := Lib.hid hrow
      have hw : Ext w wr := (HX2.out.trans hb1).trans he
      by_cases hlt : k < a.length
      · obtain ⟨ba, oa, x, rfl, hba, hx, cx⟩ := (HA.out.1.ext hw).at_ (i := k) hlt
        obtain ⟨bb, ob, y, rfl, hbb, hy, cy⟩ := (HB.out.1.ext hw).at_ (i := k) (by show k < b.length; rw [HL.out]; exact hlt)
        obtain ⟨bd, od, z, rfl, hbd, hz, cz⟩ := (HD.out.1.ext hw).at_ (i := k) (by show k < d.length; rw [HL2.out]; exact hlt)
        have ck := hrow.cell hlt
        have fk := hrow.frozen k
        rw [if_neg (Nat.lt_irrefl k)] at ck
        have HMK := Lib.hid (Rub.mids_at a b d k x y z hx hy hz)
        have hki : (k : Int) < (b.length : Int) := by rw [HL.out]; omega
        have hki2 : (k : Int) < (a.length : Int) := by omega
        have hki3 : (k : Int) < (d.length : Int) := by rw [HL2.out]; omega
        have zlt := hrow.lt
        clear hx hy hz hrow
        go_wp2
        go_quiet (fail)
        go_wp2
        go_roundw
        case rel =>
          refine ⟨k + 1, by omega, by go_num, ((show (wr.drewN _).rowIs w1.heap.size 3 a.length _ from HR.out).set k _).congr (fun j hj => ?_), (he.drewN _).setCell (by simp) _⟩
          rcases Nat.lt_trichotomy j k with g | g | g
          · rw [if_neg (by omega), if_pos g, if_pos (by omega)]
          · subst g
            rw [if_pos rfl, show (if j < j + 1 then (Rub.mids a b d).getD j 0 else 0) = Rub.mid x y z from by rw [if_pos (by omega), List.getD_eq_getElem?_getD, HMK.out]; rfl]
            simp only [Rub.ite_min, Rub.ite_max]
            rfl
          · rw [if_neg (by omega), if_neg (by omega), if_neg (by omega)]
        case measure => simp [intOf]; omega
      · obtain rfl : k = a.length := by omega
        go_wp2
        go_ret2
        have hml : (Rub.mids a b d).length = a.length := Rub.mids_length a b d HL.out HL2.out
        have hmv : Rub.medV id ts a b d = Rub.mids a b d := by unfold Rub.medV; rw [if_pos HZ.out]
        refine ⟨some ⟨w1.heap.size, 0, none⟩, a.length, ?_, ?_, hw⟩
        · exact ret_sl (by rw [hmv, hml]) HZ.out.symm
        · rw [hmv]
          refine ⟨SlI.of_row HR.out hml (fun j x hx => ?_), by show (Rub.mids a b d).length ≤ a.length; omega, by show a.length ≤ maxLen; unfold maxLen; omega, fun x hx => ?_⟩
          · have hj : j < a.length := by
              rcases Nat.lt_or_ge j (Rub.mids a b d).length with g | g
              · omega
              · rw [List.getElem?_eq_none g] at hx; cases hx
            rw [if_pos hj, List.getD_eq_getElem?_getD, hx]
            rfl
          · obtain ⟨p, q, r, p1, p2, rfl⟩ := mids_bd Z1.out Z2.out Z3.out x hx
            exact ⟨by omega, by omega⟩
  · have hz' : (Rub.checkAllE id ts [a, b, d] != 0) = true := by rw [bne_iff_ne]; exact hz
    have hmv : Rub.medV id ts a b d = [] := by unfold Rub.medV; rw [if_neg hz]
    rw [hmv]
    clear hz hmv
    go_enter Try.func11, Try.ntmps11
    go_wp2_with fail
    refine (checkAll3 id A c ts X xc a Y yc b Z zc d _ _ (H.out.ext HX2.out) (HA.out.ext HX2.out) (HB.out.ext HX2.out) (HD.out.ext HX2.out) HSL.out).mono ?_
    rintro e w1 ⟨rfl, hb1⟩
    go_wp2
    go_ret2
    exact ⟨none, 0, rfl, ⟨SlI.nil _ _, Nat.le_refl _, Nat.zero_le _, fun x hx => by simp at hx⟩, HX2.out.trans hb1⟩

set_option maxHeartbeats 1600000 in
theorem refMedian_ok (id : Int) (A : Option Addr) (c : Nat) (ts : List Rub.Trait) (X : Option Addr) (xc : Nat) (a : List Int) (Y : Option Addr) (yc : Nat) (b : List Int) (Z : Option Addr) (zc : Nat) (d : List Int) (w : World)
    (h : RubIn w id A c ts) (ha : (⟨X, xc, a⟩ : IL).In w) (hb : (⟨Y, yc, b⟩ : IL).In w) (hd : (⟨Z, zc, d⟩ : IL).In w) (z1 : Rub.checkE id ts a = 0) (z2 : Rub.checkE id ts b = 0) (z3 : Rub.checkE id ts d = 0) :
    Calls Try.prog 16 #[.agg #[.int .i64 id, .slice A ts.length c], .slice X a.length xc, .slice Y b.length yc, .slice Z d.length zc] w (RetIntsErr (Rub.mids a b d) 0 w) := by
  have H := Lib.hid h
  have HA := Lib.hid ha
  have HB := Lib.hid hb
  have HD := Lib.hid hd
  clear h ha hb hd
  have hx1 : Ext w (w.alloc (.cells #[.int .i64 id, .slice A ts.length c] 24)) := (Ext.refl _).alloc _
  obtain ⟨hv, hl1, -⟩ := Rub.check_zero z1
  obtain ⟨-, hl2, -⟩ := Rub.check_zero z2
  obtain ⟨-, hl3, -⟩ := Rub.check_zero z3
  obtain ⟨l1, l2, -⟩ := Rub.valid_zero hv
  have a6 : a.length ≤ 6 := by omega
  have HL : Hid (b.length = a.length) := by show b.length = a.length; omega
  have HL2 : Hid (d.length = a.length) := by show d.length = a.length; omega
  have Z1 := Lib.hid z1
  have Z2 := Lib.hid z2
  have Z3 := Lib.hid z3
  clear z1 z2 z3 hv hl1 hl2 hl3 l1 l2
  obtain ⟨i0, hi0, hz0, hz1, hz2⟩ := info_parts Try.infoInt
  go_enter Try.func16, Try.ntmps16
  go_wp2_with fail
  refine (refCheck_any id A c ts X xc a _ (H.out.ext hx1) (HA.out.1.ext hx1) (Nat.le_trans HA.out.2.1 HA.out.2.2.1)).mono ?_
  rintro e w1 ⟨rfl, hb1⟩
  rw [Z1.out]
  have bx0 : w1.cell? ⟨w.heap.size, 0, none⟩ = some (.int .i64 id) := hb1.keep (by simp [go_sem])
  have bx1 : w1.cell? ⟨w.heap.size, 1, none⟩ = some (.slice A ts.length c) := hb1.keep (by simp [go_sem])
  have hx2 := hx1.trans hb1
  go_wp2_with fail
  refine (refCheck_any id A c ts Y yc b _ (H.out.ext hx2) (HB.out.1.ext hx2) (Nat.le_trans HB.out.2.1 HB.out.2.2.1)).mono ?_
  rintro e w2 ⟨rfl, hb2⟩
  rw [Z2.out]
  have cx0 : w2.cell? ⟨w.heap.size, 0, none⟩ = some (.int .i64 id) := hb2.keep bx0
  have cx1 : w2.cell? ⟨w.heap.size, 1, none⟩ = some (.slice A ts.length c) := hb2.keep bx1
  have hx3 := hx2.trans hb2
  go_wp2_with fail
  refine (refCheck_any id A c ts Z zc d _ (H.out.ext hx3) (HD.out.1.ext hx3) (Nat.le_trans HD.out.2.1 HD.out.2.2.1)).mono ?_
  rintro e w3 ⟨rfl, hb3⟩
  rw [Z3.out]
  have hx4 := hx3.trans hb3
  have hsz := hx4.size
  go_wp2
  go_loopw [12, 11] (fun i v wr => ∃ k : Nat, k ≤ a.length ∧ i = .int .i64 k ∧ wr.ownsRow w3.heap.size 3 1 v k (((Rub.mids a b d).take k).map (Value.int .i64)) ∧ Ext w3 wr) (fun i _ _ => a.length - (intOf i).toNat)
  case atStart => exact ⟨0, by omega, rfl, ⟨by simp, Or.inl ⟨rfl, rfl⟩⟩, Ext.refl _⟩
  case round =>
    obtain ⟨k, hk, rfl, hown, he⟩ := hrel
    have hw : Ext w wr := hx4.trans he
    have hszr := he.size
    by_cases hlt : k < a.length
    · obtain ⟨ba, oa, x, rfl, hba, hx, cx⟩ := HA.out.1.at_ (i := k) hlt
      obtain ⟨bb, ob, y, rfl, hbb, hy, cy⟩ := HB.out.1.at_ (i := k) (by show k < b.length; rw [HL.out]; exact hlt)
      obtain ⟨bd, od, z, rfl, hbd, hz, cz⟩ := HD.out.1.at_ (i := k) (by show k < d.length; rw [HL2.out]; exact hlt)
      have dx := hw.keep cx
      have dy := hw.keep cy
      have dz := hw.keep cz
      have HMK := Lib.hid (Rub.mids_at a b d k x y z hx hy hz)
      have hki : (k : Int) < (b.length : Int) := by rw [HL.out]; omega
      have hki2 : (k : Int) < (a.length : Int) := by omega
      have hki3 : (k : Int) < (d.length : Int) := by rw [HL2.out]; omega
      have na := own_ne hown (show ba < w3.heap.size by omega)
      have nb := own_ne hown (show bb < w3.heap.size by omega)
      have nd := own_ne hown (show bd < w3.heap.size by omega)
      have hge := own_ge hown
      have HOWN := Lib.hid hown
      have HNA := Lib.hid na
      have HNB := Lib.hid nb
      have HND := Lib.hid nd
      have HGE := Lib.hid hge
      clear hx hy hz cx cy cz hown na nb nd hge
      go_wp2_with fail
      go_region_held3 (fun w' => w'.cell? ⟨ba, oa + k, none⟩ = some (.int .i64 x) ∧ w'.cell? ⟨bb, ob + k, none⟩ = some (.int .i64 y) ∧ w'.cell? ⟨bd, od + k, none⟩ = some (.int .i64 z))
        (first
          | go_keep
          | (go_split_ands
             refine ⟨?_, ?_, ?_⟩
             · (rw [hgrow.cell_far _ (by simp; omega) HNA.out]; assumption)
             · (rw [hgrow.cell_far _ (by simp; omega) HNB.out]; assumption)
             · (rw [hgrow.cell_far _ (by simp; omega) HND.out]; assumption)))
        (first
          | (go_at_call 36; refine (middle_any _ _ _ _).mono ?_; rintro e w' ⟨rfl, rfl⟩)
          | (refine step_append_lies _ (by rfl) _ _ _ (by rfl) w3.heap.size 3 i0 _ 1 8 Try.underlying25 hi0 hz0 hz1 hz2 rfl (by omega) _ k (((Rub.mids a b d).take k).map (Value.int .i64)) (by rfl) ((HOWN.out.alloc _).drew)
              ⟨wr.heap.size, 0, none⟩ 1 1 [.int .i64 (Rub.mid x y z)] (by rfl) (by rfl) (World.news_of_block (cs := #[.int .i64 (Rub.mid x y z)]) (t := 3) (fr := (0, 0)) (heap_alloc_new wr _)) (by simp [Value.oneCell'])
              (by omega) (by unfold maxLen; omega) (by omega) (by simp; omega) (wr.heap.size + 1) (by simp) ?_; intro gg cap w4 hown1 hgrow hat hlt1))
      go_wp2
      go_roundw
      case rel =>
        refine ⟨k + 1, by omega, by go_num, ?_, ?_⟩
        · rw [Rub.take_snoc HMK.out, List.map_append]
          exact hown1
        · exact ((he.alloc _).drew).grown hgrow HGE.out
      case measure => simp [intOf]; omega
    · obtain rfl : k = a.length := by omega
      have hml : (Rub.mids a b d).length = a.length := Rub.mids_length a b d HL.out HL2.out
      rw [List.take_of_length_le (by omega)] at hown
      obtain ⟨R, rc, rfl, hr1, hr2, hr3⟩ := SlI.of_own hown
      clear hown
      go_wp2
      go_ret2
      refine ⟨R, rc, rfl, ⟨hr3, hr1, hr2, fun x hx => ?_⟩, hw⟩
      obtain ⟨p, q, r, p1, p2, rfl⟩ := mids_bd Z1.out Z2.out Z3.out x hx
      exact ⟨by omega, by omega⟩

set_option maxHeartbeats 800000 in
theorem refMedian_any (id : Int) (A : Option Addr) (c : Nat) (ts : List Rub.Trait) (X : Option Addr) (xc : Nat) (a : List Int) (Y : Option Addr) (yc : Nat) (b : List Int) (Z : Option Addr) (zc : Nat) (d : List Int) (w : World)
    (h : RubIn w id A c ts) (ha : (⟨X, xc, a⟩ : IL).In w) (hb : (⟨Y, yc, b⟩ : IL).In w) (hd : (⟨Z, zc, d⟩ : IL).In w) :
    Calls Try.prog 16 #[.agg #[.int .i64 id, .slice A ts.length c], .slice X a.length xc, .slice Y b.length yc, .slice Z d.length zc] w (RetIntsErr (Rub.medV id ts a b d) (Rub.checkAllE id ts [a, b, d]) w) := by
  have hx1 : Ext w (w.alloc (.cells #[.int .i64 id, .slice A ts.length c] 24)) := (Ext.refl _).alloc _
  unfold Rub.medV
  by_cases z1 : Rub.checkE id ts a = 0
  · by_cases z2 : Rub.checkE id ts b = 0
    · by_cases z3 : Rub.checkE id ts d = 0
      · have hz : Rub.checkAllE id ts [a, b, d] = 0 := by simp [Rub.checkAllE, z1, z2, z3]
        rw [if_pos hz, hz]
        exact refMedian_ok id A c ts X xc a Y yc b Z zc d w h ha hb hd z1 z2 z3
      · have hz : Rub.checkAllE id ts [a, b, d] = Rub.checkE id ts d := by simp [Rub.checkAllE, z1, z2, z3]
        rw [hz, if_neg z3]
        have z3' : (Rub.checkE id ts d != 0) = true := by rw [bne_iff_ne]; exact z3
        have Z1 := Lib.hid z1
        have Z2 := Lib.hid z2
        have H := Lib.hid h
        have HA := Lib.hid ha
        have HB := Lib.hid hb
        have HD := Lib.hid hd
        clear h ha hb hd z1 z2 z3 hz
        go_enter Try.func16, Try.ntmps16
        go_wp2_with fail
        refine (refCheck_any id A c ts X xc a _ (H.out.ext hx1) (HA.out.1.ext hx1) (Nat.le_trans HA.out.2.1 HA.out.2.2.1)).mono ?_
        rintro e w1 ⟨rfl, hb1⟩
        rw [Z1.out]
        have bx0 : w1.cell? ⟨w.heap.size, 0, none⟩ = some (.int .i64 id) := hb1.keep (by simp [go_sem])
        have bx1 : w1.cell? ⟨w.heap.size, 1, none⟩ = some (.slice A ts.length c) := hb1.keep (by simp [go_sem])
        have hx2 := hx1.trans hb1
        go_wp2_with fail
        refine (refCheck_any id A c ts Y yc b _ (H.out.ext hx2) (HB.out.1.ext hx2) (Nat.le_trans HB.out.2.1 HB.out.2.2.1)).mono ?_
        rintro e w2 ⟨rfl, hb2⟩
        rw [Z2.out]
        have cx0 : w2.cell? ⟨w.heap.size, 0, none⟩ = some (.int .i64 id) := hb2.keep bx0
        have cx1 : w2.cell? ⟨w.heap.size, 1, none⟩ = some (.slice A ts.length c) := hb2.keep bx1
        have hx3 := hx2.trans hb2
        go_wp2_with fail
        refine (refCheck_any id A c ts Z zc d _ (H.out.ext hx3) (HD.out.1.ext hx3) (Nat.le_trans HD.out.2.1 HD.out.2.2.1)).mono ?_
        rintro e w3 ⟨rfl, hb3⟩
        go_wp2
        go_ret2
        exact ⟨none, 0, rfl, ⟨SlI.nil _ _, Nat.le_refl _, Nat.zero_le _, fun x hx => by simp at hx⟩, hx3.trans hb3⟩
    · have hz : Rub.checkAllE id ts [a, b, d] = Rub.checkE id ts b := by simp [Rub.checkAllE, z1, z2]
      rw [hz, if_neg z2]
      have z2' : (Rub.checkE id ts b == 0) = false := by rw [beq_eq_false_iff_ne]; exact z2
      have z2'' : (Rub.checkE id ts b != 0) = true := by rw [bne_iff_ne]; exact z2
      have Z1 := Lib.hid z1
      have H := Lib.hid h
      have HA := Lib.hid ha
      have HB := Lib.hid hb
      clear h ha hb hd z1 z2 hz
      go_enter Try.func16, Try.ntmps16
      go_wp2_with fail
      refine (refCheck_any id A c ts X xc a _ (H.out.ext hx1) (HA.out.1.ext hx1) (Nat.le_trans HA.out.2.1 HA.out.2.2.1)).mono ?_
      rintro e w1 ⟨rfl, hb1⟩
      rw [Z1.out]
      have bx0 : w1.cell? ⟨w.heap.size, 0, none⟩ = some (.int .i64 id) := hb1.keep (by simp [go_sem])
      have bx1 : w1.cell? ⟨w.heap.size, 1, none⟩ = some (.slice A ts.length c) := hb1.keep (by simp [go_sem])
      have hx2 := hx1.trans hb1
      go_wp2_with fail
      refine (refCheck_any id A c ts Y yc b _ (H.out.ext hx2) (HB.out.1.ext hx2) (Nat.le_trans HB.out.2.1 HB.out.2.2.1)).mono ?_
      rintro e w2 ⟨rfl, hb2⟩
      go_wp2
      go_ret2
      exact ⟨none, 0, rfl, ⟨SlI.nil _ _, Nat.le_refl _, Nat.zero_le _, fun x hx => by simp at hx⟩, hx2.trans hb2⟩
  · have hz : Rub.checkAllE id ts [a, b, d] = Rub.checkE id ts a := by simp [Rub.checkAllE, z1]
    rw [hz, if_neg z1]
    have z1' : (Rub.checkE id ts a == 0) = false := by rw [beq_eq_false_iff_ne]; exact z1
    have z1'' : (Rub.checkE id ts a != 0) = true := by rw [bne_iff_ne]; exact z1
    have H := Lib.hid h
    have HA := Lib.hid ha
    clear h ha hb hd z1 hz
    go_enter Try.func16, Try.ntmps16
    go_wp2_with fail
    refine (refCheck_any id A c ts X xc a _ (H.out.ext hx1) (HA.out.1.ext hx1) (Nat.le_trans HA.out.2.1 HA.out.2.2.1)).mono ?_
    rintro e w1 ⟨rfl, hb1⟩
    go_wp2
    go_ret2
    exact ⟨none, 0, rfl, ⟨SlI.nil _ _, Nat.le_refl _, Nat.zero_le _, fun x hx => by simp at hx⟩, hx1.trans hb1⟩
end Go.Proofs.Ythjledbomonfpaa
