/- segments and Valid of the content package; the reference's Valid of content codes: contracts. Conditions: those of each theorem. -/
import Derived.Test.YtfnmgcblhebdbaaGreatDoorItF
namespace Go.Proofs.YtfnmgcblhebdbaaGreatDoor
open Go.RowKit

namespace It
/-- So far k segments of s have come, and r is left. -/
def SegS (s : ByteArray) (k : Nat) (r p0 p1 p2 p3 p4 : ByteArray) : Prop :=
  ∃ T : List (List UInt8), T.length = k ∧ cuts s.data.toList = T ++ cuts r.data.toList ∧ T.map ofL = [p0, p1, p2, p3, p4].take k
/-- What the segments are. -/
def SegR (s : ByteArray) (n : Nat) (ok : Bool) (p0 p1 p2 p3 p4 : ByteArray) : Prop :=
  ok = decide ((cuts s.data.toList).length ≤ 5) ∧ (ok = true → (cuts s.data.toList).length = n ∧ n ≤ 5 ∧ (cuts s.data.toList).map ofL = [p0, p1, p2, p3, p4].take n)
theorem ofL_eq (s : ByteArray) : ofL s.data.toList = s := rfl
theorem segS_start (s p0 p1 p2 p3 p4 : ByteArray) : SegS s 0 s p0 p1 p2 p3 p4 := ⟨[], rfl, rfl, rfl⟩
theorem segS_full {s r p0 p1 p2 p3 p4 : ByteArray} (h : SegS s 5 r p0 p1 p2 p3 p4) : SegR s 0 false p0 p1 p2 p3 p4 := by
  obtain ⟨T, h1, h2, _⟩ := h
  refine ⟨?_, fun e => by cases e⟩
  rw [h2, List.length_append, h1]
  have := List.length_pos_iff.2 (cuts_ne r.data.toList)
  exact (decide_eq_false (by omega)).symm

theorem segS_go0 {s r p0 p1 p2 p3 p4 h t : ByteArray} {m : Bool} (hs : SegS s 0 r p0 p1 p2 p3 p4) (hh : (Lib.cut r.data.toList [46]).1 = h.data.toList) (ht : (Lib.cut r.data.toList [46]).2.1 = t.data.toList) (hm : (Lib.cut r.data.toList [46]).2.2 = m) :
    (m = true → SegS s (0 + 1) t h p1 p2 p3 p4) ∧ (m = false → SegR s (0 + 1) true h p1 p2 p3 p4) := by
  obtain ⟨T, h1, h2, h3⟩ := hs
  constructor
  · intro e
    subst e
    have := cut_yes hm
    rw [hh, ht] at this
    refine ⟨T ++ [h.data.toList], by simp [h1], by rw [h2, this]; simp, ?_⟩
    rw [List.map_append, h3]
    rfl
  · intro e
    subst e
    obtain ⟨g1, g2⟩ := cut_no hm
    rw [g1, ← g2, hh] at h2
    have hl : (cuts s.data.toList).length = 0 + 1 := by rw [h2, List.length_append, h1]; rfl
    refine ⟨by rw [hl]; rfl, fun _ => ⟨hl, by omega, ?_⟩⟩
    rw [h2, List.map_append, h3]
    rfl
theorem segS_go1 {s r p0 p1 p2 p3 p4 h t : ByteArray} {m : Bool} (hs : SegS s 1 r p0 p1 p2 p3 p4) (hh : (Lib.cut r.data.toList [46]).1 = h.data.toList) (ht : (Lib.cut r.data.toList [46]).2.1 = t.data.toList) (hm : (Lib.cut r.data.toList [46]).2.2 = m) :
    (m = true → SegS s (1 + 1) t p0 h p2 p3 p4) ∧ (m = false → SegR s (1 + 1) true p0 h p2 p3 p4) := by
  obtain ⟨T, h1, h2, h3⟩ := hs
  constructor
  · intro e
    subst e
    have := cut_yes hm
    rw [hh, ht] at this
    refine ⟨T ++ [h.data.toList], by simp [h1], by rw [h2, this]; simp, ?_⟩
    rw [List.map_append, h3]
    rfl
  · intro e
    subst e
    obtain ⟨g1, g2⟩ := cut_no hm
    rw [g1, ← g2, hh] at h2
    have hl : (cuts s.data.toList).length = 1 + 1 := by rw [h2, List.length_append, h1]; rfl
    refine ⟨by rw [hl]; rfl, fun _ => ⟨hl, by omega, ?_⟩⟩
    rw [h2, List.map_append, h3]
    rfl
theorem segS_go2 {s r p0 p1 p2 p3 p4 h t : ByteArray} {m : Bool} (hs : SegS s 2 r p0 p1 p2 p3 p4) (hh : (Lib.cut r.data.toList [46]).1 = h.data.toList) (ht : (Lib.cut r.data.toList [46]).2.1 = t.data.toList) (hm : (Lib.cut r.data.toList [46]).2.2 = m) :
    (m = true → SegS s (2 + 1) t p0 p1 h p3 p4) ∧ (m = false → SegR s (2 + 1) true p0 p1 h p3 p4) := by
  obtain ⟨T, h1, h2, h3⟩ := hs
  constructor
  · intro e
    subst e
    have := cut_yes hm
    rw [hh, ht] at this
    refine ⟨T ++ [h.data.toList], by simp [h1], by rw [h2, this]; simp, ?_⟩
    rw [List.map_append, h3]
    rfl
  · intro e
    subst e
    obtain ⟨g1, g2⟩ := cut_no hm
    rw [g1, ← g2, hh] at h2
    have hl : (cuts s.data.toList).length = 2 + 1 := by rw [h2, List.length_append, h1]; rfl
    refine ⟨by rw [hl]; rfl, fun _ => ⟨hl, by omega, ?_⟩⟩
    rw [h2, List.map_append, h3]
    rfl
theorem segS_go3 {s r p0 p1 p2 p3 p4 h t : ByteArray} {m : Bool} (hs : SegS s 3 r p0 p1 p2 p3 p4) (hh : (Lib.cut r.data.toList [46]).1 = h.data.toList) (ht : (Lib.cut r.data.toList [46]).2.1 = t.data.toList) (hm : (Lib.cut r.data.toList [46]).2.2 = m) :
    (m = true → SegS s (3 + 1) t p0 p1 p2 h p4) ∧ (m = false → SegR s (3 + 1) true p0 p1 p2 h p4) := by
  obtain ⟨T, h1, h2, h3⟩ := hs
  constructor
  · intro e
    subst e
    have := cut_yes hm
    rw [hh, ht] at this
    refine ⟨T ++ [h.data.toList], by simp [h1], by rw [h2, this]; simp, ?_⟩
    rw [List.map_append, h3]
    rfl
  · intro e
    subst e
    obtain ⟨g1, g2⟩ := cut_no hm
    rw [g1, ← g2, hh] at h2
    have hl : (cuts s.data.toList).length = 3 + 1 := by rw [h2, List.length_append, h1]; rfl
    refine ⟨by rw [hl]; rfl, fun _ => ⟨hl, by omega, ?_⟩⟩
    rw [h2, List.map_append, h3]
    rfl
theorem segS_go4 {s r p0 p1 p2 p3 p4 h t : ByteArray} {m : Bool} (hs : SegS s 4 r p0 p1 p2 p3 p4) (hh : (Lib.cut r.data.toList [46]).1 = h.data.toList) (ht : (Lib.cut r.data.toList [46]).2.1 = t.data.toList) (hm : (Lib.cut r.data.toList [46]).2.2 = m) :
    (m = true → SegS s (4 + 1) t p0 p1 p2 p3 h) ∧ (m = false → SegR s (4 + 1) true p0 p1 p2 p3 h) := by
  obtain ⟨T, h1, h2, h3⟩ := hs
  constructor
  · intro e
    subst e
    have := cut_yes hm
    rw [hh, ht] at this
    refine ⟨T ++ [h.data.toList], by simp [h1], by rw [h2, this]; simp, ?_⟩
    rw [List.map_append, h3]
    rfl
  · intro e
    subst e
    obtain ⟨g1, g2⟩ := cut_no hm
    rw [g1, ← g2, hh] at h2
    have hl : (cuts s.data.toList).length = 4 + 1 := by rw [h2, List.length_append, h1]; rfl
    refine ⟨by rw [hl]; rfl, fun _ => ⟨hl, by omega, ?_⟩⟩
    rw [h2, List.map_append, h3]
    rfl
theorem seg_all {s : ByteArray} {n : Nat} {p0 p1 p2 p3 p4 : ByteArray} (h : SegR s n true p0 p1 p2 p3 p4) : (decide ((cuts s.data.toList).length ≤ 5) && (cuts s.data.toList).all segL) = ([p0, p1, p2, p3, p4].take n).all seg := by
  obtain ⟨h1, h2⟩ := h
  obtain ⟨_, _, h3⟩ := h2 rfl
  rw [← h1, Bool.true_and, ← h3, List.all_map]
  rfl
theorem cuts_len : ∀ (l : List UInt8), ∀ x ∈ cuts l, x.length ≤ l.length
  | [], x, hx => by simp [cuts] at hx; subst hx; simp
  | c :: l, x, hx => by
    have ih := cuts_len l
    obtain ⟨a, r, e⟩ : ∃ a r, cuts l = a :: r := by
      cases hl : cuts l with
      | nil => exact absurd hl (cuts_ne l)
      | cons a r => exact ⟨a, r, rfl⟩
    rw [cuts] at hx
    rw [e] at hx ih
    split at hx
    · rcases List.mem_cons.1 hx with rfl | h
      · simp
      · have := ih x h; simp only [List.length_cons]; omega
    · rcases List.mem_cons.1 hx with rfl | h
      · have := ih a (by simp); simp only [List.length_cons, List.headD_cons]; omega
      · have := ih x (List.mem_cons_of_mem _ h); simp only [List.length_cons]; omega
theorem drop_at (s : ByteArray) {k : Nat} (h : k < s.size) : s.data.toList.drop k = s[k] :: s.data.toList.drop (k + 1) := List.drop_eq_getElem_cons (by simpa using h)
theorem run_point {s : ByteArray} {k : Nat} (h : k < s.size) (hx : (s[k].toNat : Int) = 46) (sg sz : Nat) : run (s.data.toList.drop k) sg sz = if sz = 0 then false else run (s.data.toList.drop (k + 1)) (sg + 1) 0 := by
  have e : s[k] = 46 := UInt8.toNat_inj.1 (by have : s[k].toNat = 46 := by omega
                                              rw [this]; rfl)
  rw [drop_at s h, run, if_pos e]
theorem run_bad {s : ByteArray} {k : Nat} (h : k < s.size) (hx : (s[k].toNat : Int) ≠ 46) (hc : cap (s[k].toNat : Int) = false) (sg sz : Nat) : run (s.data.toList.drop k) sg sz = false := by
  have e : s[k] ≠ 46 := fun e => hx (by rw [e]; rfl)
  rw [drop_at s h, run, if_neg e, if_pos (show capB s[k] = false from hc)]
theorem run_on {s : ByteArray} {k : Nat} (h : k < s.size) (hx : (s[k].toNat : Int) ≠ 46) (hc : cap (s[k].toNat : Int) = true) (sg sz : Nat) : run (s.data.toList.drop k) sg sz = if 8 < sz + 1 then false else run (s.data.toList.drop (k + 1)) sg (sz + 1) := by
  have e : s[k] ≠ 46 := fun e => hx (by rw [e]; rfl)
  rw [drop_at s h, run, if_neg e, if_neg (by unfold capB; rw [hc]; simp)]
theorem all_take {l : List ByteArray} {n k : Nat} {p : ByteArray} (hp : l[k]? = some p) (hk : k < n) (hb : seg p = false) : (l.take n).all seg = false := by
  rw [List.all_eq_false]
  exact ⟨p, List.mem_of_getElem? (i := k) (by rw [List.getElem?_take_of_lt hk]; exact hp), by rw [hb]; simp⟩
theorem all_next {l : List ByteArray} {k : Nat} {p : ByteArray} (hp : l[k]? = some p) (h : (l.take k).all seg = true) (hb : seg p = true) : (l.take (k + 1)).all seg = true := by
  rw [List.take_add_one, hp, List.all_append, h]
  simp [hb]
end It

/-- What segments returns. -/
def SegPost (s : ByteArray) (e : Ending) : Prop :=
  ∃ (p0 p1 p2 p3 p4 : ByteArray) (n : Nat) (ok : Bool), e = .returned (.tuple #[.agg #[.string p0, .string p1, .string p2, .string p3, .string p4], .int .i64 n, .bool ok]) ∧ It.SegR s n ok p0 p1 p2 p3 p4
theorem gm_new {w : World} (h : Gm w) (Z1 Z2 : Obj) (m : Nat) : Gm (((w.alloc Z1).alloc Z2).drewN m) := h.ext ((((Ext.refl w).alloc _).alloc _).drewN _)
theorem seg_ext (w : World) (Z1 Z2 : Obj) (m : Nat) : Ext w (((w.alloc Z1).alloc Z2).drewN m) := (((Ext.refl w).alloc _).alloc _).drewN _
theorem Ext.sc0 {w X : World} (h : Ext w X) {i : Nat} {v : Value} : Ext w (X.setCell ⟨w.heap.size, i, none⟩ v) := h.setCell (Nat.le_refl _) _
theorem Ext.sc1 {w X : World} (h : Ext w X) {i : Nat} {v : Value} : Ext w (X.setCell ⟨w.heap.size + 1, i, none⟩ v) := h.setCell (Nat.le_succ _) _
theorem seg_put (w : World) (Z : Obj) (c : Array Value) (i : Nat) (v : Value) (m : Nat) :
    ((((w.alloc Z).alloc (.cells c 151)).drewN m).setCell ⟨w.heap.size + 1, i, none⟩ v) = ((w.alloc Z).alloc (.cells (c.setIfInBounds i v) 151)).drewN m := by
  have h := World.setCell_alloc_at (w := w.alloc Z) c 151 (w.heap.size + 1) i v (by simp)
  rw [← h]
  rfl
set_option maxRecDepth 100000 in
set_option maxHeartbeats 6400000 in
theorem segments_any (s : ByteArray) (w : World) (hs2 : s.size < 4294967281) (hg : Gm w) :
    Calls Tryz.prog 118 #[.string s] w fun e w' => SegPost s e ∧ Ext w w' := by
  have HG := Lib.hid hg
  clear hg
  go_enter Tryz.func118, Tryz.ntmps118
  go_wp2
  go_loopw [10, 0] (fun n code wr => ∃ (k : Nat) (r p0 p1 p2 p3 p4 : ByteArray) (m : Nat), k ≤ 5 ∧ n = .int .i64 k ∧ code = .string r ∧ r.size < 4294967281 ∧ Hid (It.SegS s k r p0 p1 p2 p3 p4) ∧
      wr = ((w.alloc (.cells #[.string ⟨#[]⟩, .string ⟨#[]⟩, .string ⟨#[]⟩, .string ⟨#[]⟩, .string ⟨#[]⟩] 151)).alloc (.cells #[.string p0, .string p1, .string p2, .string p3, .string p4] 151)).drewN m) (fun n _ _ => 5 - (intOf n).toNat)
  case atStart => exact ⟨0, s, ⟨#[]⟩, ⟨#[]⟩, ⟨#[]⟩, ⟨#[]⟩, ⟨#[]⟩, 0, by omega, rfl, rfl, hs2, Lib.hid (It.segS_start _ _ _ _ _ _), rfl⟩
  case round =>
    obtain ⟨k, r, p0, p1, p2, p3, p4, m, hk, rfl, rfl, hr, HS, rfl⟩ := hrel
    have hG := gm_new HG.out (.cells #[.string ⟨#[]⟩, .string ⟨#[]⟩, .string ⟨#[]⟩, .string ⟨#[]⟩, .string ⟨#[]⟩] 151) (.cells #[.string p0, .string p1, .string p2, .string p3, .string p4] 151) m
    have HGM := Lib.hid hG
    clear hG
    obtain ⟨h, hh⟩ : ∃ h : ByteArray, (Lib.cut r.data.toList [46]).1 = h.data.toList := ⟨It.ofL _, rfl⟩
    obtain ⟨t, ht⟩ : ∃ t : ByteArray, (Lib.cut r.data.toList [46]).2.1 = t.data.toList := ⟨It.ofL _, rfl⟩
    obtain ⟨c, hc⟩ : ∃ c : Bool, (Lib.cut r.data.toList [46]).2.2 = c := ⟨_, rfl⟩
    have HH := Lib.hid hh
    have HT := Lib.hid ht
    have HC := Lib.hid hc
    have htl : t.size ≤ r.size := by
      have h1 : t.data.toList.length ≤ r.data.toList.length := by
        rw [← ht]
        unfold Lib.cut
        split
        · simp
        · simp
      exact h1
    clear hh ht hc
    have hcut : ∀ w, Gm w → Calls Tryz.prog 142 #[.string r, .string ⟨#[46]⟩] w fun e w' => e = .returned (.tuple #[.string h, .string t, .bool c]) ∧ ∃ n, w' = w.drewN n := fun w hg => by
      refine (cut_any r ⟨#[46]⟩ w hr hg).mono ?_
      rintro e w' ⟨rfl, hn⟩
      refine ⟨?_, hn⟩
      rw [show (⟨#[46]⟩ : ByteArray).data.toList = [46] from rfl, HH.out, HT.out, HC.out]
    have HCUT := Lib.hid hcut
    clear hcut
    rcases (show k = 0 ∨ k = 1 ∨ k = 2 ∨ k = 3 ∨ k = 4 ∨ k = 5 by omega) with rfl | rfl | rfl | rfl | rfl | rfl
    · have HN := Lib.hid (It.segS_go0 HS.out HH.out HT.out HC.out)
      cases c with
      | true =>
        have HN2 : Hid (It.SegS s (0 + 1) t h p1 p2 p3 p4) := Lib.hid (HN.out.1 rfl)
        clear HN
        go_wp2_with (go_at_call 142; refine (HCUT.out _ HGM.out).mono ?_; rintro e w' ⟨rfl, nn, rfl⟩)
        go_roundw
        case rel => exact ⟨0 + 1, t, h, p1, p2, p3, p4, _, by omega, by go_num, rfl, by omega, HN2, seg_put _ _ _ _ _ _⟩
        case measure => simp [intOf]
      | false =>
        have HN2 : It.SegR s (0 + 1) true h p1 p2 p3 p4 := HN.out.2 rfl
        have HN3 := Lib.hid HN2
        clear HN HN2
        go_wp2_with (go_at_call 142; refine (HCUT.out _ HGM.out).mono ?_; rintro e w' ⟨rfl, nn, rfl⟩)
        refine bodyPost_ret (v := .tuple #[.agg #[.string h, .string p1, .string p2, .string p3, .string p4], .int .i64 (0 + 1 : Nat), .bool true]) (by simp [results, Tryz.results118, go_sem]) rfl ⟨⟨h, p1, p2, p3, p4, 0 + 1, true, rfl, HN3.out⟩, ?_⟩
        with_reducible exact Ext.sc0 (Ext.sc0 (Ext.sc0 (Ext.sc0 (Ext.sc0 (Ext.sc1 (seg_ext _ _ _ _))))))
    · have HN := Lib.hid (It.segS_go1 HS.out HH.out HT.out HC.out)
      cases c with
      | true =>
        have HN2 : Hid (It.SegS s (1 + 1) t p0 h p2 p3 p4) := Lib.hid (HN.out.1 rfl)
        clear HN
        go_wp2_with (go_at_call 142; refine (HCUT.out _ HGM.out).mono ?_; rintro e w' ⟨rfl, nn, rfl⟩)
        go_roundw
        case rel => exact ⟨1 + 1, t, p0, h, p2, p3, p4, _, by omega, by go_num, rfl, by omega, HN2, seg_put _ _ _ _ _ _⟩
        case measure => simp [intOf]
      | false =>
        have HN2 : It.SegR s (1 + 1) true p0 h p2 p3 p4 := HN.out.2 rfl
        have HN3 := Lib.hid HN2
        clear HN HN2
        go_wp2_with (go_at_call 142; refine (HCUT.out _ HGM.out).mono ?_; rintro e w' ⟨rfl, nn, rfl⟩)
        refine bodyPost_ret (v := .tuple #[.agg #[.string p0, .string h, .string p2, .string p3, .string p4], .int .i64 (1 + 1 : Nat), .bool true]) (by simp [results, Tryz.results118, go_sem]) rfl ⟨⟨p0, h, p2, p3, p4, 1 + 1, true, rfl, HN3.out⟩, ?_⟩
        with_reducible exact Ext.sc0 (Ext.sc0 (Ext.sc0 (Ext.sc0 (Ext.sc0 (Ext.sc1 (seg_ext _ _ _ _))))))
    · have HN := Lib.hid (It.segS_go2 HS.out HH.out HT.out HC.out)
      cases c with
      | true =>
        have HN2 : Hid (It.SegS s (2 + 1) t p0 p1 h p3 p4) := Lib.hid (HN.out.1 rfl)
        clear HN
        go_wp2_with (go_at_call 142; refine (HCUT.out _ HGM.out).mono ?_; rintro e w' ⟨rfl, nn, rfl⟩)
        go_roundw
        case rel => exact ⟨2 + 1, t, p0, p1, h, p3, p4, _, by omega, by go_num, rfl, by omega, HN2, seg_put _ _ _ _ _ _⟩
        case measure => simp [intOf]
      | false =>
        have HN2 : It.SegR s (2 + 1) true p0 p1 h p3 p4 := HN.out.2 rfl
        have HN3 := Lib.hid HN2
        clear HN HN2
        go_wp2_with (go_at_call 142; refine (HCUT.out _ HGM.out).mono ?_; rintro e w' ⟨rfl, nn, rfl⟩)
        refine bodyPost_ret (v := .tuple #[.agg #[.string p0, .string p1, .string h, .string p3, .string p4], .int .i64 (2 + 1 : Nat), .bool true]) (by simp [results, Tryz.results118, go_sem]) rfl ⟨⟨p0, p1, h, p3, p4, 2 + 1, true, rfl, HN3.out⟩, ?_⟩
        with_reducible exact Ext.sc0 (Ext.sc0 (Ext.sc0 (Ext.sc0 (Ext.sc0 (Ext.sc1 (seg_ext _ _ _ _))))))
    · have HN := Lib.hid (It.segS_go3 HS.out HH.out HT.out HC.out)
      cases c with
      | true =>
        have HN2 : Hid (It.SegS s (3 + 1) t p0 p1 p2 h p4) := Lib.hid (HN.out.1 rfl)
        clear HN
        go_wp2_with (go_at_call 142; refine (HCUT.out _ HGM.out).mono ?_; rintro e w' ⟨rfl, nn, rfl⟩)
        go_roundw
        case rel => exact ⟨3 + 1, t, p0, p1, p2, h, p4, _, by omega, by go_num, rfl, by omega, HN2, seg_put _ _ _ _ _ _⟩
        case measure => simp [intOf]
      | false =>
        have HN2 : It.SegR s (3 + 1) true p0 p1 p2 h p4 := HN.out.2 rfl
        have HN3 := Lib.hid HN2
        clear HN HN2
        go_wp2_with (go_at_call 142; refine (HCUT.out _ HGM.out).mono ?_; rintro e w' ⟨rfl, nn, rfl⟩)
        refine bodyPost_ret (v := .tuple #[.agg #[.string p0, .string p1, .string p2, .string h, .string p4], .int .i64 (3 + 1 : Nat), .bool true]) (by simp [results, Tryz.results118, go_sem]) rfl ⟨⟨p0, p1, p2, h, p4, 3 + 1, true, rfl, HN3.out⟩, ?_⟩
        with_reducible exact Ext.sc0 (Ext.sc0 (Ext.sc0 (Ext.sc0 (Ext.sc0 (Ext.sc1 (seg_ext _ _ _ _))))))
    · have HN := Lib.hid (It.segS_go4 HS.out HH.out HT.out HC.out)
      cases c with
      | true =>
        have HN2 : Hid (It.SegS s (4 + 1) t p0 p1 p2 p3 h) := Lib.hid (HN.out.1 rfl)
        clear HN
        go_wp2_with (go_at_call 142; refine (HCUT.out _ HGM.out).mono ?_; rintro e w' ⟨rfl, nn, rfl⟩)
        go_roundw
        case rel => exact ⟨4 + 1, t, p0, p1, p2, p3, h, _, by omega, by go_num, rfl, by omega, HN2, seg_put _ _ _ _ _ _⟩
        case measure => simp [intOf]
      | false =>
        have HN2 : It.SegR s (4 + 1) true p0 p1 p2 p3 h := HN.out.2 rfl
        have HN3 := Lib.hid HN2
        clear HN HN2
        go_wp2_with (go_at_call 142; refine (HCUT.out _ HGM.out).mono ?_; rintro e w' ⟨rfl, nn, rfl⟩)
        refine bodyPost_ret (v := .tuple #[.agg #[.string p0, .string p1, .string p2, .string p3, .string h], .int .i64 (4 + 1 : Nat), .bool true]) (by simp [results, Tryz.results118, go_sem]) rfl ⟨⟨p0, p1, p2, p3, h, 4 + 1, true, rfl, HN3.out⟩, ?_⟩
        with_reducible exact Ext.sc0 (Ext.sc0 (Ext.sc0 (Ext.sc0 (Ext.sc0 (Ext.sc1 (seg_ext _ _ _ _))))))
    · have HF := Lib.hid (It.segS_full HS.out)
      go_wp2
      refine bodyPost_ret (v := .tuple #[.agg #[.string p0, .string p1, .string p2, .string p3, .string p4], .int .i64 (0 : Nat), .bool false]) (by simp [results, Tryz.results118, go_sem]) rfl ⟨⟨p0, p1, p2, p3, p4, 0, false, rfl, HF.out⟩, ?_⟩
      with_reducible exact Ext.sc0 (Ext.sc0 (Ext.sc0 (Ext.sc0 (Ext.sc0 (seg_ext _ _ _ _)))))

set_option maxRecDepth 100000 in
set_option maxHeartbeats 3200000 in
theorem cvalid_any (s : ByteArray) (w : World) (hs : s.size ≤ 9223372036854775807) (hg : Gm w) :
    Calls Tryz.prog 89 #[.string s] w fun e w' => e = .returned (.bool (It.codeC s)) ∧ Ext w w' := by
  have HG := Lib.hid hg
  clear hg
  by_cases hbig : 24 < s.size
  · have HF : Hid (It.codeC s = false) := Lib.hid (by unfold It.codeC; rw [decide_eq_false (by omega)]; rfl)
    have hb' : (24 : Int) < (s.size : Int) := by omega
    go_enter Tryz.func89, Tryz.ntmps89
    go_wp2
    go_ret
    exact ⟨ret_bool HF.out.symm, Ext.refl _⟩
  · have hb' : ¬ (24 : Int) < (s.size : Int) := by omega
    have HV : Hid (It.codeC s = (decide ((It.cuts s.data.toList).length ≤ 5) && (It.cuts s.data.toList).all It.segL)) := Lib.hid (by unfold It.codeC; rw [decide_eq_true (by omega), Bool.true_and])
    go_enter Tryz.func89, Tryz.ntmps89
    go_wp2_with fail
    refine (segments_any s w (by omega) HG.out).mono ?_
    rintro e w1 ⟨⟨p0, p1, p2, p3, p4, n, ok, rfl, hr⟩, hb1⟩
    obtain ⟨hc1, hf1⟩ := hb1.cells
    have x1 := Lib.hid hb1
    clear hb1
    cases ok with
    | false =>
      have HF : Hid (It.codeC s = false) := Lib.hid (by rw [HV.out, ← hr.1]; rfl)
      clear hr
      go_wp2
      go_ret
      exact ⟨ret_bool HF.out.symm, x1.out.alloc _⟩
    | true =>
      have HF : Hid (It.codeC s = ([p0, p1, p2, p3, p4].take n).all It.seg) := Lib.hid (by rw [HV.out]; exact It.seg_all hr)
      have hn5 : n ≤ 5 := (hr.2 rfl).2.1
      have HLEN : Hid (∀ p ∈ [p0, p1, p2, p3, p4].take n, p.size ≤ s.size) := Lib.hid fun p hp => by
        rw [← (hr.2 rfl).2.2] at hp
        obtain ⟨x, hx, rfl⟩ := List.mem_map.1 hp
        exact It.cuts_len _ x hx
      clear hr
      have n0 : (0 : Int) ≤ (n : Int) := by omega
      have n1 : (n : Int) ≤ 5 := by omega
      go_wp2
      have hlist : ∀ k, k < 5 → ∃ p, [p0, p1, p2, p3, p4][k]? = some p ∧ (w1.alloc (.cells #[.string p0, .string p1, .string p2, .string p3, .string p4] 151)).cell? ⟨w1.heap.size, k, none⟩ = some (.string p) := fun k hk => by
        rcases (show k = 0 ∨ k = 1 ∨ k = 2 ∨ k = 3 ∨ k = 4 by omega) with rfl | rfl | rfl | rfl | rfl
        · exact ⟨p0, rfl, by rw [World.cell?_alloc_new]; rfl⟩
        · exact ⟨p1, rfl, by rw [World.cell?_alloc_new]; rfl⟩
        · exact ⟨p2, rfl, by rw [World.cell?_alloc_new]; rfl⟩
        · exact ⟨p3, rfl, by rw [World.cell?_alloc_new]; rfl⟩
        · exact ⟨p4, rfl, by rw [World.cell?_alloc_new]; rfl⟩
      have HL := Lib.hid hlist
      clear hlist
      obtain ⟨W0, hW0⟩ : ∃ W0, W0 = w1.alloc (.cells #[.string p0, .string p1, .string p2, .string p3, .string p4] 151) := ⟨_, rfl⟩
      rw [← hW0] at HL ⊢
      have x2 : Hid (Ext w W0) := Lib.hid (by rw [hW0]; exact x1.out.alloc _)
      clear hW0 hc1 hf1
      go_loop [22] (fun i => ∃ k : Nat, k ≤ n ∧ i = .int .i64 k ∧ Hid (([p0, p1, p2, p3, p4].take k).all It.seg = true)) (fun i => n - (intOf i).toNat)
      case atStart => exact ⟨0, by omega, rfl, Lib.hid rfl⟩
      case round =>
        obtain ⟨k, hk, rfl, HA⟩ := hrel
        by_cases hlt : k < n
        · obtain ⟨p, hp, hc⟩ := HL.out k (by omega)
          have HP := Lib.hid hp
          clear hp
          obtain ⟨q, hq⟩ : ∃ q, It.seg p = q := ⟨_, rfl⟩
          have HQ := Lib.hid hq
          clear hq
          have ki0 : (0 : Int) ≤ (k : Int) := by omega
          have ki1 : (k : Int) < (n : Int) := by omega
          have hps : p.size ≤ 9223372036854775807 := Nat.le_trans (HLEN.out p (List.mem_of_getElem? (i := k) (by rw [List.getElem?_take_of_lt hlt]; exact HP.out))) hs
          cases q with
          | false =>
            have HF2 : Hid (It.codeC s = false) := Lib.hid (by rw [HF.out]; exact It.all_take HP.out hlt HQ.out)
            go_wp2_with (go_at_call 119; refine (validSegment_any p _ hps).mono ?_; rintro e w' ⟨rfl, rfl⟩; rw [HQ.out])
            go_ret
            exact ⟨ret_bool HF2.out.symm, x2.out⟩
          | true =>
            have HN := Lib.hid (It.all_next HP.out HA.out HQ.out)
            go_wp2_with (go_at_call 119; refine (validSegment_any p _ hps).mono ?_; rintro e w' ⟨rfl, rfl⟩; rw [HQ.out])
            go_round
            case rel => exact ⟨k + 1, by omega, by go_num, HN⟩
            case measure => simp [intOf]; omega
        · obtain rfl : k = n := by omega
          have HF2 : Hid (It.codeC s = true) := Lib.hid (by rw [HF.out]; exact HA.out)
          go_wp2
          go_ret
          exact ⟨ret_bool HF2.out.symm, x2.out⟩

end Go.Proofs.YtfnmgcblhebdbaaGreatDoor
