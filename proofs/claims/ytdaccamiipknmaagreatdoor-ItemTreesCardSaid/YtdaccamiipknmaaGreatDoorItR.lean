/- isTree: the form of an item's tree: a contract. Conditions: those of each theorem. -/
import Derived.Test.YtdaccamiipknmaaGreatDoorItQ
import Derived.Test.YtdaccamiipknmaaGreatDoorItP
namespace Go.Proofs.YtdaccamiipknmaaGreatDoor
open Go.RowKit

def fldOk : Nat → Nd → Bool
  | 0, x => isNd x 1 1
  | 1, x => isNd x 2 1
  | 2, x => isNd x 3 1
  | 3, x => isNd x 4 2
  | 4, x => isLst x 5 2
  | 5, x => isLst x 6 1
  | 6, x => isNd x 7 1
  | 7, x => isNd x 8 1
  | 8, x => isLst x 9 2
  | 9, x => isNd x 10 1
  | 10, x => isNd x 11 2
  | 11, x => isNd x 12 1
  | 12, x => isNd x 13 1
  | 13, x => isNd x 14 1
  | 14, x => isNd x 15 1
  | 15, x => isLst x 16 1
  | 16, x => isNd x 17 1
  | _, _ => false
/-- A node has the form of the tree of an item. -/
def isTr (x : Nd) : Bool := isNd x 14 3 && (decide (x.kids.length = 17) && It.allN (fun i => fldOk i (x.kids.getD i default)) 17)
theorem isList_v1 (B : Nat) (d : Nat) (x : Nd) (M : Option Addr × Nat) (tag : Int) {v : Bool} (hv : isLst x tag 1 = v) (w : World) (hK : KidsAt B 0 (d + 1) w M x.kids) (hz : SzOk 1 x) :
    Calls Tryz.prog 67 #[.agg #[.int .i64 x.tag, .int .i64 x.kind, .int .i64 x.n, .string x.s, .slice M.1 x.kids.length M.2], .int .i64 tag, .int .i64 1] w fun e w' => e = .returned (.bool v) ∧ Ext w w' := by
  subst hv; exact isList_1 B d x M tag w hK hz
theorem isList_v2 (B : Nat) (d : Nat) (x : Nd) (M : Option Addr × Nat) (tag : Int) {v : Bool} (hv : isLst x tag 2 = v) (w : World) (hK : KidsAt B 0 (d + 1) w M x.kids) (hz : SzOk 1 x) :
    Calls Tryz.prog 67 #[.agg #[.int .i64 x.tag, .int .i64 x.kind, .int .i64 x.n, .string x.s, .slice M.1 x.kids.length M.2], .int .i64 tag, .int .i64 2] w fun e w' => e = .returned (.bool v) ∧ Ext w w' := by
  subst hv; exact isList_2 B d x M tag w hK hz
set_option maxRecDepth 100000 in
set_option maxHeartbeats 12800000 in
theorem isTree_any (B d : Nat) (x : Nd) (M : Option Addr × Nat) (w : World) (hK : KidsAt B 0 (d + 2) w M x.kids) (hz : SzOk 2 x) :
    Calls Tryz.prog 41 #[nda x M] w fun e w' => e = .returned (.bool (isTr x)) ∧ Ext w w' := by
  have HZ := Lib.hid hz
  have hs := hz.top.1
  have hl := hz.top.2
  have HK := Lib.hid hK
  clear hz hK
  obtain ⟨v, hv⟩ : ∃ v, isTr x = v := ⟨_, rfl⟩
  rw [hv]
  have HV : Hid (isTr x = v) := Lib.hid hv
  clear hv
  obtain ⟨q1, hq1⟩ : ∃ q, isNd x 14 3 = q := ⟨_, rfl⟩
  have HQ1 := Lib.hid hq1
  clear hq1
  obtain ⟨A, c⟩ := M
  unfold nda
  dsimp only
  go_enter Tryz.func41, Tryz.ntmps41
  go_wp2_with fail
  refine (isNode_v3 x (A, c) 14 HQ1.out _ hs hl).mono ?_
  rintro e w1 ⟨rfl, hb1⟩
  obtain ⟨⟨b0, b1, b2, b3, b4⟩, hfr, hlt0⟩ := block5 hb1
  have X1 : Hid (Ext w w1) := Lib.hid (((Ext.refl w).alloc _).trans hb1)
  clear hfr hb1
  cases q1 with
  | false =>
    have HF : Hid (v = false) := Lib.hid (by rw [← HV.out]; unfold isTr; rw [HQ1.out]; rfl)
    go_wp2
    go_ret
    exact ⟨ret_bool HF.out.symm, X1.out⟩
  | true =>
  by_cases h17 : x.kids.length = 17
  case neg =>
    have HF : Hid (v = false) := Lib.hid (by rw [← HV.out]; unfold isTr; rw [decide_eq_false h17]; simp)
    have e17 : ((x.kids.length : Int) != 17) = true := by rw [bne_iff_ne]; omega
    clear h17
    go_wp2
    go_ret
    exact ⟨ret_bool HF.out.symm, X1.out⟩
  have HV2 : Hid (It.allN (fun i => fldOk i (x.kids.getD i default)) 17 = v) := Lib.hid (by rw [← HV.out]; unfold isTr; rw [HQ1.out, decide_eq_true h17]; rfl)
  have e17 : ((x.kids.length : Int) != 17) = false := by rw [h17]; rfl
  have H17 := Lib.hid h17
  have hn1 : x.kids.length ≤ 17 := by omega
  have hn2 : 17 ≤ x.kids.length := by omega
  clear h17
  go_wp2
  go_loopw [18] (fun i wr => ∃ k : Nat, k ≤ x.kids.length ∧ i = .int .i64 k ∧ Hid (It.allN (fun i => fldOk i (x.kids.getD i default)) k = true) ∧ Ext w1 wr) (fun i _ => x.kids.length - (intOf i).toNat)
  case atStart => exact ⟨0, by omega, rfl, Lib.hid rfl, Ext.refl _⟩
  case round =>
    obtain ⟨k, hk, rfl, HA, he⟩ := hrel
    have hew : Hid (Ext w wr) := Lib.hid (X1.out.trans he)
    by_cases hlt : k < x.kids.length
    · have hlt17 : k < 17 := by omega
      obtain ⟨y, hy⟩ : ∃ y, x.kids[k]? = some y := ⟨x.kids[k], List.getElem?_eq_getElem hlt⟩
      obtain ⟨b, off, N, hA, hb, c0, c1, c2, c3, c4, hKN⟩ := (HK.out.ext hew.out).at_ hy
      dsimp only at hA
      subst hA
      have HKN := Lib.hid hKN
      have hyz : SzOk 1 y := HZ.out.2 y (List.mem_of_getElem? hy)
      have HYZ := Lib.hid hyz
      have hys : y.s.size ≤ 140737488351232 := hyz.1.1
      have hyl : y.kids.length ≤ 140737488351232 := hyz.1.2
      have hyd : x.kids.getD k default = y := by rw [List.getD_eq_getElem?_getD, hy]; rfl
      obtain ⟨q, hq⟩ : ∃ q, fldOk k y = q := ⟨_, rfl⟩
      have HQ := Lib.hid hq
      have HE : Hid (q = false → v = false) := Lib.hid fun g => by rw [← HV2.out]; exact It.allN_no hlt17 (by show fldOk k (x.kids.getD k default) = false; rw [hyd, hq, g])
      have HN : Hid (q = true → It.allN (fun i => fldOk i (x.kids.getD i default)) (k + 1) = true) := Lib.hid fun g => It.allN_next HA.out (by show fldOk k (x.kids.getD k default) = true; rw [hyd, hq, g])
      clear hy hKN hyz hyd hq
      rcases (show k = 0 ∨ k = 1 ∨ k = 2 ∨ k = 3 ∨ k = 4 ∨ k = 5 ∨ k = 6 ∨ k = 7 ∨ k = 8 ∨ k = 9 ∨ k = 10 ∨ k = 11 ∨ k = 12 ∨ k = 13 ∨ k = 14 ∨ k = 15 ∨ k = 16 by omega) with rfl | rfl | rfl | rfl | rfl | rfl | rfl | rfl | rfl | rfl | rfl | rfl | rfl | rfl | rfl | rfl | rfl
      · have d0 : wr.cell? ⟨b, off, none⟩ = some (.int .i64 y.tag) := c0
        have d1 : wr.cell? ⟨b, off + 1, none⟩ = some (.int .i64 y.kind) := c1
        have d2 : wr.cell? ⟨b, off + 2, none⟩ = some (.int .i64 y.n) := c2
        have d3 : wr.cell? ⟨b, off + 3, none⟩ = some (.string y.s) := c3
        have d4 : wr.cell? ⟨b, off + 4, none⟩ = some (.slice N.1 y.kids.length N.2) := c4
        clear c0 c1 c2 c3 c4
        have ki1 : (0 : Int) < (x.kids.length : Int) := by omega
        have HQ2 : Hid (isNd y 1 1 = q) := Lib.hid HQ.out
        cases q with
        | false =>
          have HF := Lib.hid (HE.out rfl)
          go_wp2_with fail
          refine (isNode_v1 y N 1 HQ2.out _ hys hyl).mono ?_
          rintro e w2 ⟨rfl, hb2⟩
          have X2 : Hid (Ext w w2) := Lib.hid ((hew.out.alloc _).trans hb2)
          clear hb2
          go_wp2
          go_ret
          exact ⟨ret_bool HF.out.symm, X2.out⟩
        | true =>
          have HM := Lib.hid (HN.out rfl)
          go_wp2_with fail
          refine (isNode_v1 y N 1 HQ2.out _ hys hyl).mono ?_
          rintro e w2 ⟨rfl, hb2⟩
          have X2 := Lib.hid ((he.alloc _).trans hb2)
          clear hb2
          go_wp2
          go_roundw
          case rel => exact ⟨0 + 1, by omega, by go_num, HM, X2.out⟩
          case measure => simp [intOf]; omega
      · have d0 : wr.cell? ⟨b, off + 5, none⟩ = some (.int .i64 y.tag) := c0
        have d1 : wr.cell? ⟨b, off + 6, none⟩ = some (.int .i64 y.kind) := c1
        have d2 : wr.cell? ⟨b, off + 7, none⟩ = some (.int .i64 y.n) := c2
        have d3 : wr.cell? ⟨b, off + 8, none⟩ = some (.string y.s) := c3
        have d4 : wr.cell? ⟨b, off + 9, none⟩ = some (.slice N.1 y.kids.length N.2) := c4
        clear c0 c1 c2 c3 c4
        have ki1 : (1 : Int) < (x.kids.length : Int) := by omega
        have HQ2 : Hid (isNd y 2 1 = q) := Lib.hid HQ.out
        cases q with
        | false =>
          have HF := Lib.hid (HE.out rfl)
          go_wp2_with fail
          refine (isNode_v1 y N 2 HQ2.out _ hys hyl).mono ?_
          rintro e w2 ⟨rfl, hb2⟩
          have X2 : Hid (Ext w w2) := Lib.hid ((hew.out.alloc _).trans hb2)
          clear hb2
          go_wp2
          go_ret
          exact ⟨ret_bool HF.out.symm, X2.out⟩
        | true =>
          have HM := Lib.hid (HN.out rfl)
          go_wp2_with fail
          refine (isNode_v1 y N 2 HQ2.out _ hys hyl).mono ?_
          rintro e w2 ⟨rfl, hb2⟩
          have X2 := Lib.hid ((he.alloc _).trans hb2)
          clear hb2
          go_wp2
          go_roundw
          case rel => exact ⟨1 + 1, by omega, by go_num, HM, X2.out⟩
          case measure => simp [intOf]; omega
      · have d0 : wr.cell? ⟨b, off + 10, none⟩ = some (.int .i64 y.tag) := c0
        have d1 : wr.cell? ⟨b, off + 11, none⟩ = some (.int .i64 y.kind) := c1
        have d2 : wr.cell? ⟨b, off + 12, none⟩ = some (.int .i64 y.n) := c2
        have d3 : wr.cell? ⟨b, off + 13, none⟩ = some (.string y.s) := c3
        have d4 : wr.cell? ⟨b, off + 14, none⟩ = some (.slice N.1 y.kids.length N.2) := c4
        clear c0 c1 c2 c3 c4
        have ki1 : (2 : Int) < (x.kids.length : Int) := by omega
        have HQ2 : Hid (isNd y 3 1 = q) := Lib.hid HQ.out
        cases q with
        | false =>
          have HF := Lib.hid (HE.out rfl)
          go_wp2_with fail
          refine (isNode_v1 y N 3 HQ2.out _ hys hyl).mono ?_
          rintro e w2 ⟨rfl, hb2⟩
          have X2 : Hid (Ext w w2) := Lib.hid ((hew.out.alloc _).trans hb2)
          clear hb2
          go_wp2
          go_ret
          exact ⟨ret_bool HF.out.symm, X2.out⟩
        | true =>
          have HM := Lib.hid (HN.out rfl)
          go_wp2_with fail
          refine (isNode_v1 y N 3 HQ2.out _ hys hyl).mono ?_
          rintro e w2 ⟨rfl, hb2⟩
          have X2 := Lib.hid ((he.alloc _).trans hb2)
          clear hb2
          go_wp2
          go_roundw
          case rel => exact ⟨2 + 1, by omega, by go_num, HM, X2.out⟩
          case measure => simp [intOf]; omega
      · have d0 : wr.cell? ⟨b, off + 15, none⟩ = some (.int .i64 y.tag) := c0
        have d1 : wr.cell? ⟨b, off + 16, none⟩ = some (.int .i64 y.kind) := c1
        have d2 : wr.cell? ⟨b, off + 17, none⟩ = some (.int .i64 y.n) := c2
        have d3 : wr.cell? ⟨b, off + 18, none⟩ = some (.string y.s) := c3
        have d4 : wr.cell? ⟨b, off + 19, none⟩ = some (.slice N.1 y.kids.length N.2) := c4
        clear c0 c1 c2 c3 c4
        have ki1 : (3 : Int) < (x.kids.length : Int) := by omega
        have HQ2 : Hid (isNd y 4 2 = q) := Lib.hid HQ.out
        cases q with
        | false =>
          have HF := Lib.hid (HE.out rfl)
          go_wp2_with fail
          refine (isNode_v2 y N 4 HQ2.out _ hys hyl).mono ?_
          rintro e w2 ⟨rfl, hb2⟩
          have X2 : Hid (Ext w w2) := Lib.hid ((hew.out.alloc _).trans hb2)
          clear hb2
          go_wp2
          go_ret
          exact ⟨ret_bool HF.out.symm, X2.out⟩
        | true =>
          have HM := Lib.hid (HN.out rfl)
          go_wp2_with fail
          refine (isNode_v2 y N 4 HQ2.out _ hys hyl).mono ?_
          rintro e w2 ⟨rfl, hb2⟩
          have X2 := Lib.hid ((he.alloc _).trans hb2)
          clear hb2
          go_wp2
          go_roundw
          case rel => exact ⟨3 + 1, by omega, by go_num, HM, X2.out⟩
          case measure => simp [intOf]; omega
      · have d0 : wr.cell? ⟨b, off + 20, none⟩ = some (.int .i64 y.tag) := c0
        have d1 : wr.cell? ⟨b, off + 21, none⟩ = some (.int .i64 y.kind) := c1
        have d2 : wr.cell? ⟨b, off + 22, none⟩ = some (.int .i64 y.n) := c2
        have d3 : wr.cell? ⟨b, off + 23, none⟩ = some (.string y.s) := c3
        have d4 : wr.cell? ⟨b, off + 24, none⟩ = some (.slice N.1 y.kids.length N.2) := c4
        clear c0 c1 c2 c3 c4
        have ki1 : (4 : Int) < (x.kids.length : Int) := by omega
        have HQ2 : Hid (isLst y 5 2 = q) := Lib.hid HQ.out
        cases q with
        | false =>
          have HF := Lib.hid (HE.out rfl)
          go_wp2_with fail
          refine (isList_v2 B d y N 5 HQ2.out _ (HKN.out.ext ((Ext.refl _).alloc _)) HYZ.out).mono ?_
          rintro e w2 ⟨rfl, hb2⟩
          have X2 : Hid (Ext w w2) := Lib.hid ((hew.out.alloc _).trans hb2)
          clear hb2
          go_wp2
          go_ret
          exact ⟨ret_bool HF.out.symm, X2.out⟩
        | true =>
          have HM := Lib.hid (HN.out rfl)
          go_wp2_with fail
          refine (isList_v2 B d y N 5 HQ2.out _ (HKN.out.ext ((Ext.refl _).alloc _)) HYZ.out).mono ?_
          rintro e w2 ⟨rfl, hb2⟩
          have X2 := Lib.hid ((he.alloc _).trans hb2)
          clear hb2
          go_wp2
          go_roundw
          case rel => exact ⟨4 + 1, by omega, by go_num, HM, X2.out⟩
          case measure => simp [intOf]; omega
      · have d0 : wr.cell? ⟨b, off + 25, none⟩ = some (.int .i64 y.tag) := c0
        have d1 : wr.cell? ⟨b, off + 26, none⟩ = some (.int .i64 y.kind) := c1
        have d2 : wr.cell? ⟨b, off + 27, none⟩ = some (.int .i64 y.n) := c2
        have d3 : wr.cell? ⟨b, off + 28, none⟩ = some (.string y.s) := c3
        have d4 : wr.cell? ⟨b, off + 29, none⟩ = some (.slice N.1 y.kids.length N.2) := c4
        clear c0 c1 c2 c3 c4
        have ki1 : (5 : Int) < (x.kids.length : Int) := by omega
        have HQ2 : Hid (isLst y 6 1 = q) := Lib.hid HQ.out
        cases q with
        | false =>
          have HF := Lib.hid (HE.out rfl)
          go_wp2_with fail
          refine (isList_v1 B d y N 6 HQ2.out _ (HKN.out.ext ((Ext.refl _).alloc _)) HYZ.out).mono ?_
          rintro e w2 ⟨rfl, hb2⟩
          have X2 : Hid (Ext w w2) := Lib.hid ((hew.out.alloc _).trans hb2)
          clear hb2
          go_wp2
          go_ret
          exact ⟨ret_bool HF.out.symm, X2.out⟩
        | true =>
          have HM := Lib.hid (HN.out rfl)
          go_wp2_with fail
          refine (isList_v1 B d y N 6 HQ2.out _ (HKN.out.ext ((Ext.refl _).alloc _)) HYZ.out).mono ?_
          rintro e w2 ⟨rfl, hb2⟩
          have X2 := Lib.hid ((he.alloc _).trans hb2)
          clear hb2
          go_wp2
          go_roundw
          case rel => exact ⟨5 + 1, by omega, by go_num, HM, X2.out⟩
          case measure => simp [intOf]; omega
      · have d0 : wr.cell? ⟨b, off + 30, none⟩ = some (.int .i64 y.tag) := c0
        have d1 : wr.cell? ⟨b, off + 31, none⟩ = some (.int .i64 y.kind) := c1
        have d2 : wr.cell? ⟨b, off + 32, none⟩ = some (.int .i64 y.n) := c2
        have d3 : wr.cell? ⟨b, off + 33, none⟩ = some (.string y.s) := c3
        have d4 : wr.cell? ⟨b, off + 34, none⟩ = some (.slice N.1 y.kids.length N.2) := c4
        clear c0 c1 c2 c3 c4
        have ki1 : (6 : Int) < (x.kids.length : Int) := by omega
        have HQ2 : Hid (isNd y 7 1 = q) := Lib.hid HQ.out
        cases q with
        | false =>
          have HF := Lib.hid (HE.out rfl)
          go_wp2_with fail
          refine (isNode_v1 y N 7 HQ2.out _ hys hyl).mono ?_
          rintro e w2 ⟨rfl, hb2⟩
          have X2 : Hid (Ext w w2) := Lib.hid ((hew.out.alloc _).trans hb2)
          clear hb2
          go_wp2
          go_ret
          exact ⟨ret_bool HF.out.symm, X2.out⟩
        | true =>
          have HM := Lib.hid (HN.out rfl)
          go_wp2_with fail
          refine (isNode_v1 y N 7 HQ2.out _ hys hyl).mono ?_
          rintro e w2 ⟨rfl, hb2⟩
          have X2 := Lib.hid ((he.alloc _).trans hb2)
          clear hb2
          go_wp2
          go_roundw
          case rel => exact ⟨6 + 1, by omega, by go_num, HM, X2.out⟩
          case measure => simp [intOf]; omega
      · have d0 : wr.cell? ⟨b, off + 35, none⟩ = some (.int .i64 y.tag) := c0
        have d1 : wr.cell? ⟨b, off + 36, none⟩ = some (.int .i64 y.kind) := c1
        have d2 : wr.cell? ⟨b, off + 37, none⟩ = some (.int .i64 y.n) := c2
        have d3 : wr.cell? ⟨b, off + 38, none⟩ = some (.string y.s) := c3
        have d4 : wr.cell? ⟨b, off + 39, none⟩ = some (.slice N.1 y.kids.length N.2) := c4
        clear c0 c1 c2 c3 c4
        have ki1 : (7 : Int) < (x.kids.length : Int) := by omega
        have HQ2 : Hid (isNd y 8 1 = q) := Lib.hid HQ.out
        cases q with
        | false =>
          have HF := Lib.hid (HE.out rfl)
          go_wp2_with fail
          refine (isNode_v1 y N 8 HQ2.out _ hys hyl).mono ?_
          rintro e w2 ⟨rfl, hb2⟩
          have X2 : Hid (Ext w w2) := Lib.hid ((hew.out.alloc _).trans hb2)
          clear hb2
          go_wp2
          go_ret
          exact ⟨ret_bool HF.out.symm, X2.out⟩
        | true =>
          have HM := Lib.hid (HN.out rfl)
          go_wp2_with fail
          refine (isNode_v1 y N 8 HQ2.out _ hys hyl).mono ?_
          rintro e w2 ⟨rfl, hb2⟩
          have X2 := Lib.hid ((he.alloc _).trans hb2)
          clear hb2
          go_wp2
          go_roundw
          case rel => exact ⟨7 + 1, by omega, by go_num, HM, X2.out⟩
          case measure => simp [intOf]; omega
      · have d0 : wr.cell? ⟨b, off + 40, none⟩ = some (.int .i64 y.tag) := c0
        have d1 : wr.cell? ⟨b, off + 41, none⟩ = some (.int .i64 y.kind) := c1
        have d2 : wr.cell? ⟨b, off + 42, none⟩ = some (.int .i64 y.n) := c2
        have d3 : wr.cell? ⟨b, off + 43, none⟩ = some (.string y.s) := c3
        have d4 : wr.cell? ⟨b, off + 44, none⟩ = some (.slice N.1 y.kids.length N.2) := c4
        clear c0 c1 c2 c3 c4
        have ki1 : (8 : Int) < (x.kids.length : Int) := by omega
        have HQ2 : Hid (isLst y 9 2 = q) := Lib.hid HQ.out
        cases q with
        | false =>
          have HF := Lib.hid (HE.out rfl)
          go_wp2_with fail
          refine (isList_v2 B d y N 9 HQ2.out _ (HKN.out.ext ((Ext.refl _).alloc _)) HYZ.out).mono ?_
          rintro e w2 ⟨rfl, hb2⟩
          have X2 : Hid (Ext w w2) := Lib.hid ((hew.out.alloc _).trans hb2)
          clear hb2
          go_wp2
          go_ret
          exact ⟨ret_bool HF.out.symm, X2.out⟩
        | true =>
          have HM := Lib.hid (HN.out rfl)
          go_wp2_with fail
          refine (isList_v2 B d y N 9 HQ2.out _ (HKN.out.ext ((Ext.refl _).alloc _)) HYZ.out).mono ?_
          rintro e w2 ⟨rfl, hb2⟩
          have X2 := Lib.hid ((he.alloc _).trans hb2)
          clear hb2
          go_wp2
          go_roundw
          case rel => exact ⟨8 + 1, by omega, by go_num, HM, X2.out⟩
          case measure => simp [intOf]; omega
      · have d0 : wr.cell? ⟨b, off + 45, none⟩ = some (.int .i64 y.tag) := c0
        have d1 : wr.cell? ⟨b, off + 46, none⟩ = some (.int .i64 y.kind) := c1
        have d2 : wr.cell? ⟨b, off + 47, none⟩ = some (.int .i64 y.n) := c2
        have d3 : wr.cell? ⟨b, off + 48, none⟩ = some (.string y.s) := c3
        have d4 : wr.cell? ⟨b, off + 49, none⟩ = some (.slice N.1 y.kids.length N.2) := c4
        clear c0 c1 c2 c3 c4
        have ki1 : (9 : Int) < (x.kids.length : Int) := by omega
        have HQ2 : Hid (isNd y 10 1 = q) := Lib.hid HQ.out
        cases q with
        | false =>
          have HF := Lib.hid (HE.out rfl)
          go_wp2_with fail
          refine (isNode_v1 y N 10 HQ2.out _ hys hyl).mono ?_
          rintro e w2 ⟨rfl, hb2⟩
          have X2 : Hid (Ext w w2) := Lib.hid ((hew.out.alloc _).trans hb2)
          clear hb2
          go_wp2
          go_ret
          exact ⟨ret_bool HF.out.symm, X2.out⟩
        | true =>
          have HM := Lib.hid (HN.out rfl)
          go_wp2_with fail
          refine (isNode_v1 y N 10 HQ2.out _ hys hyl).mono ?_
          rintro e w2 ⟨rfl, hb2⟩
          have X2 := Lib.hid ((he.alloc _).trans hb2)
          clear hb2
          go_wp2
          go_roundw
          case rel => exact ⟨9 + 1, by omega, by go_num, HM, X2.out⟩
          case measure => simp [intOf]; omega
      · have d0 : wr.cell? ⟨b, off + 50, none⟩ = some (.int .i64 y.tag) := c0
        have d1 : wr.cell? ⟨b, off + 51, none⟩ = some (.int .i64 y.kind) := c1
        have d2 : wr.cell? ⟨b, off + 52, none⟩ = some (.int .i64 y.n) := c2
        have d3 : wr.cell? ⟨b, off + 53, none⟩ = some (.string y.s) := c3
        have d4 : wr.cell? ⟨b, off + 54, none⟩ = some (.slice N.1 y.kids.length N.2) := c4
        clear c0 c1 c2 c3 c4
        have ki1 : (10 : Int) < (x.kids.length : Int) := by omega
        have HQ2 : Hid (isNd y 11 2 = q) := Lib.hid HQ.out
        cases q with
        | false =>
          have HF := Lib.hid (HE.out rfl)
          go_wp2_with fail
          refine (isNode_v2 y N 11 HQ2.out _ hys hyl).mono ?_
          rintro e w2 ⟨rfl, hb2⟩
          have X2 : Hid (Ext w w2) := Lib.hid ((hew.out.alloc _).trans hb2)
          clear hb2
          go_wp2
          go_ret
          exact ⟨ret_bool HF.out.symm, X2.out⟩
        | true =>
          have HM := Lib.hid (HN.out rfl)
          go_wp2_with fail
          refine (isNode_v2 y N 11 HQ2.out _ hys hyl).mono ?_
          rintro e w2 ⟨rfl, hb2⟩
          have X2 := Lib.hid ((he.alloc _).trans hb2)
          clear hb2
          go_wp2
          go_roundw
          case rel => exact ⟨10 + 1, by omega, by go_num, HM, X2.out⟩
          case measure => simp [intOf]; omega
      · have d0 : wr.cell? ⟨b, off + 55, none⟩ = some (.int .i64 y.tag) := c0
        have d1 : wr.cell? ⟨b, off + 56, none⟩ = some (.int .i64 y.kind) := c1
        have d2 : wr.cell? ⟨b, off + 57, none⟩ = some (.int .i64 y.n) := c2
        have d3 : wr.cell? ⟨b, off + 58, none⟩ = some (.string y.s) := c3
        have d4 : wr.cell? ⟨b, off + 59, none⟩ = some (.slice N.1 y.kids.length N.2) := c4
        clear c0 c1 c2 c3 c4
        have ki1 : (11 : Int) < (x.kids.length : Int) := by omega
        have HQ2 : Hid (isNd y 12 1 = q) := Lib.hid HQ.out
        cases q with
        | false =>
          have HF := Lib.hid (HE.out rfl)
          go_wp2_with fail
          refine (isNode_v1 y N 12 HQ2.out _ hys hyl).mono ?_
          rintro e w2 ⟨rfl, hb2⟩
          have X2 : Hid (Ext w w2) := Lib.hid ((hew.out.alloc _).trans hb2)
          clear hb2
          go_wp2
          go_ret
          exact ⟨ret_bool HF.out.symm, X2.out⟩
        | true =>
          have HM := Lib.hid (HN.out rfl)
          go_wp2_with fail
          refine (isNode_v1 y N 12 HQ2.out _ hys hyl).mono ?_
          rintro e w2 ⟨rfl, hb2⟩
          have X2 := Lib.hid ((he.alloc _).trans hb2)
          clear hb2
          go_wp2
          go_roundw
          case rel => exact ⟨11 + 1, by omega, by go_num, HM, X2.out⟩
          case measure => simp [intOf]; omega
      · have d0 : wr.cell? ⟨b, off + 60, none⟩ = some (.int .i64 y.tag) := c0
        have d1 : wr.cell? ⟨b, off + 61, none⟩ = some (.int .i64 y.kind) := c1
        have d2 : wr.cell? ⟨b, off + 62, none⟩ = some (.int .i64 y.n) := c2
        have d3 : wr.cell? ⟨b, off + 63, none⟩ = some (.string y.s) := c3
        have d4 : wr.cell? ⟨b, off + 64, none⟩ = some (.slice N.1 y.kids.length N.2) := c4
        clear c0 c1 c2 c3 c4
        have ki1 : (12 : Int) < (x.kids.length : Int) := by omega
        have HQ2 : Hid (isNd y 13 1 = q) := Lib.hid HQ.out
        cases q with
        | false =>
          have HF := Lib.hid (HE.out rfl)
          go_wp2_with fail
          refine (isNode_v1 y N 13 HQ2.out _ hys hyl).mono ?_
          rintro e w2 ⟨rfl, hb2⟩
          have X2 : Hid (Ext w w2) := Lib.hid ((hew.out.alloc _).trans hb2)
          clear hb2
          go_wp2
          go_ret
          exact ⟨ret_bool HF.out.symm, X2.out⟩
        | true =>
          have HM := Lib.hid (HN.out rfl)
          go_wp2_with fail
          refine (isNode_v1 y N 13 HQ2.out _ hys hyl).mono ?_
          rintro e w2 ⟨rfl, hb2⟩
          have X2 := Lib.hid ((he.alloc _).trans hb2)
          clear hb2
          go_wp2
          go_roundw
          case rel => exact ⟨12 + 1, by omega, by go_num, HM, X2.out⟩
          case measure => simp [intOf]; omega
      · have d0 : wr.cell? ⟨b, off + 65, none⟩ = some (.int .i64 y.tag) := c0
        have d1 : wr.cell? ⟨b, off + 66, none⟩ = some (.int .i64 y.kind) := c1
        have d2 : wr.cell? ⟨b, off + 67, none⟩ = some (.int .i64 y.n) := c2
        have d3 : wr.cell? ⟨b, off + 68, none⟩ = some (.string y.s) := c3
        have d4 : wr.cell? ⟨b, off + 69, none⟩ = some (.slice N.1 y.kids.length N.2) := c4
        clear c0 c1 c2 c3 c4
        have ki1 : (13 : Int) < (x.kids.length : Int) := by omega
        have HQ2 : Hid (isNd y 14 1 = q) := Lib.hid HQ.out
        cases q with
        | false =>
          have HF := Lib.hid (HE.out rfl)
          go_wp2_with fail
          refine (isNode_v1 y N 14 HQ2.out _ hys hyl).mono ?_
          rintro e w2 ⟨rfl, hb2⟩
          have X2 : Hid (Ext w w2) := Lib.hid ((hew.out.alloc _).trans hb2)
          clear hb2
          go_wp2
          go_ret
          exact ⟨ret_bool HF.out.symm, X2.out⟩
        | true =>
          have HM := Lib.hid (HN.out rfl)
          go_wp2_with fail
          refine (isNode_v1 y N 14 HQ2.out _ hys hyl).mono ?_
          rintro e w2 ⟨rfl, hb2⟩
          have X2 := Lib.hid ((he.alloc _).trans hb2)
          clear hb2
          go_wp2
          go_roundw
          case rel => exact ⟨13 + 1, by omega, by go_num, HM, X2.out⟩
          case measure => simp [intOf]; omega
      · have d0 : wr.cell? ⟨b, off + 70, none⟩ = some (.int .i64 y.tag) := c0
        have d1 : wr.cell? ⟨b, off + 71, none⟩ = some (.int .i64 y.kind) := c1
        have d2 : wr.cell? ⟨b, off + 72, none⟩ = some (.int .i64 y.n) := c2
        have d3 : wr.cell? ⟨b, off + 73, none⟩ = some (.string y.s) := c3
        have d4 : wr.cell? ⟨b, off + 74, none⟩ = some (.slice N.1 y.kids.length N.2) := c4
        clear c0 c1 c2 c3 c4
        have ki1 : (14 : Int) < (x.kids.length : Int) := by omega
        have HQ2 : Hid (isNd y 15 1 = q) := Lib.hid HQ.out
        cases q with
        | false =>
          have HF := Lib.hid (HE.out rfl)
          go_wp2_with fail
          refine (isNode_v1 y N 15 HQ2.out _ hys hyl).mono ?_
          rintro e w2 ⟨rfl, hb2⟩
          have X2 : Hid (Ext w w2) := Lib.hid ((hew.out.alloc _).trans hb2)
          clear hb2
          go_wp2
          go_ret
          exact ⟨ret_bool HF.out.symm, X2.out⟩
        | true =>
          have HM := Lib.hid (HN.out rfl)
          go_wp2_with fail
          refine (isNode_v1 y N 15 HQ2.out _ hys hyl).mono ?_
          rintro e w2 ⟨rfl, hb2⟩
          have X2 := Lib.hid ((he.alloc _).trans hb2)
          clear hb2
          go_wp2
          go_roundw
          case rel => exact ⟨14 + 1, by omega, by go_num, HM, X2.out⟩
          case measure => simp [intOf]; omega
      · have d0 : wr.cell? ⟨b, off + 75, none⟩ = some (.int .i64 y.tag) := c0
        have d1 : wr.cell? ⟨b, off + 76, none⟩ = some (.int .i64 y.kind) := c1
        have d2 : wr.cell? ⟨b, off + 77, none⟩ = some (.int .i64 y.n) := c2
        have d3 : wr.cell? ⟨b, off + 78, none⟩ = some (.string y.s) := c3
        have d4 : wr.cell? ⟨b, off + 79, none⟩ = some (.slice N.1 y.kids.length N.2) := c4
        clear c0 c1 c2 c3 c4
        have ki1 : (15 : Int) < (x.kids.length : Int) := by omega
        have HQ2 : Hid (isLst y 16 1 = q) := Lib.hid HQ.out
        cases q with
        | false =>
          have HF := Lib.hid (HE.out rfl)
          go_wp2_with fail
          refine (isList_v1 B d y N 16 HQ2.out _ (HKN.out.ext ((Ext.refl _).alloc _)) HYZ.out).mono ?_
          rintro e w2 ⟨rfl, hb2⟩
          have X2 : Hid (Ext w w2) := Lib.hid ((hew.out.alloc _).trans hb2)
          clear hb2
          go_wp2
          go_ret
          exact ⟨ret_bool HF.out.symm, X2.out⟩
        | true =>
          have HM := Lib.hid (HN.out rfl)
          go_wp2_with fail
          refine (isList_v1 B d y N 16 HQ2.out _ (HKN.out.ext ((Ext.refl _).alloc _)) HYZ.out).mono ?_
          rintro e w2 ⟨rfl, hb2⟩
          have X2 := Lib.hid ((he.alloc _).trans hb2)
          clear hb2
          go_wp2
          go_roundw
          case rel => exact ⟨15 + 1, by omega, by go_num, HM, X2.out⟩
          case measure => simp [intOf]; omega
      · have d0 : wr.cell? ⟨b, off + 80, none⟩ = some (.int .i64 y.tag) := c0
        have d1 : wr.cell? ⟨b, off + 81, none⟩ = some (.int .i64 y.kind) := c1
        have d2 : wr.cell? ⟨b, off + 82, none⟩ = some (.int .i64 y.n) := c2
        have d3 : wr.cell? ⟨b, off + 83, none⟩ = some (.string y.s) := c3
        have d4 : wr.cell? ⟨b, off + 84, none⟩ = some (.slice N.1 y.kids.length N.2) := c4
        clear c0 c1 c2 c3 c4
        have ki1 : (16 : Int) < (x.kids.length : Int) := by omega
        have HQ2 : Hid (isNd y 17 1 = q) := Lib.hid HQ.out
        cases q with
        | false =>
          have HF := Lib.hid (HE.out rfl)
          go_wp2_with fail
          refine (isNode_v1 y N 17 HQ2.out _ hys hyl).mono ?_
          rintro e w2 ⟨rfl, hb2⟩
          have X2 : Hid (Ext w w2) := Lib.hid ((hew.out.alloc _).trans hb2)
          clear hb2
          go_wp2
          go_ret
          exact ⟨ret_bool HF.out.symm, X2.out⟩
        | true =>
          have HM := Lib.hid (HN.out rfl)
          go_wp2_with fail
          refine (isNode_v1 y N 17 HQ2.out _ hys hyl).mono ?_
          rintro e w2 ⟨rfl, hb2⟩
          have X2 := Lib.hid ((he.alloc _).trans hb2)
          clear hb2
          go_wp2
          go_roundw
          case rel => exact ⟨16 + 1, by omega, by go_num, HM, X2.out⟩
          case measure => simp [intOf]; omega
    · have hk17 : k = 17 := by omega
      subst hk17
      have HF : Hid (v = true) := Lib.hid (by rw [← HV2.out]; exact HA.out)
      go_wp2
      go_ret
      exact ⟨ret_bool HF.out.symm, hew.out⟩
end Go.Proofs.YtdaccamiipknmaaGreatDoor
