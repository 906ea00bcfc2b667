/- The reference's copied, Pick and Essay, and adjudicate.Essay: contracts for the walk. Conditions: those of each theorem. -/
import Derived.Test.YthjledbomonfpaaAdjI
namespace Go.Proofs.Ythjledbomonfpaa
open Go.RowKit

theorem ints_snoc {xs : List Int} {k : Nat} {x : Int} (h : xs[k]? = some x) : (xs.take k).map (Value.int .i64) ++ [.int .i64 x] = (xs.take (k + 1)).map (Value.int .i64) := by
  rw [Rub.take_snoc h, List.map_append]; rfl

set_option maxHeartbeats 800000 in
theorem copied_any (X : Option Addr) (xc : Nat) (xs : List Int) (w : World) (h : (⟨X, xc, xs⟩ : IL).In w) (hbig : xs.length * 8 ≤ 140737488355328) :
    Calls Try.prog 46 #[.slice X xs.length xc] w (RetIL xs w) := by
  obtain ⟨hS, h1, h2, h3⟩ := h
  have HX := Lib.hid hS
  have H3 := Lib.hid h3
  have hl : xs.length ≤ maxLen := Nat.le_trans h1 h2
  unfold maxLen at hl
  clear hS h1 h2 h3
  obtain ⟨i0, hi0, hz0, hz1, hz2⟩ := info_parts Try.infoInt
  go_enter Try.func46, Try.ntmps46
  go_wp2
  go_loopw [8, 3] (fun i v wr => ∃ k : Nat, k ≤ xs.length ∧ i = .int .i64 k ∧ wr.ownsRow w.heap.size 3 1 v k ((xs.take k).map (Value.int .i64)) ∧ Ext w wr) (fun i _ _ => xs.length - (intOf i).toNat)
  case atStart => exact ⟨0, by omega, rfl, ⟨by simp, Or.inl ⟨rfl, rfl⟩⟩, Ext.refl _⟩
  case round =>
    obtain ⟨k, hk, rfl, hown, he⟩ := hrel
    have hszr := he.size
    by_cases hlt : k < xs.length
    · obtain ⟨b, off, x, rfl, hb, hx, cx⟩ := (HX.out.ext he).at_ (i := k) hlt
      have HSN := Lib.hid (ints_snoc hx)
      have hge := own_ge hown
      have HG := Lib.hid hge
      have HO := Lib.hid hown
      clear hx hge hown
      go_wp2_with (at_builtin; refine wpList_append_lies _ rfl _ _ 25 rfl w.heap.size 3 i0 (.int .i64 0) 1 8 Try.underlying25 hi0 hz0 hz1 hz2 rfl (by decide) _ _ _ rfl (HO.out.alloc _) ⟨wr.heap.size, 0, none⟩ 1 1 [.int .i64 x] rfl rfl (cell_one_new _ _ _) (by simp [Value.oneCell']) (by decide) (by unfold maxLen; omega) (by omega) (by simp; omega) (wr.heap.size + 1) (by simp) ?_; intro gg cap w2 hown2 hgrow2 hat2 hlt2)
      have HO2 := Lib.hid hown2
      have HE2 := Lib.hid ((he.alloc _).grown hgrow2 HG.out)
      clear hown2 hgrow2 hat2 hlt2
      go_wp2
      go_roundw
      case rel => exact ⟨k + 1, by omega, by go_num, by rw [← HSN.out]; exact HO2.out, HE2.out⟩
      case measure => simp [intOf]; omega
    · obtain rfl : k = xs.length := by omega
      rw [List.take_of_length_le (Nat.le_refl _)] at hown
      obtain ⟨R, rc, rfl, r1, r2, r3⟩ := SlI.of_own hown
      have HR := Lib.hid r3
      have HN := Lib.hid (isNew_own hown)
      clear hown r3
      go_wp2
      go_ret
      exact ⟨R, rc, rfl, ⟨HR.out, r1, r2, H3.out⟩, he, HN.out⟩

/-- What a round of the reference's Pick that takes a rating leaves. -/
theorem pick_step1 {w wr w1 w2 : World} {v v' : Value} {hh : Nat} {o1 : Obj} {ils : List IL} {y : IL}
    (he : Ext w wr) (e1 : Ext wr w1) (hg : ∀ q, v.ownBlock = some q → w.heap.size ≤ q) (h7 : ∀ q, v.ownBlock = some q → q < wr.heap.size)
    (hils : ∀ x ∈ ils, x.In wr ∧ Far none v.ownBlock x) (hy : y.In w1) (hnew : IsNew y.A wr)
    (hgr : (w1.alloc o1).grownBy w2 v.ownBlock) (hat : v.ownBlock = some hh ∨ hh = w1.heap.size + 1) (hv : v'.ownBlock = some hh) :
    (∀ x ∈ ils ++ [y], x.In w2 ∧ Far none v'.ownBlock x) ∧ Ext w w2 := by
  have s1 := e1.size
  have s2 := hgr.size
  simp only [World.size_alloc] at s2
  refine ⟨fun x hx => ?_, ((he.trans e1).alloc _).grown hgr hg⟩
  rw [hv]
  rcases List.mem_append.1 hx with hx | hx
  · obtain ⟨hin, hfar⟩ := hils x hx
    have hblk := hin.block
    have f7 : x.xs = [] ∨ ∃ a, x.A = some a ∧ some a.block ≠ v.ownBlock := by
      rcases hfar with g | ⟨a, g1, _, g3⟩
      · exact Or.inl g
      · exact Or.inr ⟨a, g1, g3⟩
    refine ⟨((hin.ext e1).ext ((Ext.refl _).alloc _)).grown hgr f7, ?_⟩
    rcases hfar with g | ⟨a, g1, g2, g3⟩
    · exact Or.inl g
    · rcases hblk with g | ⟨b, off, g4, g5⟩
      · exact Or.inl g
      · rw [g1] at g4
        injection g4 with g4
        subst g4
        refine Or.inr ⟨_, g1, by simp, fun e => ?_⟩
        injection e with e
        rcases hat with g | g
        · exact g3 (by rw [g, ← e])
        · simp only at e; omega
  · simp at hx
    subst hx
    have hblk := hy.block
    have fy : x.xs = [] ∨ ∃ a, x.A = some a ∧ some a.block ≠ v.ownBlock := by
      rcases hblk with g | ⟨b, off, g4, g5⟩
      · exact Or.inl g
      · refine Or.inr ⟨_, g4, fun e => ?_⟩
        have := h7 _ e.symm
        have := hnew _ g4
        simp only at *
        omega
    refine ⟨(hy.ext ((Ext.refl _).alloc _)).grown hgr fy, ?_⟩
    rcases hblk with g | ⟨b, off, g4, g5⟩
    · exact Or.inl g
    · have hn := hnew _ g4
      simp only at hn
      refine Or.inr ⟨_, g4, by simp, fun e => ?_⟩
      injection e with e
      simp only at e
      rcases hat with g | g
      · have := h7 hh g; omega
      · omega

/-- A rater that is met again. -/
theorem Adj.met {rs : List Adj.Rt} {it : Int} {k j : Nat} {q : Adj.Rt} {x : Int} (hj : j < k) (hq : rs[j]? = some q) (h1 : q.item = it) (h2 : q.rater = x) : x ∈ (Adj.own (rs.take k) it).map Adj.Rt.rater := by
  refine List.mem_map.2 ⟨q, ?_, h2⟩
  unfold Adj.own
  rw [List.mem_filter]
  refine ⟨List.mem_of_getElem? (i := j) ?_, by simpa using h1⟩
  rw [List.getElem?_take_of_lt hj]; exact hq
theorem Adj.unmet {rs : List Adj.Rt} {it : Int} {k : Nat} {x : Int} (h : ∀ j q, j < k → rs[j]? = some q → ¬ (q.item = it ∧ q.rater = x)) : x ∉ (Adj.own (rs.take k) it).map Adj.Rt.rater := by
  intro hx
  obtain ⟨q, hq, e⟩ := List.mem_map.1 hx
  unfold Adj.own at hq
  rw [List.mem_filter] at hq
  obtain ⟨j, hj⟩ := List.mem_iff_getElem?.1 hq.1
  rcases Nat.lt_or_ge j k with g | g
  · rw [List.getElem?_take_of_lt g] at hj
    exact h j q g hj ⟨by simpa using hq.2, e⟩
  · rw [List.getElem?_eq_none (by rw [List.length_take]; omega)] at hj; cases hj

set_option maxRecDepth 100000 in
set_option maxHeartbeats 3200000 in
theorem refPick_any (A : Option Addr) (c : Nat) (rs : List Adj.Rt) (it : Int) (w : World) (h : SlR w A rs) (hlen : rs.length ≤ maxLen) :
    Calls Try.prog 30 #[.slice A rs.length c, .int .i64 it] w (RetPick (Adj.pickL rs it) (Adj.pickE rs it) w) := by
  have H := Lib.hid h
  unfold maxLen at hlen
  clear h
  by_cases h300 : 300 < rs.length
  · have h300' : 300 < (rs.length : Int) := by omega
    have HE : Hid (Adj.pickE rs it = 5) := by show _ = _; unfold Adj.pickE; rw [if_pos h300]
    have HLL : Hid (Adj.pickL rs it = []) := by show _ = _; unfold Adj.pickL; rw [if_neg (by rw [HE.out]; decide)]
    go_enter Try.func30, Try.ntmps30
    go_wp2
    go_ret2
    exact ⟨none, 0, [], by rw [HE.out]; rfl, ⟨Or.inl rfl, fun x hx => by simp at hx⟩, by rw [HLL.out]; rfl, Nat.le_refl _, Nat.zero_le _, Ext.refl _⟩
  · have h300' : (rs.length : Int) ≤ 300 := by omega
    have hpe : Adj.pickE rs it = if ((Adj.own rs it).map Adj.Rt.rater).Nodup then 0 else 10 := by unfold Adj.pickE; rw [if_neg h300]
    have HPE := Lib.hid hpe
    clear h300 hpe
    obtain ⟨j0, hj0, hy0, hy1, hy2⟩ := info_parts Try.infoInts
    go_enter Try.func30, Try.ntmps30
    go_wp2
    go_loopw [15, 6] (fun i v6 wr => ∃ (k : Nat) (ils : List IL), k ≤ rs.length ∧ i = .int .i64 k ∧ ils.map IL.xs = (Adj.own (rs.take k) it).map (fun r => r.m.xs) ∧ ((Adj.own (rs.take k) it).map Adj.Rt.rater).Nodup ∧
        wr.ownsRow w.heap.size 25 1 v6 ils.length (ils.map IL.val) ∧ (∀ x ∈ ils, x.In wr ∧ Far none v6.ownBlock x) ∧ Ext w wr) (fun i _ _ => rs.length - (intOf i).toNat)
    case atStart => exact ⟨0, [], by omega, rfl, rfl, by simp [Adj.own], ⟨by simp, Or.inl ⟨rfl, rfl⟩⟩, fun x hx => by simp at hx, Ext.refl _⟩
    case round =>
      obtain ⟨k, ils, hk, rfl, hml, hnd, hown6, hils, he⟩ := hrel
      obtain ⟨wo, rfl⟩ : ∃ wo : World, wo = wr := ⟨_, rfl⟩
      have hszr := he.size
      have hol0 := Adj.own_take_len (rs := rs) (it := it) (k := k)
      by_cases hlt : k < rs.length
      · obtain ⟨r, ht⟩ : ∃ r, rs[k]? = some r := ⟨rs[k], List.getElem?_eq_getElem hlt⟩
        obtain ⟨b, off, rfl, hb, c0, c1, c2, hrin, hrbig⟩ := (H.out.ext he).at_ ht
        by_cases hit : r.item = it
        · have hit' : (r.item != it) = false := by rw [bne_eq_false_iff_eq]; exact hit
          have HSN := Lib.hid (Adj.own_snoc_yes ht hit)
          have HDUP := Lib.hid (Adj.own_dup ht hit)
          have HG6 := Lib.hid (own_ge hown6)
          have HLT6 := Lib.hid (own_lt hown6)
          have HND := Lib.hid hnd
          have HML := Lib.hid hml
          have HO6 := Lib.hid hown6
          have HILS := Lib.hid hils
          have HRIN := Lib.hid hrin
          have HLN : Hid (ils.length = (Adj.own (rs.take k) it).length) := by show _ = _; have := congrArg List.length hml; simpa using this
          have hil : ils.length ≤ 300 := by rw [HLN.out]; omega
          clear hml hnd hown6 hils ht hit hrin
          go_wp2_with fail
          have bx0 : (wo.alloc (.cells #[.int .i64 r.rater, .int .i64 r.item, .slice r.m.A r.m.xs.length r.m.c] 54)).cell? ⟨wo.heap.size, 0, none⟩ = some (.int .i64 r.rater) := by simp [go_sem]
          have bx2 : (wo.alloc (.cells #[.int .i64 r.rater, .int .i64 r.item, .slice r.m.A r.m.xs.length r.m.c] 54)).cell? ⟨wo.heap.size, 2, none⟩ = some (.slice r.m.A r.m.xs.length r.m.c) := by simp [go_sem]
          have ea : Ext wo (wo.alloc (.cells #[.int .i64 r.rater, .int .i64 r.item, .slice r.m.A r.m.xs.length r.m.c] 54)) := (Ext.refl _).alloc _
          generalize wo.alloc (.cells #[.int .i64 r.rater, .int .i64 r.item, .slice r.m.A r.m.xs.length r.m.c] 54) = W1 at *
          have BX0 := Lib.hid bx0
          have BX2 := Lib.hid bx2
          clear bx0 bx2 c0 c1 c2
          go_loopw [9] (fun i wx => ∃ j : Nat, j ≤ k ∧ i = .int .i64 j ∧ (∀ l q, l < j → rs[l]? = some q → ¬ (q.item = it ∧ q.rater = r.rater)) ∧ Ext W1 wx) (fun i _ => k - (intOf i).toNat)
          case atStart => exact ⟨0, by omega, rfl, fun l q hl => absurd hl (by omega), Ext.refl _⟩
          case round =>
            obtain ⟨j, hj, rfl, hno, hex⟩ := hrel
            have HNO := Lib.hid hno
            clear hno
            have bx0 := hex.keep BX0.out
            have bx2 := hex.keep BX2.out
            by_cases hjk : j < k
            · obtain ⟨q, hq⟩ : ∃ q, rs[j]? = some q := ⟨rs[j], List.getElem?_eq_getElem (by omega)⟩
              obtain ⟨b', off', hA', hb', d0, d1, d2, -, -⟩ := ((((H.out.ext he).ext ea).ext hex)).at_ hq
              injection hA' with hA'
              injection hA' with hA1 hA2
              subst hA1 hA2
              have hjr : (j : Int) < (rs.length : Int) := by omega
              have hj0' : (0 : Int) ≤ (j : Int) := by omega
              by_cases hqi : q.item = it
              · have hqi' : (q.item == it) = true := by rw [beq_iff_eq]; exact hqi
                by_cases hqr : q.rater = r.rater
                · have hqr' : (q.rater == r.rater) = true := by rw [beq_iff_eq]; exact hqr
                  have HM := Lib.hid (Adj.met (k := k) hjk hq hqi hqr)
                  clear hq hqi hqr
                  go_wp2_with fail
                  go_quiet (fail)
                  go_wp2
                  go_ret2
                  have hdup := HDUP.out HM.out
                  have e10 : Adj.pickE rs it = 10 := by rw [HPE.out, if_neg hdup]
                  have el : Adj.pickL rs it = [] := by unfold Adj.pickL; rw [if_neg (by rw [e10]; decide)]
                  exact ⟨none, 0, [], by rw [e10]; rfl, ⟨Or.inl rfl, fun x hx => by simp at hx⟩, by rw [el]; rfl, Nat.le_refl _, Nat.zero_le _, ((he.trans ea).trans hex).drewN _⟩
                · have hqr' : (q.rater == r.rater) = false := by rw [beq_eq_false_iff_ne]; exact hqr
                  have HQ := Lib.hid hq
                  have HQR := Lib.hid hqr
                  clear hq hqi hqr
                  go_wp2_with fail
                  go_quiet (fail)
                  go_wp2
                  go_roundw
                  case rel =>
                    refine ⟨j + 1, by omega, by go_num, fun l q' hl hq' hh => ?_, hex.drewN _⟩
                    rcases Nat.lt_or_ge l j with g | g
                    · exact HNO.out l q' g hq' hh
                    · obtain rfl : l = j := by omega
                      rw [HQ.out] at hq'
                      injection hq' with hq'
                      subst hq'
                      exact HQR.out hh.2
                  case measure => simp [intOf]; omega
              · have hqi' : (q.item == it) = false := by rw [beq_eq_false_iff_ne]; exact hqi
                have HQ := Lib.hid hq
                have HQI := Lib.hid hqi
                clear hq hqi
                go_wp2_with fail
                go_quiet (fail)
                go_wp2
                go_roundw
                case rel =>
                  refine ⟨j + 1, by omega, by go_num, fun l q' hl hq' hh => ?_, hex.drewN _⟩
                  rcases Nat.lt_or_ge l j with g | g
                  · exact HNO.out l q' g hq' hh
                  · obtain rfl : l = j := by omega
                    rw [HQ.out] at hq'
                    injection hq' with hq'
                    subst hq'
                    exact HQI.out hh.1
                case measure => simp [intOf]; omega
            · obtain rfl : j = k := by omega
              have HUN := Lib.hid (Adj.unmet HNO.out)
              have hez := (ea.trans hex).size
              go_wp2_with fail
              refine (copied_any r.m.A r.m.c r.m.xs _ (HRIN.out.ext (ea.trans hex)) hrbig).mono ?_
              rintro e w3 ⟨N, nc, rfl, hn, hb3, hnew⟩
              have HNN := Lib.hid hn
              have HNEW : Hid (IsNew N wo) := Lib.hid (fun a ha => Nat.le_trans hez (hnew a ha))
              have hsz3 := hb3.size
              have e3 := (ea.trans hex).trans hb3
              have o73 := Lib.hid (own_keep HO6.out e3)
              clear hn hnew bx0 bx2
              go_wp2_with (at_builtin; refine wpList_append_lies _ rfl _ _ 39 rfl w.heap.size 25 j0 (.slice none 0 0) 1 24 Try.underlying39 hj0 hy0 hy1 hy2 rfl (by decide) _ _ _ rfl (o73.out.alloc _) ⟨w3.heap.size, 0, none⟩ 1 1 [.slice N r.m.xs.length nc] rfl rfl (cell_one_new _ _ _) (by simp [Value.oneCell']) (by decide) (by unfold maxLen; omega) (by omega) (by simp; omega) (w3.heap.size + 1) (by simp) ?_; intro hh cap4 w4 hown4 hgrow4 hat4 hlt4)
              have HSTEP := Lib.hid (pick_step1 (y := ⟨N, nc, r.m.xs⟩) (v' := .slice (some ⟨hh, 0, none⟩) (ils.length + 1) cap4) he e3 HG6.out HLT6.out HILS.out HNN.out HNEW.out hgrow4 hat4 rfl)
              have HO4 := Lib.hid hown4
              clear hown4 hgrow4 hat4
              go_wp2
              go_roundw
              case rel =>
                obtain ⟨p2, p3⟩ := HSTEP.out
                refine ⟨j + 1, ils ++ [⟨N, nc, r.m.xs⟩], by omega, by go_num, ?_, ?_, ?_, p2, p3⟩
                · rw [HSN.out, List.map_append, List.map_append, HML.out]; rfl
                · rw [HSN.out, List.map_append]; exact Adj.nodup_snoc HND.out HUN.out
                · rw [List.map_append, List.length_append]; exact HO4.out
              case measure => simp [intOf]; omega
        · have hit' : (r.item != it) = true := by rw [bne_iff_ne]; exact hit
          have HSN := Lib.hid (Adj.own_snoc_no ht hit)
          have HML := Lib.hid hml
          have HND := Lib.hid hnd
          have HO6 := Lib.hid hown6
          have HILS := Lib.hid hils
          clear hml hnd hown6 hils ht hit hol0
          go_wp2
          go_roundw
          case rel => exact ⟨k + 1, ils, by omega, by go_num, by rw [HSN.out]; exact HML.out, by rw [HSN.out]; exact HND.out, HO6.out.alloc _, fun x hx => ⟨(HILS.out x hx).1.ext ((Ext.refl _).alloc _), (HILS.out x hx).2⟩, he.alloc _⟩
          case measure => simp [intOf]; omega
      · obtain rfl : k = rs.length := by omega
        rw [List.take_of_length_le (Nat.le_refl _)] at hml hnd
        have HE : Hid (Adj.pickE rs it = 0) := by show _ = _; rw [HPE.out, if_pos hnd]
        have HLL : Hid (Adj.pickL rs it = ils.map IL.xs) := by show _ = _; unfold Adj.pickL; rw [if_pos HE.out, hml]
        obtain ⟨L, lc, rfl, l1, l2, l3⟩ := SlL.of_own hown6 (fun x hx => (hils x hx).1)
        have HL3 := Lib.hid l3
        clear hml hnd hown6 hils l3 hol0
        go_wp2
        go_ret2
        exact ⟨L, lc, ils, by rw [HE.out]; rfl, HL3.out, HLL.out.symm, l1, l2, he⟩
end Go.Proofs.Ythjledbomonfpaa
