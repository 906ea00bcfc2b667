/- AdjudicateOthers: ratings of other items affect neither the ratings nor the score of an item, for every input. No conditions. -/
import Derived.Test.YthjledbomonfpaaAdjK
namespace Go.Proofs.Ythjledbomonfpaa
open Go.ChangeShapes Go.WideShapes Go.ChangeAt Go.RowKit

theorem heap_new_at (w : World) (o : Obj) (n : Nat) (hn : n = w.heap.size) : (w.alloc o).heap[n]? = some o := by subst hn; exact heap_alloc_new w o
theorem Adj.own_own (rs : List Adj.Rt) (it : Int) : Adj.own (Adj.own rs it) it = Adj.own rs it := by unfold Adj.own; rw [List.filter_filter]; simp
theorem Adj.own_le (rs : List Adj.Rt) (it : Int) : (Adj.own rs it).length ≤ rs.length := by unfold Adj.own; exact List.length_filter_le _ _
theorem Adj.pick_own {rs : List Adj.Rt} {it : Int} (h : rs.length ≤ 300) : Adj.pickE (Adj.own rs it) it = Adj.pickE rs it ∧ Adj.pickL (Adj.own rs it) it = Adj.pickL rs it := by
  have hl := Adj.own_le rs it
  have e : Adj.pickE (Adj.own rs it) it = Adj.pickE rs it := by unfold Adj.pickE; rw [Adj.own_own, if_neg (show ¬ 300 < (Adj.own rs it).length by omega), if_neg (show ¬ 300 < rs.length by omega)]
  refine ⟨e, ?_⟩
  unfold Adj.pickL
  rw [e, Adj.own_own]
theorem Adj.pick_cases {rs : List Adj.Rt} {it : Int} (h : rs.length ≤ 300) : Adj.pickE rs it = 0 ∨ Adj.pickE rs it = 10 := by
  unfold Adj.pickE
  rw [if_neg (by omega)]
  split
  · exact Or.inl rfl
  · exact Or.inr rfl
theorem Try.infoRating : (Try.prog.info? 54).map (fun i => (i.zero, i.size, i.bytes)) = some (some (.agg #[.int .i64 0, .int .i64 0, .slice none 0 0]), 3, 40) := by kernel_rfl
theorem Adj.rt_flat {rs : List Adj.Rt} {it : Int} {k : Nat} {r : Adj.Rt} (h : rs[k]? = some r) (hn : r.item = it) : ((Adj.own (rs.take (k + 1)) it).map Adj.Rt.cells).flatten = ((Adj.own (rs.take k) it).map Adj.Rt.cells).flatten ++ [.int .i64 r.rater, .int .i64 r.item, .slice r.m.A r.m.xs.length r.m.c] := by
  rw [Adj.own_snoc_yes h hn, List.map_append, List.flatten_append]; simp [Adj.Rt.cells]

set_option maxRecDepth 100000 in
set_option maxHeartbeats 3200000 in
theorem adjudicateOthers_walk (gap rule : Int) (id : Int) (A : Option Addr) (c : Nat) (ts : List Rub.Trait) (B : Option Addr) (bc : Nat) (rs : List Adj.Rt) (it : Int) (w : World) (h : RubIn w id A c ts) (hR : SlR w B rs) (hlen : rs.length ≤ maxLen) :
    Calls Try.prog 9 #[.agg #[.int .i64 gap, .int .i64 rule], .agg #[.int .i64 id, .slice A ts.length c], .slice B rs.length bc, .int .i64 it] w fun e w' => e = .returned (.bool true) ∧ Ext w w' := by
  have H := Lib.hid h
  have HRS := Lib.hid hR
  have HLEN := Lib.hid hlen
  unfold maxLen at hlen
  clear h hR
  have hx0 : Ext w ((w.alloc (.cells #[.int .i64 gap, .int .i64 rule] 38)).alloc (.cells #[.int .i64 id, .slice A ts.length c] 24)) := ((Ext.refl _).alloc _).alloc _
  by_cases h300 : 300 < rs.length
  · have h300' : 300 < (rs.length : Int) := by omega
    go_enter Try.func9, Try.ntmps9
    go_wp2_with fail
    refine (awake_any _).mono ?_
    rintro e w1 ⟨rfl, hb1⟩
    go_wp2_with fail
    go_ret
    exact ⟨rfl, hx0.trans hb1⟩
  · have h300' : (rs.length : Int) ≤ 300 := by omega
    have h300n : rs.length ≤ 300 := by omega
    obtain ⟨i0, hi0, hz0, hz1, hz2⟩ := info_parts Try.infoRating
    go_enter Try.func9, Try.ntmps9
    go_wp2_with fail
    have zx0 : ((w.alloc (.cells #[.int .i64 gap, .int .i64 rule] 38)).alloc (.cells #[.int .i64 id, .slice A ts.length c] 24)).cell? ⟨w.heap.size, 0, none⟩ = some (.int .i64 gap) := by simp [go_sem]
    have zy0 : ((w.alloc (.cells #[.int .i64 gap, .int .i64 rule] 38)).alloc (.cells #[.int .i64 id, .slice A ts.length c] 24)).cell? ⟨w.heap.size, 1, none⟩ = some (.int .i64 rule) := by simp [go_sem]
    have zz0 : ((w.alloc (.cells #[.int .i64 gap, .int .i64 rule] 38)).alloc (.cells #[.int .i64 id, .slice A ts.length c] 24)).cell? ⟨w.heap.size + 1, 0, none⟩ = some (.int .i64 id) := by simp [go_sem]
    have zu0 : ((w.alloc (.cells #[.int .i64 gap, .int .i64 rule] 38)).alloc (.cells #[.int .i64 id, .slice A ts.length c] 24)).cell? ⟨w.heap.size + 1, 1, none⟩ = some (.slice A ts.length c) := by simp [go_sem]
    generalize ((w.alloc (.cells #[.int .i64 gap, .int .i64 rule] 38)).alloc (.cells #[.int .i64 id, .slice A ts.length c] 24)) = w0 at *
    have AX0 := Lib.hid zx0
    have AY0 := Lib.hid zy0
    have BX0 := Lib.hid zz0
    have BY0 := Lib.hid zu0
    clear zx0 zy0 zz0 zu0
    go_loopw [28, 9] (fun i v wr => ∃ k : Nat, k ≤ rs.length ∧ i = .int .i64 k ∧ wr.ownsRow w0.heap.size 54 3 v (Adj.own (rs.take k) it).length ((Adj.own (rs.take k) it).map Adj.Rt.cells).flatten ∧ Ext w0 wr) (fun i _ _ => rs.length - (intOf i).toNat)
    case atStart => exact ⟨0, by omega, rfl, ⟨by simp [Adj.own], Or.inl ⟨rfl, by simp [Adj.own]⟩⟩, Ext.refl _⟩
    case round =>
      obtain ⟨k, hk, rfl, hown, he⟩ := hrel
      have hszr := he.size
      have hol0 := Adj.own_take_len (rs := rs) (it := it) (k := k)
      by_cases hlt : k < rs.length
      · obtain ⟨r, ht⟩ : ∃ r, rs[k]? = some r := ⟨rs[k], List.getElem?_eq_getElem hlt⟩
        obtain ⟨b, off, rfl, hb, c0, c1, c2, -, -⟩ := ((HRS.out.ext hx0).ext he).at_ ht
        have HO := Lib.hid hown
        by_cases hit : r.item = it
        · have hit' : (r.item == it) = true := by rw [beq_iff_eq]; exact hit
          have HSN := Lib.hid (Adj.rt_flat ht hit)
          have HLN : Hid ((Adj.own (rs.take (k + 1)) it).length = (Adj.own (rs.take k) it).length + 1) := by show _ = _; rw [Adj.own_snoc_yes ht hit]; simp
          have HG := Lib.hid (own_ge hown)
          generalize hon : (Adj.own (rs.take k) it).length = on at *
          have HON := Lib.hid hon
          clear hown ht hit hon
          go_wp2_with (at_builtin; refine wpList_append_lies _ rfl _ _ 47 rfl w0.heap.size 54 i0 (.agg #[.int .i64 0, .int .i64 0, .slice none 0 0]) 3 40 Try.underlying47 hi0 hz0 hz1 hz2 rfl (by decide) _ _ _ rfl ((HO.out.alloc _).alloc _) ⟨wr.heap.size + 1, 0, none⟩ 1 1 [.int .i64 r.rater, .int .i64 r.item, .slice r.m.A r.m.xs.length r.m.c] rfl rfl (World.news_of_block (heap_new_at _ _ _ (by simp))) (by simp [Value.oneCell']) (by decide) (by unfold maxLen; omega) (by omega) (by simp; omega) (wr.heap.size + 1 + 1) (by simp) ?_; intro gg cap w2 hown2 hgrow2 hat2 hlt2)
          have HO2 := Lib.hid hown2
          have HE2 := Lib.hid (((he.alloc _).alloc _).grown hgrow2 HG.out)
          clear hown2 hgrow2 hat2 hlt2
          go_wp2
          go_roundw
          case rel => exact ⟨k + 1, by omega, by go_num, by rw [HSN.out, HLN.out]; exact HO2.out, HE2.out⟩
          case measure => simp [intOf]; omega
        · have hit' : (r.item == it) = false := by rw [beq_eq_false_iff_ne]; exact hit
          have HSN := Lib.hid (Adj.own_snoc_no ht hit)
          clear hown ht hit
          go_wp2
          go_roundw
          case rel => exact ⟨k + 1, by omega, by go_num, by rw [HSN.out]; exact HO.out.alloc _, he.alloc _⟩
          case measure => simp [intOf]; omega
      · obtain rfl : k = rs.length := by omega
        rw [List.take_of_length_le (Nat.le_refl _)] at hown hol0
        obtain ⟨O, oc, rfl, o1, o2, o3⟩ := Sl.of_own (xs := (Adj.own rs it).map Adj.Rt.cells) (fun c hc => by obtain ⟨r, -, rfl⟩ := List.mem_map.1 hc; rfl) (by simp) hown
        rw [List.length_map] at o1 ⊢
        have HOW : Hid (SlR wr O (Adj.own rs it)) := Lib.hid ⟨o3, fun r hr => by
          have hr' : r ∈ rs := by unfold Adj.own at hr; exact (List.mem_filter.1 hr).1
          exact ⟨(HRS.out.2 r hr').1.ext (hx0.trans he), (HRS.out.2 r hr').2⟩⟩
        obtain ⟨p1, p2⟩ := Adj.pick_own (it := it) h300n
        have P1 := Lib.hid p1
        have P2 := Lib.hid p2
        have PC := Lib.hid (Adj.pick_cases (it := it) h300n)
        have HOL : Hid ((Adj.own rs it).length ≤ maxLen) := Lib.hid (by unfold maxLen; omega)
        have HON : Hid (Adj.pickE rs it = 0 → (Adj.pickL rs it).length = (Adj.own rs it).length) := Lib.hid (fun e => by unfold Adj.pickL; rw [if_pos e]; simp)
        generalize hown' : Adj.own rs it = ow at *
        clear hown o1 o2 o3 p1 p2 hown'
        obtain ⟨w1, rfl⟩ : ∃ w1 : World, w1 = wr := ⟨_, rfl⟩
        have hb1 := he
        have ax1 := he.keep AX0.out
        have ay1 := he.keep AY0.out
        have bx1 := he.keep BX0.out
        have by1 := he.keep BY0.out
        have hx1 := hx0.trans he
        have EE : Hid (Adj.essayR gap rule id ts ow it = Adj.essayR gap rule id ts rs it) := by show _ = _; unfold Adj.essayR; rw [P1.out, P2.out]
        rcases PC.out with pz | pz
        · have PZ := Lib.hid pz
          have ES : Hid (Adj.essayR gap rule id ts rs it = Adj.scoreR gap rule id ts (Adj.pickL rs it)) := by show _ = _; unfold Adj.essayR; rw [if_pos pz]
          clear pz
          go_wp2_with fail
          refine (pick_any B bc rs it _ (HRS.out.ext hx1) HLEN.out).mono ?_
          rintro e w2 ⟨L2, lc2, il2, rfl, hl2, hm2, hc2, hd2, hb2⟩
          rw [PZ.out]
          have HI2 := Lib.hid hl2
          have HM2 := Lib.hid hm2
          have HC2 := Lib.hid (Nat.le_trans hc2 hd2)
          clear hl2 hm2 hc2 hd2
          have ax2 : w2.cell? ⟨w.heap.size, 0, none⟩ = some (.int .i64 gap) := hb2.keep ax1
          have ay2 : w2.cell? ⟨w.heap.size, 1, none⟩ = some (.int .i64 rule) := hb2.keep ay1
          have bx2 : w2.cell? ⟨w.heap.size + 1, 0, none⟩ = some (.int .i64 id) := hb2.keep bx1
          have by2 : w2.cell? ⟨w.heap.size + 1, 1, none⟩ = some (.slice A ts.length c) := hb2.keep by1
          have hx2 := hx1.trans hb2
          clear ax1 ay1 bx1 by1
          go_wp2_with fail
          refine (pick_any O oc ow it _ (HOW.out.ext hb2) HOL.out).mono ?_
          rintro e w3 ⟨L3, lc3, il3, rfl, hl3, hm3, hc3, hd3, hb3⟩
          rw [P1.out, PZ.out]
          have HI3 := Lib.hid hl3
          have HM3 := Lib.hid hm3
          have HC3 := Lib.hid (Nat.le_trans hc3 hd3)
          clear hl3 hm3 hc3 hd3
          have ax3 : w3.cell? ⟨w.heap.size, 0, none⟩ = some (.int .i64 gap) := hb3.keep ax2
          have ay3 : w3.cell? ⟨w.heap.size, 1, none⟩ = some (.int .i64 rule) := hb3.keep ay2
          have bx3 : w3.cell? ⟨w.heap.size + 1, 0, none⟩ = some (.int .i64 id) := hb3.keep bx2
          have by3 : w3.cell? ⟨w.heap.size + 1, 1, none⟩ = some (.slice A ts.length c) := hb3.keep by2
          have hx3 := hx2.trans hb3
          clear ax2 ay2 bx2 by2
          go_wp2_with fail
          refine (essay_any gap rule id A c ts B bc rs it _ (H.out.ext hx3) (HRS.out.ext hx3) HLEN.out).mono ?_
          rintro e w4 ⟨rfl, hb4⟩
          have ax4 : w4.cell? ⟨w.heap.size, 0, none⟩ = some (.int .i64 gap) := hb4.keep ax3
          have ay4 : w4.cell? ⟨w.heap.size, 1, none⟩ = some (.int .i64 rule) := hb4.keep ay3
          have bx4 : w4.cell? ⟨w.heap.size + 1, 0, none⟩ = some (.int .i64 id) := hb4.keep bx3
          have by4 : w4.cell? ⟨w.heap.size + 1, 1, none⟩ = some (.slice A ts.length c) := hb4.keep by3
          have hx4 := hx3.trans hb4
          clear ax3 ay3 bx3 by3
          go_wp2_with fail
          refine (essay_any gap rule id A c ts O oc ow it _ (H.out.ext hx4) (HOW.out.ext ((hb2.trans hb3).trans hb4)) HOL.out).mono ?_
          rintro e w5 ⟨rfl, hb5⟩
          have ax5 : w5.cell? ⟨w.heap.size, 0, none⟩ = some (.int .i64 gap) := hb5.keep ax4
          have ay5 : w5.cell? ⟨w.heap.size, 1, none⟩ = some (.int .i64 rule) := hb5.keep ay4
          have bx5 : w5.cell? ⟨w.heap.size + 1, 0, none⟩ = some (.int .i64 id) := hb5.keep bx4
          have by5 : w5.cell? ⟨w.heap.size + 1, 1, none⟩ = some (.slice A ts.length c) := hb5.keep by4
          have hx5 := hx4.trans hb5
          clear ax4 ay4 bx4 by4
          rw [EE.out]
          go_wp2_with fail
          refine (equal_any L2 lc2 il2 L3 lc3 il3 _ (HI2.out.ext ((hb3.trans hb4).trans hb5)) (HI3.out.ext (hb4.trans hb5)) HC2.out).mono ?_
          rintro e w6 ⟨rfl, hb6⟩
          rw [show decide (il2.map IL.xs = il3.map IL.xs) = true by rw [HM2.out, HM3.out, P2.out]; simp]
          have ax6 := hb6.keep ax5
          have ay6 := hb6.keep ay5
          have bx6 := hb6.keep bx5
          have by6 := hb6.keep by5
          have hx6 := hx5.trans hb6
          clear ax5 ay5 bx5 by5
          have hln : il2.length = ow.length := by
            rw [← HON.out PZ.out, ← HM2.out, List.length_map]
          have HLN := Lib.hid hln
          clear hln
          go_wp2_with fail
          refine (score_any gap rule id A c ts L2 lc2 il2 _ (H.out.ext hx6) (HI2.out.ext (((hb3.trans hb4).trans hb5).trans hb6)) HC2.out).mono ?_
          rintro e w7 ⟨rfl, hb7⟩
          rw [HM2.out, ← ES.out]
          rw [HLN.out]
          go_wp2_with fail
          refine (awake_any _).mono ?_
          rintro e w8 ⟨rfl, hb8⟩
          go_wp2_with fail
          go_ret
          exact ⟨ret_bool (by simp), (hx6.trans hb7).trans hb8⟩
        · have PZ := Lib.hid pz
          have ES : Hid ((Adj.essayR gap rule id ts rs it).2 = 10) := by show _ = _; unfold Adj.essayR; rw [if_neg (by rw [pz]; decide), pz]
          have PL : Hid (Adj.pickL rs it = []) := by show _ = _; unfold Adj.pickL; rw [if_neg (by rw [pz]; decide)]
          clear pz
          go_wp2_with fail
          refine (pick_any B bc rs it _ (HRS.out.ext hx1) HLEN.out).mono ?_
          rintro e w2 ⟨L2, lc2, il2, rfl, hl2, hm2, hc2, hd2, hb2⟩
          rw [PZ.out]
          have HI2 := Lib.hid hl2
          have HM2 := Lib.hid hm2
          have HC2 := Lib.hid (Nat.le_trans hc2 hd2)
          clear hl2 hm2 hc2 hd2
          have ax2 : w2.cell? ⟨w.heap.size, 0, none⟩ = some (.int .i64 gap) := hb2.keep ax1
          have ay2 : w2.cell? ⟨w.heap.size, 1, none⟩ = some (.int .i64 rule) := hb2.keep ay1
          have bx2 : w2.cell? ⟨w.heap.size + 1, 0, none⟩ = some (.int .i64 id) := hb2.keep bx1
          have by2 : w2.cell? ⟨w.heap.size + 1, 1, none⟩ = some (.slice A ts.length c) := hb2.keep by1
          have hx2 := hx1.trans hb2
          clear ax1 ay1 bx1 by1
          go_wp2_with fail
          refine (pick_any O oc ow it _ (HOW.out.ext hb2) HOL.out).mono ?_
          rintro e w3 ⟨L3, lc3, il3, rfl, hl3, hm3, hc3, hd3, hb3⟩
          rw [P1.out, PZ.out]
          have HI3 := Lib.hid hl3
          have HM3 := Lib.hid hm3
          have HC3 := Lib.hid (Nat.le_trans hc3 hd3)
          clear hl3 hm3 hc3 hd3
          have ax3 : w3.cell? ⟨w.heap.size, 0, none⟩ = some (.int .i64 gap) := hb3.keep ax2
          have ay3 : w3.cell? ⟨w.heap.size, 1, none⟩ = some (.int .i64 rule) := hb3.keep ay2
          have bx3 : w3.cell? ⟨w.heap.size + 1, 0, none⟩ = some (.int .i64 id) := hb3.keep bx2
          have by3 : w3.cell? ⟨w.heap.size + 1, 1, none⟩ = some (.slice A ts.length c) := hb3.keep by2
          have hx3 := hx2.trans hb3
          clear ax2 ay2 bx2 by2
          go_wp2_with fail
          refine (essay_any gap rule id A c ts B bc rs it _ (H.out.ext hx3) (HRS.out.ext hx3) HLEN.out).mono ?_
          rintro e w4 ⟨rfl, hb4⟩
          rw [ES.out]
          have ax4 : w4.cell? ⟨w.heap.size, 0, none⟩ = some (.int .i64 gap) := hb4.keep ax3
          have ay4 : w4.cell? ⟨w.heap.size, 1, none⟩ = some (.int .i64 rule) := hb4.keep ay3
          have bx4 : w4.cell? ⟨w.heap.size + 1, 0, none⟩ = some (.int .i64 id) := hb4.keep bx3
          have by4 : w4.cell? ⟨w.heap.size + 1, 1, none⟩ = some (.slice A ts.length c) := hb4.keep by3
          have hx4 := hx3.trans hb4
          clear ax3 ay3 bx3 by3
          go_wp2_with fail
          refine (essay_any gap rule id A c ts O oc ow it _ (H.out.ext hx4) (HOW.out.ext ((hb2.trans hb3).trans hb4)) HOL.out).mono ?_
          rintro e w5 ⟨rfl, hb5⟩
          have ax5 : w5.cell? ⟨w.heap.size, 0, none⟩ = some (.int .i64 gap) := hb5.keep ax4
          have ay5 : w5.cell? ⟨w.heap.size, 1, none⟩ = some (.int .i64 rule) := hb5.keep ay4
          have bx5 : w5.cell? ⟨w.heap.size + 1, 0, none⟩ = some (.int .i64 id) := hb5.keep bx4
          have by5 : w5.cell? ⟨w.heap.size + 1, 1, none⟩ = some (.slice A ts.length c) := hb5.keep by4
          have hx5 := hx4.trans hb5
          clear ax4 ay4 bx4 by4
          rw [EE.out, ES.out]
          go_wp2_with fail
          refine (equal_any L2 lc2 il2 L3 lc3 il3 _ (HI2.out.ext ((hb3.trans hb4).trans hb5)) (HI3.out.ext (hb4.trans hb5)) HC2.out).mono ?_
          rintro e w6 ⟨rfl, hb6⟩
          rw [show decide (il2.map IL.xs = il3.map IL.xs) = true by rw [HM2.out, HM3.out, P2.out]; simp]
          have ax6 := hb6.keep ax5
          have ay6 := hb6.keep ay5
          have bx6 := hb6.keep bx5
          have by6 := hb6.keep by5
          have hx6 := hx5.trans hb6
          clear ax5 ay5 bx5 by5
          obtain rfl : il2 = [] := by
            have := HM2.out
            rw [PL.out] at this
            exact List.map_eq_nil_iff.1 this
          go_wp2_with fail
          refine (awake_any _).mono ?_
          rintro e w8 ⟨rfl, hb8⟩
          go_wp2_with fail
          go_ret
          exact ⟨ret_bool (by simp), hx6.trans hb8⟩

theorem adjudicateOthers_lifted (os : Os) (started : os.Started) (H : Type) (enc : TypeId × Value → H) :
    ReturnsInHanded {} Try.checked os 9 .any (Rows.adjudicateOthersSpec.pre6 enc Try.prog Try.f9 Rows.adjudicateOthersRow.domain false) (Rows.adjudicateOthersSpec.post enc Try.prog Try.f9 false true false false) := by
  refine returnsInHanded_of_change_sized (C := Try.checked) Try.own started (by kernel_rfl) Try.func9
    (ChangeSpec.witness6 (enc := enc) (C := Try.checked) false ⟨#[], #[.agg #[.int .i64 0, .int .i64 0], .agg #[.int .i64 0, .slice none 0 0], .slice none 0 0, .int .i64 0], []⟩ 8 (by kernel_rfl) (by kernel_rfl) (by kernel_rfl) (by kernel_rfl)) ?_
  intro W base args ds gs before hval0 hW _ hsz0 _
  have hval : ∀ (j : Nat) t v, Try.f9.params[j]? = some t → args[j]? = some v → Value.okWide Try.prog W .any base t v := hval0
  have hsz : (DataW.weightsEach Try.prog (Try.f9.params.toList ++ Rows.adjudicateOthersSpec.plain.varTypes Try.prog) (ds ++ gs)).all (· ≤ reachBytes) = true := hsz0
  have hW' := hW
  obtain ⟨p, q, hA0, hV, rfl, hfz, hnd⟩ := hW
  have hA : DataW.TrodAll enc Try.prog W 0 (fun _ => true) true Try.f9.params.toList args.toList ds p := hA0
  rw [Try.params9] at hA hval hsz
  obtain ⟨v0, vs0, d0, ds0, p0, q0, hargs, rfl, rfl, h0, r0⟩ := trodAll_cons hA
  obtain ⟨v1, vs1, d1, ds1, p1, q1, rfl, rfl, rfl, h1, r1⟩ := trodAll_cons r0
  obtain ⟨v2, vs2, d2, ds2, p2, q2, rfl, rfl, rfl, h2, r2⟩ := trodAll_cons r1
  obtain ⟨v3, vs3, d3, ds3, p3, q3, rfl, rfl, rfl, h3, r3⟩ := trodAll_cons r2
  obtain ⟨rfl, rfl, rfl⟩ := trodAll_nil r3
  obtain rfl : args = #[v0, v1, v2, v3] := by cases args; simp_all
  obtain ⟨rfl, rfl⟩ := trodVars_none hV
  obtain ⟨gap, rule, rfl, ga1, ga2⟩ := adj_open (hval 0 38 v0 rfl rfl) h0
  obtain ⟨id, A, c, ts, rfl, g1⟩ := rub_open (hval 1 24 v1 rfl rfl) h1
  obtain ⟨B, bc, rs, rfl, g2, g3⟩ := ratings_open (hval 2 47 v2 rfl rfl) h2 (light_arg hsz (j := 2) rfl rfl)
  obtain ⟨it, rfl, hd3, rfl, _⟩ := open_int Try.underlying3 (hval 3 3 v3 rfl rfl) h3
  refine (adjudicateOthers_walk gap rule id A c ts B bc rs it W g1 g2 g3).mono fun e W' ⟨he, hw⟩ => ?_
  subst he
  exact ⟨_, rfl, law_post hW' Try.laidOut (by kernel_rfl) rfl (by rfl) rfl Try.underlying4 hw⟩

theorem adjudicateOthers_holds : Rows.AdjudicateOthersSaid :=
  OpenClaim.holds_of_wide 9 Try.f9 rfl rfl rfl rfl rfl rfl rfl ⟨rfl, rfl, rfl, rfl, rfl⟩ rfl rfl rfl rfl rfl (by kernel_rfl) Try.func9 (by kernel_rfl)
    (of_decide_eq_true (by kernel_rfl)) (by unfold Func.isWrapper; first | (rw [if_pos (by decide +kernel)]; kernel_rfl) | (rw [if_neg (by decide +kernel)]; exact ⟨rfl, rfl⟩))
    (fun os started H enc _ => adjudicateOthers_lifted os started H enc)
#print axioms adjudicateOthers_holds
end Go.Proofs.Ythjledbomonfpaa
