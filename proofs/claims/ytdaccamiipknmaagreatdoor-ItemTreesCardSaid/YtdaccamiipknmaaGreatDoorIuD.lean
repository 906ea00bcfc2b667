/- item.Major: a contract. Conditions: those of each theorem. -/
import Derived.Test.YtdaccamiipknmaaGreatDoorIuC
namespace Go.Proofs.YtdaccamiipknmaaGreatDoor
open Go.RowKit Go.Shelf

/-- An item's cells as one array. -/
theorem It.packed (it : It.Item) (L : It.Loc) : ∃ CS : Array Value, It.agg it L = .agg CS ∧ CS.size = 17 ∧ CS.all (·.oneCell') = true ∧ (It.cells it L).toArray = CS :=
  ⟨_, rfl, rfl, by simp [Value.oneCell'], rfl⟩
theorem infoItem {CS : Array Value} (h : CS.size = 17) : (Tryz.prog.info? 25).map (·.size) = some CS.size := by rw [h]; kernel_rfl
theorem heap_two_fst (w : World) (o1 o2 : Obj) : ((w.alloc o1).alloc o2).heap[w.heap.size]? = some o1 := ((Ext.refl (w.alloc o1)).alloc o2).blockAt (heap_alloc_new w o1)
theorem heap_two_snd (w : World) (o1 o2 : Obj) : ((w.alloc o1).alloc o2).heap[w.heap.size + 1]? = some o2 := heap_new_at _ _ _ (by simp)
set_option maxRecDepth 100000 in
set_option maxHeartbeats 64000000 in
theorem major_any (a b : It.Item) (La Lb : It.Loc) (w : World) (ha : It.In w a La) (hb : It.In w b Lb) (hf : ∀ w', Ext w w' → Fld w') :
    Calls Tryz.prog 9 #[It.agg a La, It.agg b Lb] w fun e w' => e = .returned (.bool (It.major a b)) ∧ Ext w w' := by
  obtain ⟨CA, hca, hna, -, -⟩ := It.packed a La
  obtain ⟨CB, hcb, hnb, -, -⟩ := It.packed b Lb
  have HD := Lib.hid (diff_any a b La Lb)
  rw [hca, hcb] at HD ⊢
  have HA := Lib.hid ha
  have HB := Lib.hid hb
  have HF := Lib.hid hf
  have IA := Lib.hid (infoItem hna)
  have IB := Lib.hid (infoItem hnb)
  clear ha hb hf hca hcb hna hnb
  obtain ⟨v, hv⟩ : ∃ v, It.major a b = v := ⟨_, rfl⟩
  have HV := Lib.hid hv
  rw [hv]
  clear hv
  go_enter Tryz.func9, Tryz.ntmps9
  go_wp2_with (first | refine wpList_load_row rfl _ _ rfl w.heap.size rfl _ CA _ _ (heap_two_fst _ _ _) Tryz.underlying25 rfl IA.out ?_ | refine wpList_load_row rfl _ _ rfl (w.heap.size + 1) rfl _ CB _ _ (heap_two_snd _ _ _) Tryz.underlying25 rfl IB.out ?_)
  have X0 : Ext w ((w.alloc (.cells CA 25)).alloc (.cells CB 25)) := ((Ext.refl _).alloc _).alloc _
  with_reducible refine (HD.out _ (HA.out.ext X0) (HB.out.ext X0) (HF.out _ X0)).mono ?_
  rintro e w1 ⟨⟨A, c, rfl, hs, h1, h2⟩, hb1⟩
  have hle := It.diff_le a b
  obtain ⟨l, hl⟩ : ∃ l, It.diff a b = l := ⟨_, rfl⟩
  have HM : Hid (l.any It.isMaj = v) := Lib.hid (by rw [← HV.out, ← hl]; rfl)
  rw [hl] at hs h1 hle ⊢
  have X1 := Lib.hid (X0.trans hb1)
  have HS := Lib.hid hs
  clear hs hb1 X0 HD HA HB HF IA IB hl HV h2
  go_wp2
  go_loopw [11] (fun i wr => ∃ k : Nat, k ≤ l.length ∧ i = .int .i64 k ∧ Hid ((l.take k).any It.isMaj = false) ∧ Hid (Ext w1 wr)) (fun i _ => l.length - (intOf i).toNat)
  case atStart => exact ⟨0, by omega, rfl, Lib.hid rfl, Lib.hid (Ext.refl _)⟩
  case round =>
    obtain ⟨k, hk, rfl, HP, HE⟩ := hrel
    by_cases hlt : k < l.length
    · obtain ⟨gb, go, rfl, hgb, x0⟩ := (HS.out.ext HE.out).at_ hlt
      obtain ⟨s, hs'⟩ : ∃ s, l[k] = s := ⟨_, rfl⟩
      have hx : l[k]? = some s := by rw [List.getElem?_eq_getElem hlt, hs']
      rw [hs'] at x0
      have HX := Lib.hid hx
      clear hs' hx
      have ki0 : (0 : Int) ≤ (k : Int) := by omega
      have ki1 : (k : Int) < (l.length : Int) := by omega
      have HTRUE : Hid (It.isMaj s = true → v = true) := Lib.hid fun h => by rw [← HM.out, List.any_eq_true]; exact ⟨s, List.mem_of_getElem? HX.out, h⟩
      have HFALSE : Hid (It.isMaj s = false → (l.take (k + 1)).any It.isMaj = false) := Lib.hid fun h => by rw [List.take_add_one, HX.out, List.any_append, HP.out]; simp [h]
      obtain ⟨q0, hq0⟩ : ∃ q, It.eqB s ⟨#[75, 105, 110, 100]⟩ = q := ⟨_, rfl⟩
      have Q0 := Lib.hid hq0
      have T0 : Hid ((s.toList == [75, 105, 110, 100]) = q0) := Lib.hid (by have := It.beqB s ⟨#[75, 105, 110, 100]⟩; rw [hq0, ByteArray.toList_eq ⟨#[75, 105, 110, 100]⟩] at this; exact this)
      clear hq0
      cases q0 with
      | true =>
        have t0 := T0.out
        have HF2 : Hid (v = true) := Lib.hid (HTRUE.out (by unfold It.isMaj; simp [Q0.out]))
        clear h1
        go_wp2
        go_ret
        exact ⟨ret_bool HF2.out.symm, X1.out.trans HE.out⟩
      | false =>
        obtain ⟨q1, hq1⟩ : ∃ q, It.eqB s ⟨#[83, 116, 101, 109]⟩ = q := ⟨_, rfl⟩
        have Q1 := Lib.hid hq1
        have T1 : Hid ((s.toList == [83, 116, 101, 109]) = q1) := Lib.hid (by have := It.beqB s ⟨#[83, 116, 101, 109]⟩; rw [hq1, ByteArray.toList_eq ⟨#[83, 116, 101, 109]⟩] at this; exact this)
        clear hq1
        cases q1 with
        | true =>
          have t0 := T0.out
          have t1 := T1.out
          have HF2 : Hid (v = true) := Lib.hid (HTRUE.out (by unfold It.isMaj; simp [Q0.out, Q1.out]))
          clear h1
          go_wp2
          go_ret
          exact ⟨ret_bool HF2.out.symm, X1.out.trans HE.out⟩
        | false =>
          obtain ⟨q2, hq2⟩ : ∃ q, It.eqB s ⟨#[79, 112, 116, 105, 111, 110, 115]⟩ = q := ⟨_, rfl⟩
          have Q2 := Lib.hid hq2
          have T2 : Hid ((s.toList == [79, 112, 116, 105, 111, 110, 115]) = q2) := Lib.hid (by have := It.beqB s ⟨#[79, 112, 116, 105, 111, 110, 115]⟩; rw [hq2, ByteArray.toList_eq ⟨#[79, 112, 116, 105, 111, 110, 115]⟩] at this; exact this)
          clear hq2
          cases q2 with
          | true =>
            have t0 := T0.out
            have t1 := T1.out
            have t2 := T2.out
            have HF2 : Hid (v = true) := Lib.hid (HTRUE.out (by unfold It.isMaj; simp [Q0.out, Q1.out, Q2.out]))
            clear h1
            go_wp2
            go_ret
            exact ⟨ret_bool HF2.out.symm, X1.out.trans HE.out⟩
          | false =>
            obtain ⟨q3, hq3⟩ : ∃ q, It.eqB s ⟨#[67, 104, 111, 105, 99, 101, 115]⟩ = q := ⟨_, rfl⟩
            have Q3 := Lib.hid hq3
            have T3 : Hid ((s.toList == [67, 104, 111, 105, 99, 101, 115]) = q3) := Lib.hid (by have := It.beqB s ⟨#[67, 104, 111, 105, 99, 101, 115]⟩; rw [hq3, ByteArray.toList_eq ⟨#[67, 104, 111, 105, 99, 101, 115]⟩] at this; exact this)
            clear hq3
            cases q3 with
            | true =>
              have t0 := T0.out
              have t1 := T1.out
              have t2 := T2.out
              have t3 := T3.out
              have HF2 : Hid (v = true) := Lib.hid (HTRUE.out (by unfold It.isMaj; simp [Q0.out, Q1.out, Q2.out, Q3.out]))
              clear h1
              go_wp2
              go_ret
              exact ⟨ret_bool HF2.out.symm, X1.out.trans HE.out⟩
            | false =>
              obtain ⟨q4, hq4⟩ : ∃ q, It.eqB s ⟨#[86, 97, 108, 117, 101]⟩ = q := ⟨_, rfl⟩
              have Q4 := Lib.hid hq4
              have T4 : Hid ((s.toList == [86, 97, 108, 117, 101]) = q4) := Lib.hid (by have := It.beqB s ⟨#[86, 97, 108, 117, 101]⟩; rw [hq4, ByteArray.toList_eq ⟨#[86, 97, 108, 117, 101]⟩] at this; exact this)
              clear hq4
              cases q4 with
              | true =>
                have t0 := T0.out
                have t1 := T1.out
                have t2 := T2.out
                have t3 := T3.out
                have t4 := T4.out
                have HF2 : Hid (v = true) := Lib.hid (HTRUE.out (by unfold It.isMaj; simp [Q0.out, Q1.out, Q2.out, Q3.out, Q4.out]))
                clear h1
                go_wp2
                go_ret
                exact ⟨ret_bool HF2.out.symm, X1.out.trans HE.out⟩
              | false =>
                obtain ⟨q5, hq5⟩ : ∃ q, It.eqB s ⟨#[84, 111, 108]⟩ = q := ⟨_, rfl⟩
                have Q5 := Lib.hid hq5
                have T5 : Hid ((s.toList == [84, 111, 108]) = q5) := Lib.hid (by have := It.beqB s ⟨#[84, 111, 108]⟩; rw [hq5, ByteArray.toList_eq ⟨#[84, 111, 108]⟩] at this; exact this)
                clear hq5
                cases q5 with
                | true =>
                  have t0 := T0.out
                  have t1 := T1.out
                  have t2 := T2.out
                  have t3 := T3.out
                  have t4 := T4.out
                  have t5 := T5.out
                  have HF2 : Hid (v = true) := Lib.hid (HTRUE.out (by unfold It.isMaj; simp [Q0.out, Q1.out, Q2.out, Q3.out, Q4.out, Q5.out]))
                  clear h1
                  go_wp2
                  go_ret
                  exact ⟨ret_bool HF2.out.symm, X1.out.trans HE.out⟩
                | false =>
                  obtain ⟨q6, hq6⟩ : ∃ q, It.eqB s ⟨#[84, 101, 120, 116, 115]⟩ = q := ⟨_, rfl⟩
                  have Q6 := Lib.hid hq6
                  have T6 : Hid ((s.toList == [84, 101, 120, 116, 115]) = q6) := Lib.hid (by have := It.beqB s ⟨#[84, 101, 120, 116, 115]⟩; rw [hq6, ByteArray.toList_eq ⟨#[84, 101, 120, 116, 115]⟩] at this; exact this)
                  clear hq6
                  cases q6 with
                  | true =>
                    have t0 := T0.out
                    have t1 := T1.out
                    have t2 := T2.out
                    have t3 := T3.out
                    have t4 := T4.out
                    have t5 := T5.out
                    have t6 := T6.out
                    have HF2 : Hid (v = true) := Lib.hid (HTRUE.out (by unfold It.isMaj; simp [Q0.out, Q1.out, Q2.out, Q3.out, Q4.out, Q5.out, Q6.out]))
                    clear h1
                    go_wp2
                    go_ret
                    exact ⟨ret_bool HF2.out.symm, X1.out.trans HE.out⟩
                  | false =>
                    obtain ⟨q7, hq7⟩ : ∃ q, It.eqB s ⟨#[80, 111, 105, 110, 116, 115]⟩ = q := ⟨_, rfl⟩
                    have Q7 := Lib.hid hq7
                    have T7 : Hid ((s.toList == [80, 111, 105, 110, 116, 115]) = q7) := Lib.hid (by have := It.beqB s ⟨#[80, 111, 105, 110, 116, 115]⟩; rw [hq7, ByteArray.toList_eq ⟨#[80, 111, 105, 110, 116, 115]⟩] at this; exact this)
                    clear hq7
                    cases q7 with
                    | true =>
                      have t0 := T0.out
                      have t1 := T1.out
                      have t2 := T2.out
                      have t3 := T3.out
                      have t4 := T4.out
                      have t5 := T5.out
                      have t6 := T6.out
                      have t7 := T7.out
                      have HF2 : Hid (v = true) := Lib.hid (HTRUE.out (by unfold It.isMaj; simp [Q0.out, Q1.out, Q2.out, Q3.out, Q4.out, Q5.out, Q6.out, Q7.out]))
                      clear h1
                      go_wp2
                      go_ret
                      exact ⟨ret_bool HF2.out.symm, X1.out.trans HE.out⟩
                    | false =>
                      obtain ⟨q8, hq8⟩ : ∃ q, It.eqB s ⟨#[82, 117, 98, 114, 105, 99]⟩ = q := ⟨_, rfl⟩
                      have Q8 := Lib.hid hq8
                      have T8 : Hid ((s.toList == [82, 117, 98, 114, 105, 99]) = q8) := Lib.hid (by have := It.beqB s ⟨#[82, 117, 98, 114, 105, 99]⟩; rw [hq8, ByteArray.toList_eq ⟨#[82, 117, 98, 114, 105, 99]⟩] at this; exact this)
                      clear hq8
                      cases q8 with
                      | true =>
                        have t0 := T0.out
                        have t1 := T1.out
                        have t2 := T2.out
                        have t3 := T3.out
                        have t4 := T4.out
                        have t5 := T5.out
                        have t6 := T6.out
                        have t7 := T7.out
                        have t8 := T8.out
                        have HF2 : Hid (v = true) := Lib.hid (HTRUE.out (by unfold It.isMaj; simp [Q0.out, Q1.out, Q2.out, Q3.out, Q4.out, Q5.out, Q6.out, Q7.out, Q8.out]))
                        clear h1
                        go_wp2
                        go_ret
                        exact ⟨ret_bool HF2.out.symm, X1.out.trans HE.out⟩
                      | false =>
                        have t0 := T0.out
                        have t1 := T1.out
                        have t2 := T2.out
                        have t3 := T3.out
                        have t4 := T4.out
                        have t5 := T5.out
                        have t6 := T6.out
                        have t7 := T7.out
                        have t8 := T8.out
                        have HN := Lib.hid (HFALSE.out (by unfold It.isMaj; simp [Q0.out, Q1.out, Q2.out, Q3.out, Q4.out, Q5.out, Q6.out, Q7.out, Q8.out]))
                        clear h1
                        go_wp2
                        go_roundw
                        case rel => exact ⟨k + 1, by omega, by go_num, HN, HE⟩
                        case measure => simp [intOf]; omega
    · obtain rfl : k = l.length := by omega
      have HF2 : Hid (v = false) := Lib.hid (by rw [← HM.out, ← HP.out, List.take_length])
      go_wp2
      go_ret
      exact ⟨ret_bool HF2.out.symm, X1.out.trans HE.out⟩
end Go.Proofs.YtdaccamiipknmaaGreatDoor
