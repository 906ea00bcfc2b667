/- review.Allowed and its counterpart in the reference: contracts for the walk. Conditions: those of each theorem. -/
import Derived.Test.YtadnjhpkenjmdaaRevB
namespace Go.Proofs.Ytadnjhpkenjmdaa
open Go.RowKit

theorem quiet_add_same' {P : Program} {f : FuncId} {args : Array Value} {w : World} {a n : Nat} {v : Value}
    (h : Calls P f args (w.drewN (a + n)) fun e w' => e = .returned v ∧ w' = w.drewN (a + n)) :
    Calls P f args (w.drewN (a + n)) fun e w'' => e = .returned v ∧ ∃ m, w'' = w.drewN (a + m) :=
  h.mono fun _ _ ⟨he, hm⟩ => ⟨he, n, hm⟩

set_option maxRecDepth 100000 in
set_option maxHeartbeats 3200000 in
theorem allowed_any (st au : Int) (P : Option Addr) (pc : Nat) (ap : List Int) (Q : Option Addr) (qc : Nat) (fa : List Int) (L : Option Addr) (lc : Nat) (log : List Rev.Act) (k u ro t : Int) (w : World) (h : RevIn w st au P pc ap Q qc fa L lc log) :
    Calls Try.prog 18 #[.agg #[.int .i64 st, .int .i64 au, .slice P ap.length pc, .slice Q fa.length qc, .slice L log.length lc], .agg #[.int .i64 k, .int .i64 u, .int .i64 ro, .int .i64 t]] w fun e w' => e = .returned (.int .i64 (Rev.allowedE ⟨st, au, ap, fa, log⟩ ⟨k, u, ro, t⟩)) ∧ Ext w w' := by
  have hx0 : Ext w ((w.alloc (.cells #[.int .i64 st, .int .i64 au, .slice P ap.length pc, .slice Q fa.length qc, .slice L log.length lc] 25)).alloc (.cells #[.int .i64 k, .int .i64 u, .int .i64 ro, .int .i64 t] 34)) := ((Ext.refl _).alloc _).alloc _
  have H := Lib.hid h
  have hlc := h.2.2.2.1
  have hlm := h.2.2.2.2.1
  unfold maxLen at hlm
  clear h
  unfold Rev.allowedE
  dsimp only
  by_cases c1 : k < 1 ∨ 9 < k
  · rw [if_pos c1]
    rcases c1 with c1 | c1
    · go_enter Try.func18, Try.ntmps18
      go_wp2
      go_ret
      exact ⟨rfl, hx0⟩
    · have c1' : 1 ≤ k := by omega
      go_enter Try.func18, Try.ntmps18
      go_wp2
      go_ret
      exact ⟨rfl, hx0⟩
  · rw [if_neg c1]
    have k1 : 1 ≤ k := by omega
    have k9 : k ≤ 9 := by omega
    clear c1
    by_cases c2 : u < 1 ∨ 9999999 < u ∨ t < 0 ∨ 1099511627776 < t
    · rw [if_pos c2]
      have c2' : u < 1 ∨ (1 ≤ u ∧ 9999999 < u) ∨ (1 ≤ u ∧ u ≤ 9999999 ∧ t < 0) ∨ (1 ≤ u ∧ u ≤ 9999999 ∧ 0 ≤ t ∧ 1099511627776 < t) := by omega
      clear c2
      rcases c2' with d | ⟨d1, d2⟩ | ⟨d1, d2, d3⟩ | ⟨d1, d2, d3, d4⟩
      all_goals
        go_enter Try.func18, Try.ntmps18
        go_wp2
        go_ret
        exact ⟨rfl, hx0⟩
    · rw [if_neg c2]
      have u1 : 1 ≤ u := by omega
      have u9 : u ≤ 9999999 := by omega
      have t0 : 0 ≤ t := by omega
      have t9 : t ≤ 1099511627776 := by omega
      clear c2
      by_cases c3 : 200 ≤ log.length
      · rw [if_pos c3]
        have c3' : 200 ≤ (log.length : Int) := by omega
        go_enter Try.func18, Try.ntmps18
        go_wp2
        go_ret
        exact ⟨rfl, hx0⟩
      · rw [if_neg c3]
        have c3' : (log.length : Int) < 200 := by omega
        clear c3
        rcases List.eq_nil_or_concat log with hnil | ⟨l0, a0, hcat⟩
        · subst hnil
          have hl0 : Rev.late [] t = false := rfl
          rw [hl0, if_neg (by decide)]
          have z0 : decide (0 < (([] : List Rev.Act).length : Int)) = false := by decide
          by_cases c5 : Rev.poss k st = false
          · rw [if_pos c5]
            go_enter Try.func18, Try.ntmps18
            go_wp2
            go_quiet (fail)
            go_wp2_with fail
            refine (possible_any k st _ k1 k9).mono ?_
            rintro e w1 ⟨rfl, rfl⟩
            go_wp2
            go_ret
            exact ⟨rfl, hx0.drewN _⟩
          · rw [if_neg c5]
            have c5' : Rev.poss k st = true := by simpa using c5
            clear c5
            by_cases c6 : bits .and .i64 ro (Rev.role k st) = 0
            · rw [if_pos c6]
              have c6' : (bits .and .i64 ro (Rev.role k st) == 0) = true := by rw [beq_iff_eq]; exact c6
              clear c6
              go_enter Try.func18, Try.ntmps18
              go_wp2
              go_quiet (fail)
              go_wp2_with fail
              refine (possible_any k st _ k1 k9).mono ?_
              rintro e w1 ⟨rfl, rfl⟩
              go_wp2
              go_ret
              exact ⟨rfl, hx0.drewN _⟩
            · rw [if_neg c6]
              have c6' : (bits .and .i64 ro (Rev.role k st) == 0) = false := by rw [beq_eq_false_iff_ne]; exact c6
              clear c6
              by_cases c7 : Rev.excl ⟨st, au, ap, fa, []⟩ k u = true
              · rw [if_pos c7]
                have C7 := Lib.hid c7
                clear c7
                go_enter Try.func18, Try.ntmps18
                go_wp2
                go_quiet (fail)
                go_wp2_with fail
                refine (possible_any k st _ k1 k9).mono ?_
                rintro e w1 ⟨rfl, rfl⟩
                go_wp2_with fail
                refine (excluded_any st au P pc ap Q qc fa L lc [] k u _ (H.out.ext (hx0.drewN _)) k1 k9).mono ?_
                rintro e w1 ⟨rfl, hb1⟩
                rw [C7.out]
                go_wp2
                go_ret
                exact ⟨rfl, (hx0.drewN _).trans hb1⟩
              · rw [if_neg c7]
                have C7 := Lib.hid (show Rev.excl ⟨st, au, ap, fa, []⟩ k u = false by simpa using c7)
                clear c7
                go_enter Try.func18, Try.ntmps18
                go_wp2
                go_quiet (fail)
                go_wp2_with fail
                refine (possible_any k st _ k1 k9).mono ?_
                rintro e w1 ⟨rfl, rfl⟩
                go_wp2_with fail
                refine (excluded_any st au P pc ap Q qc fa L lc [] k u _ (H.out.ext (hx0.drewN _)) k1 k9).mono ?_
                rintro e w1 ⟨rfl, hb1⟩
                rw [C7.out]
                go_wp2
                go_ret
                exact ⟨rfl, (hx0.drewN _).trans hb1⟩
        · have hll : log.length = l0.length + 1 := by rw [hcat]; simp
          have hat : log[l0.length]? = some a0 := by rw [hcat]; simp
          have hlate : Rev.late log t = decide (t < a0.time) := by unfold Rev.late; rw [hcat]; simp
          have hpos : decide (0 < (log.length : Int)) = true := by simp; omega
          have hidx1 : 1 ≤ (log.length : Int) := by omega
          have hposN : decide (0 < log.length) = true := by simp; omega
          have hposM : 0 < log.length := by omega
          have hidx : (log.length : Int) - 1 < (log.length : Int) := by omega
          have hidx0 : 0 ≤ (log.length : Int) - 1 := by omega
          have hwr : IntKind.i64.wrap ((log.length : Int) - 1) = (log.length : Int) - 1 := IntWalk.i64_in _ (by omega)
          have HSA := Lib.hid H.out.2.2.1
          have HLL := Lib.hid hll
          have HAT := Lib.hid hat
          have HLATE := Lib.hid hlate
          clear hll hat hlate hcat
          rw [HLATE.out]
          obtain ⟨b, off, hL, hb, g0, g1, g2, g3⟩ := (HSA.out.ext hx0).at_ HAT.out
          subst hL
          have e1 : ((log.length : Int) - 1).toNat = log.length - 1 := by omega
          have g3' : ((w.alloc (.cells #[.int .i64 st, .int .i64 au, .slice P ap.length pc, .slice Q fa.length qc, .slice (some ⟨b, off, none⟩) log.length lc] 25)).alloc (.cells #[.int .i64 k, .int .i64 u, .int .i64 ro, .int .i64 t] 34)).cell? ⟨b, off + (log.length - 1) * 4 + 3, none⟩ = some (.int .i64 a0.time) := by
            rw [show log.length - 1 = l0.length by have := HLL.out; omega]; exact g3
          have hbw : b < w.heap.size := by
            obtain ⟨b', off', hL', hb', -⟩ := HSA.out.at_ HAT.out
            injection hL' with hL'
            injection hL' with hL1 hL2
            omega
          have g4 : w.cell? ⟨b, off + (log.length - 1) * 4 + 3, none⟩ = some (.int .i64 a0.time) := by
            have := g3'
            rwa [Ext.cell hx0 (by exact hbw)] at this
          clear g0 g1 g2 g3 hb g3'
          by_cases c4 : t < a0.time
          · rw [if_pos (by simpa using c4)]
            have c4' : decide (t < a0.time) = true := by simpa using c4
            go_enter Try.func18, Try.ntmps18
            go_wp2
            go_quiet (fail)
            go_wp2
            go_ret
            exact ⟨rfl, hx0.drewN _⟩
          · rw [if_neg (by simpa using c4)]
            have c4' : decide (t < a0.time) = false := by simpa using c4
            by_cases c5 : Rev.poss k st = false
            · rw [if_pos c5]
              go_enter Try.func18, Try.ntmps18
              go_wp2
              go_quiet (fail)
              go_wp2_with fail
              refine (possible_any k st _ k1 k9).mono ?_
              rintro e w1 ⟨rfl, rfl⟩
              go_wp2
              go_ret
              exact ⟨rfl, hx0.drewN _⟩
            · rw [if_neg c5]
              have c5' : Rev.poss k st = true := by simpa using c5
              clear c5
              by_cases c6 : bits .and .i64 ro (Rev.role k st) = 0
              · rw [if_pos c6]
                have c6' : (bits .and .i64 ro (Rev.role k st) == 0) = true := by rw [beq_iff_eq]; exact c6
                clear c6
                go_enter Try.func18, Try.ntmps18
                go_wp2
                go_quiet (fail)
                go_wp2_with fail
                refine (possible_any k st _ k1 k9).mono ?_
                rintro e w1 ⟨rfl, rfl⟩
                go_wp2
                go_ret
                exact ⟨rfl, hx0.drewN _⟩
              · rw [if_neg c6]
                have c6' : (bits .and .i64 ro (Rev.role k st) == 0) = false := by rw [beq_eq_false_iff_ne]; exact c6
                clear c6
                by_cases c7 : Rev.excl ⟨st, au, ap, fa, log⟩ k u = true
                · rw [if_pos c7]
                  have C7 := Lib.hid c7
                  clear c7
                  go_enter Try.func18, Try.ntmps18
                  go_wp2
                  go_quiet (fail)
                  go_wp2_with fail
                  refine (possible_any k st _ k1 k9).mono ?_
                  rintro e w1 ⟨rfl, rfl⟩
                  go_wp2_with fail
                  refine (excluded_any st au P pc ap Q qc fa (some ⟨b, off, none⟩) lc log k u _ (H.out.ext (hx0.drewN _)) k1 k9).mono ?_
                  rintro e w1 ⟨rfl, hb1⟩
                  rw [C7.out]
                  go_wp2
                  go_ret
                  exact ⟨rfl, (hx0.drewN _).trans hb1⟩
                · rw [if_neg c7]
                  have C7 := Lib.hid (show Rev.excl ⟨st, au, ap, fa, log⟩ k u = false by simpa using c7)
                  clear c7
                  go_enter Try.func18, Try.ntmps18
                  go_wp2
                  go_quiet (fail)
                  go_wp2_with fail
                  refine (possible_any k st _ k1 k9).mono ?_
                  rintro e w1 ⟨rfl, rfl⟩
                  go_wp2_with fail
                  refine (excluded_any st au P pc ap Q qc fa (some ⟨b, off, none⟩) lc log k u _ (H.out.ext (hx0.drewN _)) k1 k9).mono ?_
                  rintro e w1 ⟨rfl, hb1⟩
                  rw [C7.out]
                  go_wp2
                  go_ret
                  exact ⟨rfl, (hx0.drewN _).trans hb1⟩

set_option maxRecDepth 100000 in
set_option maxHeartbeats 3200000 in
theorem refAllowed_any (st au : Int) (P : Option Addr) (pc : Nat) (ap : List Int) (Q : Option Addr) (qc : Nat) (fa : List Int) (L : Option Addr) (lc : Nat) (log : List Rev.Act) (k u ro t : Int) (w : World) (h : RevIn w st au P pc ap Q qc fa L lc log) :
    Calls Try.prog 19 #[.agg #[.int .i64 st, .int .i64 au, .slice P ap.length pc, .slice Q fa.length qc, .slice L log.length lc], .agg #[.int .i64 k, .int .i64 u, .int .i64 ro, .int .i64 t]] w fun e w' => e = .returned (.int .i64 (Rev.allowedE ⟨st, au, ap, fa, log⟩ ⟨k, u, ro, t⟩)) ∧ Ext w w' := by
  have hx0 : Ext w ((w.alloc (.cells #[.int .i64 st, .int .i64 au, .slice P ap.length pc, .slice Q fa.length qc, .slice L log.length lc] 25)).alloc (.cells #[.int .i64 k, .int .i64 u, .int .i64 ro, .int .i64 t] 34)) := ((Ext.refl _).alloc _).alloc _
  have H := Lib.hid h
  have hlc := h.2.2.2.1
  have hlm := h.2.2.2.2.1
  unfold maxLen at hlm
  clear h
  unfold Rev.allowedE
  dsimp only
  by_cases c1 : k < 1 ∨ 9 < k
  · rw [if_pos c1]
    rcases c1 with c1 | c1
    · go_enter Try.func19, Try.ntmps19
      go_wp2
      go_ret
      exact ⟨rfl, hx0⟩
    · have c1' : 1 ≤ k := by omega
      go_enter Try.func19, Try.ntmps19
      go_wp2
      go_ret
      exact ⟨rfl, hx0⟩
  · rw [if_neg c1]
    have k1 : 1 ≤ k := by omega
    have k9 : k ≤ 9 := by omega
    clear c1
    by_cases c2 : u < 1 ∨ 9999999 < u ∨ t < 0 ∨ 1099511627776 < t
    · rw [if_pos c2]
      have c2' : u < 1 ∨ (1 ≤ u ∧ 9999999 < u) ∨ (1 ≤ u ∧ u ≤ 9999999 ∧ t < 0) ∨ (1 ≤ u ∧ u ≤ 9999999 ∧ 0 ≤ t ∧ 1099511627776 < t) := by omega
      clear c2
      rcases c2' with d | ⟨d1, d2⟩ | ⟨d1, d2, d3⟩ | ⟨d1, d2, d3, d4⟩
      all_goals
        go_enter Try.func19, Try.ntmps19
        go_wp2
        go_ret
        exact ⟨rfl, hx0⟩
    · rw [if_neg c2]
      have u1 : 1 ≤ u := by omega
      have u9 : u ≤ 9999999 := by omega
      have t0 : 0 ≤ t := by omega
      have t9 : t ≤ 1099511627776 := by omega
      clear c2
      by_cases c3 : 200 ≤ log.length
      · rw [if_pos c3]
        have c3' : 200 ≤ (log.length : Int) := by omega
        go_enter Try.func19, Try.ntmps19
        go_wp2
        go_ret
        exact ⟨rfl, hx0⟩
      · rw [if_neg c3]
        have c3' : (log.length : Int) < 200 := by omega
        clear c3
        rcases List.eq_nil_or_concat log with hnil | ⟨l0, a0, hcat⟩
        · subst hnil
          have hl0 : Rev.late [] t = false := rfl
          rw [hl0, if_neg (by decide)]
          have z0 : decide (0 < (([] : List Rev.Act).length : Int)) = false := by decide
          by_cases c5 : Rev.poss k st = false
          · rw [if_pos c5]
            go_enter Try.func19, Try.ntmps19
            go_wp2
            go_quiet (fail)
            go_wp2_with fail
            refine (refPossible_any k st _ k1 k9).mono ?_
            rintro e w1 ⟨rfl, rfl⟩
            go_wp2
            go_ret
            exact ⟨rfl, hx0.drewN _⟩
          · rw [if_neg c5]
            have c5' : Rev.poss k st = true := by simpa using c5
            clear c5
            by_cases c6 : bits .and .i64 ro (Rev.role k st) = 0
            · rw [if_pos c6]
              have c6' : (bits .and .i64 ro (Rev.role k st) == 0) = true := by rw [beq_iff_eq]; exact c6
              clear c6
              go_enter Try.func19, Try.ntmps19
              go_wp2
              go_quiet (fail)
              go_wp2_with fail
              refine (refPossible_any k st _ k1 k9).mono ?_
              rintro e w1 ⟨rfl, rfl⟩
              go_wp2_with fail
              go_quiet ((go_at_call 25; exact quiet_add_same' (refRole_any k st _ k1 k9)))
              go_wp2
              go_ret
              first | exact ⟨rfl, hx0.drewN _⟩ | exact ⟨rfl, (hx0.drewN _).drewN _⟩
            · rw [if_neg c6]
              have c6' : (bits .and .i64 ro (Rev.role k st) == 0) = false := by rw [beq_eq_false_iff_ne]; exact c6
              clear c6
              by_cases c7 : Rev.excl ⟨st, au, ap, fa, []⟩ k u = true
              · rw [if_pos c7]
                have C7 := Lib.hid c7
                clear c7
                go_enter Try.func19, Try.ntmps19
                go_wp2
                go_quiet (fail)
                go_wp2_with fail
                refine (refPossible_any k st _ k1 k9).mono ?_
                rintro e w1 ⟨rfl, rfl⟩
                go_wp2_with fail
                go_quiet ((go_at_call 25; exact quiet_add_same' (refRole_any k st _ k1 k9)))
                go_wp2_with fail
                refine (duty_any st au P pc ap Q qc fa L lc [] k u ro t _ (H.out.ext (hx0.drewN _)) k1 k9).mono ?_
                rintro e w1 ⟨rfl, hb1⟩
                rw [C7.out]
                go_wp2
                go_ret
                exact ⟨rfl, (hx0.drewN _).trans hb1⟩
              · rw [if_neg c7]
                have C7 := Lib.hid (show Rev.excl ⟨st, au, ap, fa, []⟩ k u = false by simpa using c7)
                clear c7
                go_enter Try.func19, Try.ntmps19
                go_wp2
                go_quiet (fail)
                go_wp2_with fail
                refine (refPossible_any k st _ k1 k9).mono ?_
                rintro e w1 ⟨rfl, rfl⟩
                go_wp2_with fail
                go_quiet ((go_at_call 25; exact quiet_add_same' (refRole_any k st _ k1 k9)))
                go_wp2_with fail
                refine (duty_any st au P pc ap Q qc fa L lc [] k u ro t _ (H.out.ext (hx0.drewN _)) k1 k9).mono ?_
                rintro e w1 ⟨rfl, hb1⟩
                rw [C7.out]
                go_wp2
                go_ret
                exact ⟨rfl, (hx0.drewN _).trans hb1⟩
        · have hll : log.length = l0.length + 1 := by rw [hcat]; simp
          have hat : log[l0.length]? = some a0 := by rw [hcat]; simp
          have hlate : Rev.late log t = decide (t < a0.time) := by unfold Rev.late; rw [hcat]; simp
          have hpos : decide (0 < (log.length : Int)) = true := by simp; omega
          have hidx1 : 1 ≤ (log.length : Int) := by omega
          have hposN : decide (0 < log.length) = true := by simp; omega
          have hposM : 0 < log.length := by omega
          have hidx : (log.length : Int) - 1 < (log.length : Int) := by omega
          have hidx0 : 0 ≤ (log.length : Int) - 1 := by omega
          have hwr : IntKind.i64.wrap ((log.length : Int) - 1) = (log.length : Int) - 1 := IntWalk.i64_in _ (by omega)
          have HSA := Lib.hid H.out.2.2.1
          have HLL := Lib.hid hll
          have HAT := Lib.hid hat
          have HLATE := Lib.hid hlate
          clear hll hat hlate hcat
          rw [HLATE.out]
          obtain ⟨b, off, hL, hb, g0, g1, g2, g3⟩ := (HSA.out.ext hx0).at_ HAT.out
          subst hL
          have e1 : ((log.length : Int) - 1).toNat = log.length - 1 := by omega
          have g3' : ((w.alloc (.cells #[.int .i64 st, .int .i64 au, .slice P ap.length pc, .slice Q fa.length qc, .slice (some ⟨b, off, none⟩) log.length lc] 25)).alloc (.cells #[.int .i64 k, .int .i64 u, .int .i64 ro, .int .i64 t] 34)).cell? ⟨b, off + (log.length - 1) * 4 + 3, none⟩ = some (.int .i64 a0.time) := by
            rw [show log.length - 1 = l0.length by have := HLL.out; omega]; exact g3
          have hbw : b < w.heap.size := by
            obtain ⟨b', off', hL', hb', -⟩ := HSA.out.at_ HAT.out
            injection hL' with hL'
            injection hL' with hL1 hL2
            omega
          have g4 : w.cell? ⟨b, off + (log.length - 1) * 4 + 3, none⟩ = some (.int .i64 a0.time) := by
            have := g3'
            rwa [Ext.cell hx0 (by exact hbw)] at this
          clear g0 g1 g2 g3 hb g3'
          by_cases c4 : t < a0.time
          · rw [if_pos (by simpa using c4)]
            have c4' : decide (t < a0.time) = true := by simpa using c4
            go_enter Try.func19, Try.ntmps19
            go_wp2
            go_quiet (fail)
            go_wp2
            go_ret
            exact ⟨rfl, hx0.drewN _⟩
          · rw [if_neg (by simpa using c4)]
            have c4' : decide (t < a0.time) = false := by simpa using c4
            by_cases c5 : Rev.poss k st = false
            · rw [if_pos c5]
              go_enter Try.func19, Try.ntmps19
              go_wp2
              go_quiet (fail)
              go_wp2_with fail
              refine (refPossible_any k st _ k1 k9).mono ?_
              rintro e w1 ⟨rfl, rfl⟩
              go_wp2
              go_ret
              exact ⟨rfl, hx0.drewN _⟩
            · rw [if_neg c5]
              have c5' : Rev.poss k st = true := by simpa using c5
              clear c5
              by_cases c6 : bits .and .i64 ro (Rev.role k st) = 0
              · rw [if_pos c6]
                have c6' : (bits .and .i64 ro (Rev.role k st) == 0) = true := by rw [beq_iff_eq]; exact c6
                clear c6
                go_enter Try.func19, Try.ntmps19
                go_wp2
                go_quiet (fail)
                go_wp2_with fail
                refine (refPossible_any k st _ k1 k9).mono ?_
                rintro e w1 ⟨rfl, rfl⟩
                go_wp2_with fail
                go_quiet ((go_at_call 25; exact quiet_add_same' (refRole_any k st _ k1 k9)))
                go_wp2
                go_ret
                first | exact ⟨rfl, hx0.drewN _⟩ | exact ⟨rfl, (hx0.drewN _).drewN _⟩
              · rw [if_neg c6]
                have c6' : (bits .and .i64 ro (Rev.role k st) == 0) = false := by rw [beq_eq_false_iff_ne]; exact c6
                clear c6
                by_cases c7 : Rev.excl ⟨st, au, ap, fa, log⟩ k u = true
                · rw [if_pos c7]
                  have C7 := Lib.hid c7
                  clear c7
                  go_enter Try.func19, Try.ntmps19
                  go_wp2
                  go_quiet (fail)
                  go_wp2_with fail
                  refine (refPossible_any k st _ k1 k9).mono ?_
                  rintro e w1 ⟨rfl, rfl⟩
                  go_wp2_with fail
                  go_quiet ((go_at_call 25; exact quiet_add_same' (refRole_any k st _ k1 k9)))
                  go_wp2_with fail
                  refine (duty_any st au P pc ap Q qc fa (some ⟨b, off, none⟩) lc log k u ro t _ (H.out.ext (hx0.drewN _)) k1 k9).mono ?_
                  rintro e w1 ⟨rfl, hb1⟩
                  rw [C7.out]
                  go_wp2
                  go_ret
                  exact ⟨rfl, (hx0.drewN _).trans hb1⟩
                · rw [if_neg c7]
                  have C7 := Lib.hid (show Rev.excl ⟨st, au, ap, fa, log⟩ k u = false by simpa using c7)
                  clear c7
                  go_enter Try.func19, Try.ntmps19
                  go_wp2
                  go_quiet (fail)
                  go_wp2_with fail
                  refine (refPossible_any k st _ k1 k9).mono ?_
                  rintro e w1 ⟨rfl, rfl⟩
                  go_wp2_with fail
                  go_quiet ((go_at_call 25; exact quiet_add_same' (refRole_any k st _ k1 k9)))
                  go_wp2_with fail
                  refine (duty_any st au P pc ap Q qc fa (some ⟨b, off, none⟩) lc log k u ro t _ (H.out.ext (hx0.drewN _)) k1 k9).mono ?_
                  rintro e w1 ⟨rfl, hb1⟩
                  rw [C7.out]
                  go_wp2
                  go_ret
                  exact ⟨rfl, (hx0.drewN _).trans hb1⟩

end Go.Proofs.Ytadnjhpkenjmdaa
