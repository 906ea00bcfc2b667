/- review.excluded, review.Allowed and their counterparts in the reference: contracts for the walk. Conditions: those of each theorem. -/
import Derived.Test.YtadnjhpkenjmdaaRevA
namespace Go.Proofs.Ytadnjhpkenjmdaa
open Go.RowKit

def Rev.Act.cells (a : Rev.Act) : List Value := [.int .i64 a.kind, .int .i64 a.user, .int .i64 a.roles, .int .i64 a.time]
def Rev.Act.In (a : Rev.Act) : Prop := In64 a.kind ∧ In64 a.user ∧ In64 a.roles ∧ In64 a.time
/-- The actions lie at L. -/
def SlA (w : World) (L : Option Addr) (log : List Rev.Act) : Prop := Sl w 4 L (log.map Rev.Act.cells)
theorem SlA.ext {w w' : World} {L : Option Addr} {log : List Rev.Act} (h : SlA w L log) (he : Ext w w') : SlA w' L log := Sl.ext h he
theorem SlA.nil (w : World) (L : Option Addr) : SlA w L [] := Or.inl rfl
theorem SlA.at_ {w : World} {L : Option Addr} {log : List Rev.Act} (h : SlA w L log) {i : Nat} {a : Rev.Act} (hi : log[i]? = some a) :
    ∃ b off, L = some ⟨b, off, none⟩ ∧ b < w.heap.size ∧ w.cell? ⟨b, off + i * 4, none⟩ = some (.int .i64 a.kind) ∧ w.cell? ⟨b, off + i * 4 + 1, none⟩ = some (.int .i64 a.user) ∧ w.cell? ⟨b, off + i * 4 + 2, none⟩ = some (.int .i64 a.roles) ∧ w.cell? ⟨b, off + i * 4 + 3, none⟩ = some (.int .i64 a.time) := by
  obtain ⟨b, off, hA, hb, hc⟩ := Sl.at_ (i := i) (cs := a.cells) h (by simp [hi])
  exact ⟨b, off, hA, hb, hc 0 _ rfl, hc 1 _ rfl, hc 2 _ rfl, hc 3 _ rfl⟩

/-- A review record in memory. -/
def RevIn (w : World) (st au : Int) (P : Option Addr) (pc : Nat) (ap : List Int) (Q : Option Addr) (qc : Nat) (fa : List Int) (L : Option Addr) (lc : Nat) (log : List Rev.Act) : Prop :=
  (⟨P, pc, ap⟩ : IL).In w ∧ (⟨Q, qc, fa⟩ : IL).In w ∧ SlA w L log ∧ log.length ≤ lc ∧ lc ≤ maxLen ∧ (∀ a ∈ log, a.In) ∧ In64 st ∧ In64 au
theorem RevIn.ext {w w' : World} {st au : Int} {P : Option Addr} {pc : Nat} {ap : List Int} {Q : Option Addr} {qc : Nat} {fa : List Int} {L : Option Addr} {lc : Nat} {log : List Rev.Act} (h : RevIn w st au P pc ap Q qc fa L lc log) (he : Ext w w') : RevIn w' st au P pc ap Q qc fa L lc log :=
  ⟨h.1.ext he, h.2.1.ext he, h.2.2.1.ext he, h.2.2.2⟩

set_option maxHeartbeats 1600000 in
theorem excluded_any (st au : Int) (P : Option Addr) (pc : Nat) (ap : List Int) (Q : Option Addr) (qc : Nat) (fa : List Int) (L : Option Addr) (lc : Nat) (log : List Rev.Act) (k u : Int) (w : World) (h : RevIn w st au P pc ap Q qc fa L lc log) (h1 : 1 ≤ k) (h2 : k ≤ 9) :
    Calls Try.prog 23 #[.agg #[.int .i64 st, .int .i64 au, .slice P ap.length pc, .slice Q fa.length qc, .slice L log.length lc], .int .i64 k, .int .i64 u] w fun e w' => e = .returned (.bool (Rev.excl ⟨st, au, ap, fa, log⟩ k u)) ∧ Ext w w' := by
  have hx0 : Ext w (w.alloc (.cells #[.int .i64 st, .int .i64 au, .slice P ap.length pc, .slice Q fa.length qc, .slice L log.length lc] 25)) := (Ext.refl _).alloc _
  have H := Lib.hid h
  clear h
  by_cases h24 : k = 2 ∨ k = 4
  · by_cases hu : u = au
    · subst hu
      clear h1 h2
      rcases h24 with rfl | rfl
      all_goals
        go_enter Try.func23, Try.ntmps23
        go_wp2
        go_ret
        refine ⟨ret_bool ?_, hx0⟩
        unfold Rev.excl
        simp
    · have hu' : (u == au) = false := by rw [beq_eq_false_iff_ne]; exact hu
      have HU := Lib.hid hu
      clear h1 h2 hu
      rcases h24 with rfl | rfl
      all_goals
        go_enter Try.func23, Try.ntmps23
        go_wp2_with fail
        refine (contains_any P pc ap u _ (H.out.1.1.ext hx0) (Nat.le_trans H.out.1.2.1 H.out.1.2.2.1)).mono ?_
        rintro e w1 ⟨rfl, hb1⟩
        go_wp2
        go_ret
        refine ⟨ret_bool ?_, hx0.trans hb1⟩
        unfold Rev.excl
        simp [HU.out]
  · have hk : k = 1 ∨ k = 3 ∨ k = 5 ∨ k = 6 ∨ k = 7 ∨ k = 8 ∨ k = 9 := by omega
    clear h1 h2 h24
    rcases hk with rfl | rfl | rfl | rfl | rfl | rfl | rfl
    all_goals
      go_enter Try.func23, Try.ntmps23
      go_wp2
      go_ret
      refine ⟨ret_bool ?_, hx0⟩
      unfold Rev.excl
      rw [Bool.eq_iff_iff]
      simp

set_option maxHeartbeats 1600000 in
theorem duty_any (st au : Int) (P : Option Addr) (pc : Nat) (ap : List Int) (Q : Option Addr) (qc : Nat) (fa : List Int) (L : Option Addr) (lc : Nat) (log : List Rev.Act) (k u ro t : Int) (w : World) (h : RevIn w st au P pc ap Q qc fa L lc log) (h1 : 1 ≤ k) (h2 : k ≤ 9) :
    Calls Try.prog 26 #[.agg #[.int .i64 st, .int .i64 au, .slice P ap.length pc, .slice Q fa.length qc, .slice L log.length lc], .agg #[.int .i64 k, .int .i64 u, .int .i64 ro, .int .i64 t]] w fun e w' => e = .returned (.bool (Rev.excl ⟨st, au, ap, fa, log⟩ k u)) ∧ Ext w w' := by
  have hx0 : ∀ k : Int, Ext w ((w.alloc (.cells #[.int .i64 st, .int .i64 au, .slice P ap.length pc, .slice Q fa.length qc, .slice L log.length lc] 25)).alloc (.cells #[.int .i64 k, .int .i64 u, .int .i64 ro, .int .i64 t] 34)) := fun _ => ((Ext.refl _).alloc _).alloc _
  have HX0 := Lib.hid hx0
  have H := Lib.hid h
  clear h hx0
  by_cases h24 : k = 2 ∨ k = 4
  · by_cases hu : u = au
    · subst hu
      clear h1 h2
      rcases h24 with rfl | rfl
      all_goals
        go_enter Try.func26, Try.ntmps26
        go_wp2
        go_ret
        refine ⟨ret_bool ?_, HX0.out _⟩
        unfold Rev.excl
        simp
    · have hu' : (u == au) = false := by rw [beq_eq_false_iff_ne]; exact hu
      have HU := Lib.hid hu
      clear h1 h2 hu
      rcases h24 with rfl | rfl
      all_goals
        go_enter Try.func26, Try.ntmps26
        go_wp2_with fail
        refine (among_any P pc ap u _ (H.out.1.1.ext (HX0.out _)) (Nat.le_trans H.out.1.2.1 H.out.1.2.2.1)).mono ?_
        rintro e w1 ⟨rfl, hb1⟩
        go_wp2
        go_ret
        refine ⟨ret_bool ?_, (HX0.out _).trans hb1⟩
        unfold Rev.excl
        simp [HU.out]
  · have hk : k = 1 ∨ k = 3 ∨ k = 5 ∨ k = 6 ∨ k = 7 ∨ k = 8 ∨ k = 9 := by omega
    clear h1 h2 h24
    rcases hk with rfl | rfl | rfl | rfl | rfl | rfl | rfl
    all_goals
      go_enter Try.func26, Try.ntmps26
      go_wp2
      go_ret
      refine ⟨ret_bool ?_, HX0.out _⟩
      unfold Rev.excl
      rw [Bool.eq_iff_iff]
      simp

end Go.Proofs.Ytadnjhpkenjmdaa
