/- Incidents: plain words, slices of incidents; Valid and the check of a list, in the program and in the reference: contracts. Conditions: those of each theorem. -/
import Derived.Test.YtcpapnnghclbmaaDoorApp
namespace Go.Proofs.YtcpapnnghclbmaaDoor
open Go.RowKit

namespace In
/-- An incident: kind, time, lost, grave. -/
abbrev Inc := Int × Int × Int × Int
def cells (p : Inc) : List Value := [.int .i64 p.1, .int .i64 p.2.1, .int .i64 p.2.2.1, .int .i64 p.2.2.2]
def agg (p : Inc) : Value := .agg #[.int .i64 p.1, .int .i64 p.2.1, .int .i64 p.2.2.1, .int .i64 p.2.2.2]
/-- The first rule that an incident violates. -/
def vld (p : Inc) : Int := if p.1 < 1 ∨ 6 < p.1 then 1 else if p.2.1 < 0 ∨ 1099511627776 < p.2.1 ∨ p.2.2.1 < 0 ∨ 86400 < p.2.2.1 ∨ p.2.2.2 < 0 ∨ 3 < p.2.2.2 then 3 else 0
def fst : List Inc → Int
  | [] => 0
  | p :: l => if vld p ≠ 0 then vld p else fst l
/-- The first rule that a list violates. -/
def chk (l : List Inc) : Int := if 300 < l.length then 5 else fst l
theorem fst_append (l m : List Inc) (h : fst l = 0) : fst (l ++ m) = fst m := by
  induction l with
  | nil => rfl
  | cons p l ih =>
    by_cases hv : vld p ≠ 0
    · rw [fst, if_pos hv] at h; exact absurd h hv
    · rw [fst, if_neg hv] at h
      rw [List.cons_append, fst, if_neg hv, ih h]
theorem fst_step {l : List Inc} {k : Nat} {p : Inc} (h : l[k]? = some p) (h0 : fst (l.take k) = 0) (hv : vld p = 0) : fst (l.take (k + 1)) = 0 := by
  rw [List.take_add_one, h, fst_append _ _ h0]
  show fst [p] = 0
  rw [fst, if_neg (by simp [hv])]
  rfl
theorem fst_hit {l : List Inc} {k : Nat} {p : Inc} (h : l[k]? = some p) (h0 : fst (l.take k) = 0) (hv : vld p ≠ 0) : fst l = vld p := by
  rw [← List.take_append_drop k l, fst_append _ _ h0]
  obtain ⟨hk, rfl⟩ := List.getElem?_eq_some_iff.1 h
  rw [List.drop_eq_getElem_cons hk, fst, if_pos hv]
theorem fst_zero {l : List Inc} : fst l = 0 ↔ ∀ p ∈ l, vld p = 0 := by
  induction l with
  | nil => simp [fst]
  | cons p l ih =>
    by_cases hv : vld p ≠ 0
    · rw [fst, if_pos hv]; simp [hv]
    · have hv' : vld p = 0 := by simpa using hv
      rw [fst, if_neg hv, ih]; simp [hv']
theorem chk_zero {l : List Inc} : chk l = 0 ↔ l.length ≤ 300 ∧ ∀ p ∈ l, vld p = 0 := by
  unfold chk
  by_cases h : 300 < l.length
  · rw [if_pos h]; constructor
    · intro e; exact absurd e (by decide)
    · intro e; omega
  · rw [if_neg h, fst_zero]; constructor
    · intro e; exact ⟨by omega, e⟩
    · intro e; exact e.2
theorem vld_zero {p : Inc} : vld p = 0 ↔ (1 ≤ p.1 ∧ p.1 ≤ 6) ∧ (0 ≤ p.2.1 ∧ p.2.1 ≤ 1099511627776) ∧ (0 ≤ p.2.2.1 ∧ p.2.2.1 ≤ 86400) ∧ (0 ≤ p.2.2.2 ∧ p.2.2.2 ≤ 3) := by
  unfold vld
  by_cases h1 : p.1 < 1 ∨ 6 < p.1
  · rw [if_pos h1]; constructor
    · intro e; exact absurd e (by decide)
    · intro e; omega
  · rw [if_neg h1]
    by_cases h2 : p.2.1 < 0 ∨ 1099511627776 < p.2.1 ∨ p.2.2.1 < 0 ∨ 86400 < p.2.2.1 ∨ p.2.2.2 < 0 ∨ 3 < p.2.2.2
    · rw [if_pos h2]; constructor
      · intro e; exact absurd e (by decide)
      · intro e; omega
    · rw [if_neg h2]; constructor
      · intro _; omega
      · intro _; rfl
def ok64 (p : Inc) : Prop := In64 p.1 ∧ In64 p.2.1 ∧ In64 p.2.2.1 ∧ In64 p.2.2.2
theorem ok_of_vld {p : Inc} (h : vld p = 0) : ok64 p := by
  rw [vld_zero] at h
  unfold ok64 In64
  omega
end In
/-- The incidents lie at A. -/
def SlN (w : World) (A : Option Addr) (ps : List In.Inc) : Prop := Sl w 4 A (ps.map In.cells)
theorem SlN.ext {w w' : World} {A : Option Addr} {ps : List In.Inc} (h : SlN w A ps) (he : Ext w w') : SlN w' A ps := Sl.ext h he
theorem SlN.nil (w : World) (A : Option Addr) : SlN w A [] := Or.inl rfl
theorem SlN.at_ {w : World} {A : Option Addr} {ps : List In.Inc} (h : SlN w A ps) {i : Nat} {p : In.Inc} (hi : ps[i]? = some p) :
    ∃ b off, A = some ⟨b, off, none⟩ ∧ b < w.heap.size ∧ w.cell? ⟨b, off + i * 4, none⟩ = some (.int .i64 p.1) ∧ w.cell? ⟨b, off + i * 4 + 1, none⟩ = some (.int .i64 p.2.1) ∧ w.cell? ⟨b, off + i * 4 + 1 + 1, none⟩ = some (.int .i64 p.2.2.1) ∧ w.cell? ⟨b, off + i * 4 + 1 + 1 + 1, none⟩ = some (.int .i64 p.2.2.2) := by
  obtain ⟨b, off, hA, hb, hc⟩ := Sl.at_ (i := i) (cs := In.cells p) h (by simp [hi])
  exact ⟨b, off, hA, hb, hc 0 _ rfl, hc 1 _ rfl, hc 2 _ rfl, hc 3 _ rfl⟩

set_option maxRecDepth 100000 in
set_option maxHeartbeats 1600000 in
theorem valid_any (p : In.Inc) (w : World) : Calls Tryd.prog 13 #[In.agg p] w fun e w' => e = .returned (.int .i64 (In.vld p)) ∧ Ext w w' := by
  obtain ⟨a, b, c, d⟩ := p
  unfold In.agg
  simp only
  have H : (a < 1 ∨ (1 ≤ a ∧ 6 < a)) ∨ (1 ≤ a ∧ a ≤ 6) := by omega
  rcases H with H | ⟨h1, h2⟩
  · have HV : Hid (In.vld (a, b, c, d) = 1) := Lib.hid (by unfold In.vld; rw [if_pos (by simp only; omega)])
    rcases H with h1 | ⟨h1, h2⟩
    all_goals
      go_enter Tryd.func13, Tryd.ntmps13
      go_wp2
      go_ret
      exact ⟨ret_int HV.out.symm, (Ext.refl _).alloc _⟩
  · have H : (b < 0 ∨ (0 ≤ b ∧ 1099511627776 < b) ∨ (0 ≤ b ∧ b ≤ 1099511627776 ∧ c < 0) ∨ (0 ≤ b ∧ b ≤ 1099511627776 ∧ 0 ≤ c ∧ 86400 < c) ∨ (0 ≤ b ∧ b ≤ 1099511627776 ∧ 0 ≤ c ∧ c ≤ 86400 ∧ d < 0) ∨ (0 ≤ b ∧ b ≤ 1099511627776 ∧ 0 ≤ c ∧ c ≤ 86400 ∧ 0 ≤ d ∧ 3 < d)) ∨ (0 ≤ b ∧ b ≤ 1099511627776 ∧ 0 ≤ c ∧ c ≤ 86400 ∧ 0 ≤ d ∧ d ≤ 3) := by omega
    rcases H with H | ⟨h3, h4, h5, h6, h7, h8⟩
    · have HV : Hid (In.vld (a, b, c, d) = 3) := Lib.hid (by unfold In.vld; rw [if_neg (by simp only; omega), if_pos (by simp only; omega)])
      rcases H with h3 | ⟨h3, h4⟩ | ⟨h3, h4, h5⟩ | ⟨h3, h4, h5, h6⟩ | ⟨h3, h4, h5, h6, h7⟩ | ⟨h3, h4, h5, h6, h7, h8⟩
      all_goals
        go_enter Tryd.func13, Tryd.ntmps13
        go_wp2
        go_ret
        exact ⟨ret_int HV.out.symm, (Ext.refl _).alloc _⟩
    · have HV : Hid (In.vld (a, b, c, d) = 0) := Lib.hid (by unfold In.vld; rw [if_neg (by simp only; omega), if_neg (by simp only; omega)])
      go_enter Tryd.func13, Tryd.ntmps13
      go_wp2
      go_ret
      exact ⟨ret_int HV.out.symm, (Ext.refl _).alloc _⟩
theorem valid_to (p : In.Inc) {v : Int} (hv : In.vld p = v) (w : World) : Calls Tryd.prog 13 #[.agg #[.int .i64 p.1, .int .i64 p.2.1, .int .i64 p.2.2.1, .int .i64 p.2.2.2]] w fun e w' => e = .returned (.int .i64 v) ∧ Ext w w' := by
  subst hv
  exact valid_any p w

set_option maxRecDepth 100000 in
set_option maxHeartbeats 1600000 in
theorem rvalid_any (p : In.Inc) (w : World) : Calls Tryd.prog 14 #[In.agg p] w fun e w' => e = .returned (.int .i64 (In.vld p)) ∧ Ext w w' := by
  obtain ⟨a, b, c, d⟩ := p
  unfold In.agg
  simp only
  have H : (a < 1 ∨ (1 ≤ a ∧ 6 < a)) ∨ (1 ≤ a ∧ a ≤ 6) := by omega
  rcases H with H | ⟨h1, h2⟩
  · have HV : Hid (In.vld (a, b, c, d) = 1) := Lib.hid (by unfold In.vld; rw [if_pos (by simp only; omega)])
    rcases H with h1 | ⟨h1, h2⟩
    all_goals
      go_enter Tryd.func14, Tryd.ntmps14
      go_wp2
      go_ret
      exact ⟨ret_int HV.out.symm, (Ext.refl _).alloc _⟩
  · have H : (b < 0 ∨ (0 ≤ b ∧ 1099511627776 < b) ∨ (0 ≤ b ∧ b ≤ 1099511627776 ∧ c < 0) ∨ (0 ≤ b ∧ b ≤ 1099511627776 ∧ 0 ≤ c ∧ 86400 < c) ∨ (0 ≤ b ∧ b ≤ 1099511627776 ∧ 0 ≤ c ∧ c ≤ 86400 ∧ d < 0) ∨ (0 ≤ b ∧ b ≤ 1099511627776 ∧ 0 ≤ c ∧ c ≤ 86400 ∧ 0 ≤ d ∧ 3 < d)) ∨ (0 ≤ b ∧ b ≤ 1099511627776 ∧ 0 ≤ c ∧ c ≤ 86400 ∧ 0 ≤ d ∧ d ≤ 3) := by omega
    rcases H with H | ⟨h3, h4, h5, h6, h7, h8⟩
    · have HV : Hid (In.vld (a, b, c, d) = 3) := Lib.hid (by unfold In.vld; rw [if_neg (by simp only; omega), if_pos (by simp only; omega)])
      rcases H with h3 | ⟨h3, h4⟩ | ⟨h3, h4, h5⟩ | ⟨h3, h4, h5, h6⟩ | ⟨h3, h4, h5, h6, h7⟩ | ⟨h3, h4, h5, h6, h7, h8⟩
      all_goals
        go_enter Tryd.func14, Tryd.ntmps14
        go_wp2
        go_ret
        exact ⟨ret_int HV.out.symm, (Ext.refl _).alloc _⟩
    · have HV : Hid (In.vld (a, b, c, d) = 0) := Lib.hid (by unfold In.vld; rw [if_neg (by simp only; omega), if_neg (by simp only; omega)])
      go_enter Tryd.func14, Tryd.ntmps14
      go_wp2
      go_ret
      exact ⟨ret_int HV.out.symm, (Ext.refl _).alloc _⟩
theorem rvalid_to (p : In.Inc) {v : Int} (hv : In.vld p = v) (w : World) : Calls Tryd.prog 14 #[.agg #[.int .i64 p.1, .int .i64 p.2.1, .int .i64 p.2.2.1, .int .i64 p.2.2.2]] w fun e w' => e = .returned (.int .i64 v) ∧ Ext w w' := by
  subst hv
  exact rvalid_any p w

set_option maxRecDepth 100000 in
set_option maxHeartbeats 1600000 in
theorem check_any (A : Option Addr) (c : Nat) (ps : List In.Inc) (w : World) (h : SlN w A ps) (hl : ps.length ≤ maxLen) :
    Calls Tryd.prog 31 #[.slice A ps.length c] w fun e w' => e = .returned (.int .i64 (In.chk ps)) ∧ Ext w w' := by
  unfold maxLen at hl
  have H := Lib.hid h
  clear h
  by_cases hbig : 300 < ps.length
  · have hbig' : (300 : Int) < (ps.length : Int) := by omega
    have HV : Hid (In.chk ps = 5) := Lib.hid (by unfold In.chk; rw [if_pos hbig])
    go_enter Tryd.func31, Tryd.ntmps31
    go_wp2
    go_ret
    exact ⟨ret_int HV.out.symm, Ext.refl _⟩
  · have hbig' : ¬ (300 : Int) < (ps.length : Int) := by omega
    have HV : Hid (In.chk ps = In.fst ps) := Lib.hid (by unfold In.chk; rw [if_neg hbig])
    go_enter Tryd.func31, Tryd.ntmps31
    go_wp2
    go_loopw [11] (fun i wr => ∃ k : Nat, k ≤ ps.length ∧ i = .int .i64 k ∧ In.fst (ps.take k) = 0 ∧ Ext w wr) (fun i _ => ps.length - (intOf i).toNat)
    case atStart => exact ⟨0, by omega, rfl, rfl, Ext.refl _⟩
    case round =>
      obtain ⟨k, hk, rfl, hno, he⟩ := hrel
      have HNO := Lib.hid hno
      clear hno
      by_cases hlt : k < ps.length
      · obtain ⟨p, hp⟩ : ∃ p, ps[k]? = some p := ⟨ps[k], List.getElem?_eq_getElem hlt⟩
        obtain ⟨b, off, rfl, hb, c0, c1, c2, c3⟩ := (H.out.ext he).at_ hp
        have HP := Lib.hid hp
        have ki0 : (0 : Int) ≤ (k : Int) := by omega
        have ki1 : (k : Int) < (ps.length : Int) := by omega
        clear hp
        obtain ⟨v, hv⟩ : ∃ v, In.vld p = v := ⟨_, rfl⟩
        have HVV := Lib.hid hv
        clear hv
        by_cases hz : v = 0
        · have hz' : (v != 0) = false := by rw [hz]; rfl
          have HS : Hid (In.fst (ps.take (k + 1)) = 0) := Lib.hid (In.fst_step HP.out HNO.out (by rw [HVV.out]; exact hz))
          clear hz
          go_wp2_with ((with_reducible refine (valid_to p HVV.out _).mono ?_); rintro e w1 ⟨rfl, hb1⟩)
          go_roundw
          case rel => exact ⟨k + 1, by omega, by go_num, HS.out, he.trans (((Ext.refl _).alloc _).trans hb1)⟩
          case measure => simp [intOf]; omega
        · have hz' : (v != 0) = true := by rw [bne_iff_ne]; exact hz
          have HS : Hid (In.chk ps = v) := Lib.hid (by rw [HV.out, In.fst_hit HP.out HNO.out (by rw [HVV.out]; exact hz), HVV.out])
          clear hz
          go_wp2_with ((with_reducible refine (valid_to p HVV.out _).mono ?_); rintro e w1 ⟨rfl, hb1⟩)
          go_ret
          exact ⟨ret_int HS.out.symm, he.trans (((Ext.refl _).alloc _).trans hb1)⟩
      · have HS : Hid (In.chk ps = 0) := Lib.hid (by rw [HV.out, ← HNO.out, List.take_of_length_le (by omega)])
        go_wp2
        go_ret
        exact ⟨ret_int HS.out.symm, he⟩
theorem check_to (A : Option Addr) (c : Nat) (ps : List In.Inc) {n : Nat} {v : Int} (hn : ps.length = n) (hv : In.chk ps = v) (w : World) (h : SlN w A ps) (hl : n ≤ maxLen) :
    Calls Tryd.prog 31 #[.slice A n c] w fun e w' => e = .returned (.int .i64 v) ∧ Ext w w' := by
  subst hn hv
  exact check_any A c ps w h hl

set_option maxRecDepth 100000 in
set_option maxHeartbeats 1600000 in
theorem rlist_any (A : Option Addr) (c : Nat) (ps : List In.Inc) (w : World) (h : SlN w A ps) (hl : ps.length ≤ maxLen) :
    Calls Tryd.prog 36 #[.slice A ps.length c] w fun e w' => e = .returned (.int .i64 (In.chk ps)) ∧ Ext w w' := by
  unfold maxLen at hl
  have H := Lib.hid h
  clear h
  by_cases hbig : 300 < ps.length
  · have hbig' : (300 : Int) < (ps.length : Int) := by omega
    have HV : Hid (In.chk ps = 5) := Lib.hid (by unfold In.chk; rw [if_pos hbig])
    go_enter Tryd.func36, Tryd.ntmps36
    go_wp2
    go_ret
    exact ⟨ret_int HV.out.symm, Ext.refl _⟩
  · have hbig' : ¬ (300 : Int) < (ps.length : Int) := by omega
    have HV : Hid (In.chk ps = In.fst ps) := Lib.hid (by unfold In.chk; rw [if_neg hbig])
    go_enter Tryd.func36, Tryd.ntmps36
    go_wp2
    go_loopw [3] (fun i wr => ∃ k : Nat, k ≤ ps.length ∧ i = .int .i64 k ∧ In.fst (ps.take k) = 0 ∧ Ext w wr) (fun i _ => ps.length - (intOf i).toNat)
    case atStart => exact ⟨0, by omega, rfl, rfl, Ext.refl _⟩
    case round =>
      obtain ⟨k, hk, rfl, hno, he⟩ := hrel
      have HNO := Lib.hid hno
      clear hno
      by_cases hlt : k < ps.length
      · obtain ⟨p, hp⟩ : ∃ p, ps[k]? = some p := ⟨ps[k], List.getElem?_eq_getElem hlt⟩
        obtain ⟨b, off, rfl, hb, c0, c1, c2, c3⟩ := (H.out.ext he).at_ hp
        have HP := Lib.hid hp
        have ki0 : (0 : Int) ≤ (k : Int) := by omega
        have ki1 : (k : Int) < (ps.length : Int) := by omega
        clear hp
        obtain ⟨v, hv⟩ : ∃ v, In.vld p = v := ⟨_, rfl⟩
        have HVV := Lib.hid hv
        clear hv
        by_cases hz : v = 0
        · have hz' : (v != 0) = false := by rw [hz]; rfl
          have HS : Hid (In.fst (ps.take (k + 1)) = 0) := Lib.hid (In.fst_step HP.out HNO.out (by rw [HVV.out]; exact hz))
          clear hz
          go_wp2_with ((with_reducible refine (rvalid_to p HVV.out _).mono ?_); rintro e w1 ⟨rfl, hb1⟩)
          go_roundw
          case rel => exact ⟨k + 1, by omega, by go_num, HS.out, he.trans (hb1)⟩
          case measure => simp [intOf]; omega
        · have hz' : (v != 0) = true := by rw [bne_iff_ne]; exact hz
          have HS : Hid (In.chk ps = v) := Lib.hid (by rw [HV.out, In.fst_hit HP.out HNO.out (by rw [HVV.out]; exact hz), HVV.out])
          clear hz
          go_wp2_with ((with_reducible refine (rvalid_to p HVV.out _).mono ?_); rintro e w1 ⟨rfl, hb1⟩)
          go_ret
          exact ⟨ret_int HS.out.symm, he.trans (hb1)⟩
      · have HS : Hid (In.chk ps = 0) := Lib.hid (by rw [HV.out, ← HNO.out, List.take_of_length_le (by omega)])
        go_wp2
        go_ret
        exact ⟨ret_int HS.out.symm, he⟩
theorem rlist_to (A : Option Addr) (c : Nat) (ps : List In.Inc) {n : Nat} {v : Int} (hn : ps.length = n) (hv : In.chk ps = v) (w : World) (h : SlN w A ps) (hl : n ≤ maxLen) :
    Calls Tryd.prog 36 #[.slice A n c] w fun e w' => e = .returned (.int .i64 v) ∧ Ext w w' := by
  subst hn hv
  exact rlist_any A c ps w h hl
end Go.Proofs.YtcpapnnghclbmaaDoor
