/- Incidents: plain sums; Lost, Worst, Hold and Counts of the program: contracts. Conditions: those of each theorem. -/
import Derived.Test.YtcpapnnghclbmaaDoorInE
namespace Go.Proofs.YtcpapnnghclbmaaDoor
open Go.RowKit

namespace In
def lsum (l : List Inc) : Int := (l.map fun p => if p.1 ≤ 3 then p.2.2.1 else 0).sum
def lostV (l : List Inc) (most : Int) : Int := if chk l ≠ 0 then 0 else min (lsum l) (max most 0)
def wst (l : List Inc) : Int := l.foldl (fun n p => max n p.2.2.2) 0
def worstV (l : List Inc) : Int := if chk l ≠ 0 then 0 else wst l
def hp (p : Inc) : Int := (if p.2.2.2 = 3 ∨ p.1 = 5 then 2 else 0) + (if p.2.2.2 = 2 then 1 else 0)
def hpts (l : List Inc) : Int := (l.map hp).sum
def holdV (l : List Inc) : Bool := if chk l ≠ 0 then false else decide (2 ≤ hpts l)
def cnt (l : List Inc) (j : Nat) : Int := (l.map fun p => if p.1 = (j : Int) + 1 then (1 : Int) else 0).sum
def countL (l : List Inc) : List Int := [cnt l 0, cnt l 1, cnt l 2, cnt l 3, cnt l 4, cnt l 5]
def countV (l : List Inc) : List Int := if chk l ≠ 0 then [] else countL l
theorem lsum_step {l : List Inc} {k : Nat} {p : Inc} (h : l[k]? = some p) : lsum (l.take (k + 1)) = lsum (l.take k) + if p.1 ≤ 3 then p.2.2.1 else 0 := by
  unfold lsum; rw [List.take_add_one, h, List.map_append, List.sum_append]; simp
theorem wst_step {l : List Inc} {k : Nat} {p : Inc} (h : l[k]? = some p) : wst (l.take (k + 1)) = max (wst (l.take k)) p.2.2.2 := by
  unfold wst; rw [List.take_add_one, h, List.foldl_append]; rfl
theorem hpts_step {l : List Inc} {k : Nat} {p : Inc} (h : l[k]? = some p) : hpts (l.take (k + 1)) = hpts (l.take k) + hp p := by
  unfold hpts; rw [List.take_add_one, h, List.map_append, List.sum_append]; simp
theorem cnt_step {l : List Inc} {k : Nat} {p : Inc} (h : l[k]? = some p) (j : Nat) : cnt (l.take (k + 1)) j = cnt (l.take k) j + if p.1 = (j : Int) + 1 then 1 else 0 := by
  unfold cnt; rw [List.take_add_one, h, List.map_append, List.sum_append]; simp
theorem hp_nn (p : Inc) : 0 ≤ hp p ∧ hp p ≤ 3 := by unfold hp; split <;> split <;> omega
theorem hpts_nn (l : List Inc) : 0 ≤ hpts l := by
  induction l with
  | nil => simp [hpts]
  | cons p l ih => have := hp_nn p; unfold hpts at *; rw [List.map_cons, List.sum_cons]; omega
theorem hpts_append (l m : List Inc) : hpts (l ++ m) = hpts l + hpts m := by unfold hpts; rw [List.map_append, List.sum_append]
theorem hpts_big {l : List Inc} {k : Nat} {p : Inc} (h : l[k]? = some p) (hs : p.2.2.2 = 3 ∨ p.1 = 5) : 2 ≤ hpts l := by
  rw [← List.take_append_drop k l, hpts_append]
  have h1 := hpts_nn (l.take k)
  obtain ⟨hk, rfl⟩ := List.getElem?_eq_some_iff.1 h
  rw [List.drop_eq_getElem_cons hk]
  have h2 := hpts_nn (l.drop (k + 1))
  have h3 : hpts (l[k] :: l.drop (k + 1)) = hp l[k] + hpts (l.drop (k + 1)) := by unfold hpts; rw [List.map_cons, List.sum_cons]
  have h4 : 2 ≤ hp l[k] := by unfold hp; rw [if_pos hs]; split <;> omega
  omega
theorem lsum_bd {l : List Inc} (h : ∀ p ∈ l, vld p = 0) : 0 ≤ lsum l ∧ lsum l ≤ 86400 * l.length := by
  induction l with
  | nil => simp [lsum]
  | cons p l ih =>
    have h1 := ih (fun q hq => h q (List.mem_cons_of_mem _ hq))
    have h2 := vld_zero.1 (h p (by simp))
    unfold lsum at *
    rw [List.map_cons, List.sum_cons, List.length_cons]
    split <;> omega
theorem hpts_bd (l : List Inc) : hpts l ≤ 3 * l.length := by
  induction l with
  | nil => simp [hpts]
  | cons p l ih => have := hp_nn p; unfold hpts at *; rw [List.map_cons, List.sum_cons, List.length_cons]; omega
theorem cnt_bd (l : List Inc) (j : Nat) : 0 ≤ cnt l j ∧ cnt l j ≤ l.length := by
  induction l with
  | nil => simp [cnt]
  | cons p l ih => unfold cnt at *; rw [List.map_cons, List.sum_cons, List.length_cons]; split <;> omega
theorem wst_bd {l : List Inc} (h : ∀ p ∈ l, vld p = 0) : 0 ≤ wst l ∧ wst l ≤ 3 := by
  suffices hh : ∀ (l : List Inc) (n : Int), (∀ p ∈ l, vld p = 0) → 0 ≤ n → n ≤ 3 → 0 ≤ l.foldl (fun n p => max n p.2.2.2) n ∧ l.foldl (fun n p => max n p.2.2.2) n ≤ 3 from hh l 0 h (by omega) (by omega)
  intro l
  induction l with
  | nil => intro n _ h1 h2; exact ⟨h1, h2⟩
  | cons p l ih =>
    intro n hv h1 h2
    have h3 := vld_zero.1 (hv p (by simp))
    rw [List.foldl_cons]
    exact ih _ (fun q hq => hv q (List.mem_cons_of_mem _ hq)) (by omega) (by omega)
theorem ite_max (a b : Int) : (if a < b then b else a) = max a b := by split <;> omega
theorem ite_min (a b : Int) : (if b < a then b else a) = min a b := by split <;> omega
end In

set_option maxRecDepth 100000 in
set_option maxHeartbeats 3200000 in
theorem lost_any (A : Option Addr) (c : Nat) (ps : List In.Inc) (most : Int) (w : World) (h : (⟨A, c, ps⟩ : NL).In w) :
    Calls Tryd.prog 16 #[.slice A ps.length c, .int .i64 most] w fun e w' => e = .returned (.tuple #[.int .i64 (In.lostV ps most), .int .i64 (In.chk ps)]) ∧ Ext w w' := by
  have hl : ps.length ≤ maxLen := Nat.le_trans h.2.1 h.2.2.1
  have H := Lib.hid h.1
  clear h
  obtain ⟨n, hn⟩ : ∃ n, ps.length = n := ⟨_, rfl⟩
  rw [hn] at hl ⊢
  have HN := Lib.hid hn
  clear hn
  obtain ⟨er, her⟩ : ∃ v, In.chk ps = v := ⟨_, rfl⟩
  have HE := Lib.hid her
  clear her
  by_cases z : er = 0
  · have z' : (er != 0) = false := by rw [z]; rfl
    have HC : Hid (In.chk ps = 0) := Lib.hid (by rw [HE.out, z])
    clear z
    have hn3 : n ≤ 300 := by rw [← HN.out]; exact (In.chk_zero.1 HC.out).1
    have HV : Hid (∀ p ∈ ps, In.vld p = 0) := Lib.hid (In.chk_zero.1 HC.out).2
    go_enter Tryd.func16, Tryd.ntmps16
    go_wp2_with fail
    refine (check_to A c ps HN.out HE.out _ H.out hl).mono ?_
    rintro e w1 ⟨rfl, hb1⟩
    go_wp2_with fail
    go_loopw [17, 7] (fun i t wr => ∃ k : Nat, k ≤ n ∧ i = .int .i64 k ∧ ∃ s : Int, t = .int .i64 s ∧ In.lsum (ps.take k) = s ∧ 0 ≤ s ∧ s ≤ 86400 * (k : Int) ∧ Ext w1 wr) (fun i _ _ => n - (intOf i).toNat)
    case atStart => exact ⟨0, by omega, rfl, 0, rfl, rfl, by omega, by omega, Ext.refl _⟩
    case round =>
      obtain ⟨k, hk, rfl, s, rfl, hls, hs0, hs1, he⟩ := hrel
      have HLS := Lib.hid hls
      clear hls
      by_cases hlt : k < n
      · obtain ⟨p, hp⟩ : ∃ p, ps[k]? = some p := ⟨ps[k]'(by rw [HN.out]; exact hlt), List.getElem?_eq_getElem _⟩
        obtain ⟨b, off, rfl, hb, c0, c1, c2, c3⟩ := (H.out.ext (hb1.trans he)).at_ hp
        have hv := In.vld_zero.1 (HV.out p (List.mem_of_getElem? hp))
        obtain ⟨p1, p2, p3, p4⟩ := p
        simp only at c0 c1 c2 c3 hv
        obtain ⟨⟨v1, v2⟩, ⟨v3, v4⟩, ⟨v5, v6⟩, ⟨v7, v8⟩⟩ := hv
        have HP := Lib.hid hp
        clear hp
        have ki0 : (0 : Int) ≤ (k : Int) := by omega
        have ki1 : (k : Int) < (n : Int) := by omega
        have hc : p1 = 1 ∨ p1 = 2 ∨ p1 = 3 ∨ 3 < p1 := by omega
        have hs1' : s + p3 ≤ 86400 * ((k + 1 : Nat) : Int) := by omega
        have hs0' : 0 ≤ s + p3 := by omega
        rcases hc with rfl | rfl | rfl | hc
        · have HS : Hid (In.lsum (ps.take (k + 1)) = s + p3) := Lib.hid (by rw [In.lsum_step HP.out, HLS.out]; rfl)
          go_wp2
          go_roundw
          case rel => exact ⟨k + 1, by omega, by go_num, _, rfl, HS.out, hs0', hs1', (he.alloc _)⟩
          case measure => simp [intOf]; omega
        · have HS : Hid (In.lsum (ps.take (k + 1)) = s + p3) := Lib.hid (by rw [In.lsum_step HP.out, HLS.out]; rfl)
          go_wp2
          go_roundw
          case rel => exact ⟨k + 1, by omega, by go_num, _, rfl, HS.out, hs0', hs1', (he.alloc _)⟩
          case measure => simp [intOf]; omega
        · have HS : Hid (In.lsum (ps.take (k + 1)) = s + p3) := Lib.hid (by rw [In.lsum_step HP.out, HLS.out]; rfl)
          go_wp2
          go_roundw
          case rel => exact ⟨k + 1, by omega, by go_num, _, rfl, HS.out, hs0', hs1', (he.alloc _)⟩
          case measure => simp [intOf]; omega
        · have HS : Hid (In.lsum (ps.take (k + 1)) = s) := Lib.hid (by rw [In.lsum_step HP.out, HLS.out, if_neg (by simp only; omega)]; omega)
          have hs1' : s ≤ 86400 * ((k + 1 : Nat) : Int) := by omega
          have hs0' : 0 ≤ s := by omega
          have q1 : (p1 == 1) = false := by rw [beq_eq_false_iff_ne]; omega
          have q2 : (p1 == 2) = false := by rw [beq_eq_false_iff_ne]; omega
          have q3 : (p1 == 3) = false := by rw [beq_eq_false_iff_ne]; omega
          go_wp2
          go_roundw
          case rel => exact ⟨k + 1, by omega, by go_num, _, rfl, HS.out, hs0', hs1', (he.alloc _)⟩
          case measure => simp [intOf]; omega
      · have HF : Hid (In.lostV ps most = min s (max most 0)) := Lib.hid (by
          unfold In.lostV
          rw [if_neg (by rw [HC.out]; simp), ← HLS.out, List.take_of_length_le (by rw [HN.out]; omega)])
        go_wp2
        all_goals
          go_ret2
          exact ⟨ret_two (by rw [HF.out] <;> omega) HC.out.symm, hb1.trans he⟩
  · have z' : (er != 0) = true := by rw [bne_iff_ne]; exact z
    have HR : Hid (In.chk ps ≠ 0) := Lib.hid (by rw [HE.out]; exact z)
    clear z
    go_enter Tryd.func16, Tryd.ntmps16
    go_wp2_with fail
    refine (check_to A c ps HN.out HE.out _ H.out hl).mono ?_
    rintro e w1 ⟨rfl, hb1⟩
    go_wp2
    go_ret2
    exact ⟨ret_two (by unfold In.lostV; rw [if_pos HR.out]) HE.out.symm, hb1⟩

set_option maxRecDepth 100000 in
set_option maxHeartbeats 3200000 in
theorem worst_any (A : Option Addr) (c : Nat) (ps : List In.Inc) (w : World) (h : (⟨A, c, ps⟩ : NL).In w) :
    Calls Tryd.prog 18 #[.slice A ps.length c] w fun e w' => e = .returned (.tuple #[.int .i64 (In.worstV ps), .int .i64 (In.chk ps)]) ∧ Ext w w' := by
  have hl : ps.length ≤ maxLen := Nat.le_trans h.2.1 h.2.2.1
  have H := Lib.hid h.1
  clear h
  obtain ⟨n, hn⟩ : ∃ n, ps.length = n := ⟨_, rfl⟩
  rw [hn] at hl ⊢
  have HN := Lib.hid hn
  clear hn
  obtain ⟨er, her⟩ : ∃ v, In.chk ps = v := ⟨_, rfl⟩
  have HE := Lib.hid her
  clear her
  by_cases z : er = 0
  · have z' : (er != 0) = false := by rw [z]; rfl
    have HC : Hid (In.chk ps = 0) := Lib.hid (by rw [HE.out, z])
    clear z
    have hn3 : n ≤ 300 := by rw [← HN.out]; exact (In.chk_zero.1 HC.out).1
    have HV : Hid (∀ p ∈ ps, In.vld p = 0) := Lib.hid (In.chk_zero.1 HC.out).2
    go_enter Tryd.func18, Tryd.ntmps18
    go_wp2_with fail
    refine (check_to A c ps HN.out HE.out _ H.out hl).mono ?_
    rintro e w1 ⟨rfl, hb1⟩
    go_wp2_with fail
    go_loopw [15, 5] (fun i t wr => ∃ k : Nat, k ≤ n ∧ i = .int .i64 k ∧ ∃ s : Int, t = .int .i64 s ∧ In.wst (ps.take k) = s ∧ Ext w1 wr) (fun i _ _ => n - (intOf i).toNat)
    case atStart => exact ⟨0, by omega, rfl, 0, rfl, rfl, Ext.refl _⟩
    case round =>
      obtain ⟨k, hk, rfl, s, rfl, hls, he⟩ := hrel
      have HLS := Lib.hid hls
      clear hls
      by_cases hlt : k < n
      · obtain ⟨p, hp⟩ : ∃ p, ps[k]? = some p := ⟨ps[k]'(by rw [HN.out]; exact hlt), List.getElem?_eq_getElem _⟩
        obtain ⟨b, off, rfl, hb, c0, c1, c2, c3⟩ := (H.out.ext (hb1.trans he)).at_ hp
        have hv := In.vld_zero.1 (HV.out p (List.mem_of_getElem? hp))
        obtain ⟨p1, p2, p3, p4⟩ := p
        simp only at c0 c1 c2 c3 hv
        obtain ⟨⟨v1, v2⟩, ⟨v3, v4⟩, ⟨v5, v6⟩, ⟨v7, v8⟩⟩ := hv
        have HP := Lib.hid hp
        clear hp
        have ki0 : (0 : Int) ≤ (k : Int) := by omega
        have ki1 : (k : Int) < (n : Int) := by omega
        have HS : Hid (In.wst (ps.take (k + 1)) = max s p4) := Lib.hid (by rw [In.wst_step HP.out, HLS.out])
        go_wp2
        go_roundw
        case rel => exact ⟨k + 1, by omega, by go_num, _, rfl, by rw [HS.out] <;> first | rfl | exact (In.ite_max _ _).symm | omega, (he.alloc _)⟩
        case measure => simp [intOf]; omega
      · have HF : Hid (In.worstV ps = s) := Lib.hid (by
          unfold In.worstV
          rw [if_neg (by rw [HC.out]; simp), ← HLS.out, List.take_of_length_le (by rw [HN.out]; omega)])
        go_wp2
        go_ret2
        exact ⟨ret_two HF.out.symm HC.out.symm, hb1.trans he⟩
  · have z' : (er != 0) = true := by rw [bne_iff_ne]; exact z
    have HR : Hid (In.chk ps ≠ 0) := Lib.hid (by rw [HE.out]; exact z)
    clear z
    go_enter Tryd.func18, Tryd.ntmps18
    go_wp2_with fail
    refine (check_to A c ps HN.out HE.out _ H.out hl).mono ?_
    rintro e w1 ⟨rfl, hb1⟩
    go_wp2
    go_ret2
    exact ⟨ret_two (by unfold In.worstV; rw [if_pos HR.out]) HE.out.symm, hb1⟩

set_option maxRecDepth 100000 in
set_option maxHeartbeats 3200000 in
theorem hold_any (A : Option Addr) (c : Nat) (ps : List In.Inc) (w : World) (h : (⟨A, c, ps⟩ : NL).In w) :
    Calls Tryd.prog 20 #[.slice A ps.length c] w fun e w' => e = .returned (.tuple #[.bool (In.holdV ps), .int .i64 (In.chk ps)]) ∧ Ext w w' := by
  have hl : ps.length ≤ maxLen := Nat.le_trans h.2.1 h.2.2.1
  have H := Lib.hid h.1
  clear h
  obtain ⟨n, hn⟩ : ∃ n, ps.length = n := ⟨_, rfl⟩
  rw [hn] at hl ⊢
  have HN := Lib.hid hn
  clear hn
  obtain ⟨er, her⟩ : ∃ v, In.chk ps = v := ⟨_, rfl⟩
  have HE := Lib.hid her
  clear her
  by_cases z : er = 0
  · have z' : (er != 0) = false := by rw [z]; rfl
    have HC : Hid (In.chk ps = 0) := Lib.hid (by rw [HE.out, z])
    clear z
    have hn3 : n ≤ 300 := by rw [← HN.out]; exact (In.chk_zero.1 HC.out).1
    have HV : Hid (∀ p ∈ ps, In.vld p = 0) := Lib.hid (In.chk_zero.1 HC.out).2
    go_enter Tryd.func20, Tryd.ntmps20
    go_wp2_with fail
    refine (check_to A c ps HN.out HE.out _ H.out hl).mono ?_
    rintro e w1 ⟨rfl, hb1⟩
    go_wp2_with fail
    go_loopw [15, 5] (fun i t wr => ∃ k : Nat, k ≤ n ∧ i = .int .i64 k ∧ ∃ s : Int, t = .int .i64 s ∧ In.hpts (ps.take k) = s ∧ 0 ≤ s ∧ s ≤ 3 * (k : Int) ∧ Ext w1 wr) (fun i _ _ => n - (intOf i).toNat)
    case atStart => exact ⟨0, by omega, rfl, 0, rfl, rfl, by omega, by omega, Ext.refl _⟩
    case round =>
      obtain ⟨k, hk, rfl, s, rfl, hls, hs0, hs1, he⟩ := hrel
      have HLS := Lib.hid hls
      clear hls
      by_cases hlt : k < n
      · obtain ⟨p, hp⟩ : ∃ p, ps[k]? = some p := ⟨ps[k]'(by rw [HN.out]; exact hlt), List.getElem?_eq_getElem _⟩
        obtain ⟨b, off, rfl, hb, c0, c1, c2, c3⟩ := (H.out.ext (hb1.trans he)).at_ hp
        have hv := In.vld_zero.1 (HV.out p (List.mem_of_getElem? hp))
        obtain ⟨p1, p2, p3, p4⟩ := p
        simp only at c0 c1 c2 c3 hv
        obtain ⟨⟨v1, v2⟩, ⟨v3, v4⟩, ⟨v5, v6⟩, ⟨v7, v8⟩⟩ := hv
        have HP := Lib.hid hp
        clear hp
        have ki0 : (0 : Int) ≤ (k : Int) := by omega
        have ki1 : (k : Int) < (n : Int) := by omega
        by_cases hg : p4 = 3
        · subst hg
          have HF : Hid (In.holdV ps = true) := Lib.hid (by
            unfold In.holdV
            rw [if_neg (by rw [HC.out]; simp)]
            exact decide_eq_true (In.hpts_big HP.out (Or.inl rfl)))
          go_wp2
          go_ret2
          exact ⟨ret_bint HF.out.symm HC.out.symm, hb1.trans (he.alloc _)⟩
        · have hg' : (p4 == 3) = false := by rw [beq_eq_false_iff_ne]; exact hg
          by_cases hi : p1 = 5
          · subst hi
            have HF : Hid (In.holdV ps = true) := Lib.hid (by
              unfold In.holdV
              rw [if_neg (by rw [HC.out]; simp)]
              exact decide_eq_true (In.hpts_big HP.out (Or.inr rfl)))
            go_wp2
            go_ret2
            exact ⟨ret_bint HF.out.symm HC.out.symm, hb1.trans (he.alloc _)⟩
          · have hi' : (p1 == 5) = false := by rw [beq_eq_false_iff_ne]; exact hi
            by_cases h2 : p4 = 2
            · subst h2
              have HS : Hid (In.hpts (ps.take (k + 1)) = s + 1) := Lib.hid (by rw [In.hpts_step HP.out, HLS.out]; unfold In.hp; rw [if_neg (by simp only; omega), if_pos rfl]; omega)
              clear hg hi
              go_wp2
              go_roundw
              case rel => exact ⟨k + 1, by omega, by go_num, _, rfl, by rw [HS.out] <;> first | rfl | omega, by omega, by omega, (he.alloc _)⟩
              case measure => simp [intOf]; omega
            · have h2' : (p4 == 2) = false := by rw [beq_eq_false_iff_ne]; exact h2
              have HS : Hid (In.hpts (ps.take (k + 1)) = s) := Lib.hid (by rw [In.hpts_step HP.out, HLS.out]; unfold In.hp; rw [if_neg (by simp only; omega), if_neg h2]; omega)
              clear hg hi h2
              go_wp2
              go_roundw
              case rel => exact ⟨k + 1, by omega, by go_num, _, rfl, by rw [HS.out] <;> first | rfl | omega, by omega, by omega, (he.alloc _)⟩
              case measure => simp [intOf]; omega
      · have HF : Hid (In.holdV ps = decide (2 ≤ s)) := Lib.hid (by
          unfold In.holdV
          rw [if_neg (by rw [HC.out]; simp), ← HLS.out, List.take_of_length_le (by rw [HN.out]; omega)])
        go_wp2
        go_ret2
        exact ⟨ret_bint HF.out.symm HC.out.symm, hb1.trans he⟩
  · have z' : (er != 0) = true := by rw [bne_iff_ne]; exact z
    have HR : Hid (In.chk ps ≠ 0) := Lib.hid (by rw [HE.out]; exact z)
    clear z
    go_enter Tryd.func20, Tryd.ntmps20
    go_wp2_with fail
    refine (check_to A c ps HN.out HE.out _ H.out hl).mono ?_
    rintro e w1 ⟨rfl, hb1⟩
    go_wp2
    go_ret2
    exact ⟨ret_bint (by unfold In.holdV; rw [if_pos HR.out]) HE.out.symm, hb1⟩

/-- The counts lie in block g, and may be written. -/
def CntAt (w : World) (g : Nat) (l : List In.Inc) : Prop := g < w.heap.size ∧ ∀ j : Nat, j < 6 → w.cell? ⟨g, j, none⟩ = some (.int .i64 (In.cnt l j)) ∧ w.frozen? ⟨g, j, none⟩ = false
theorem CntAt.ext {w w' : World} {g : Nat} {l : List In.Inc} (h : CntAt w g l) (he : Ext w w') : CntAt w' g l := by
  obtain ⟨hc, hf⟩ := he.cells
  exact ⟨Nat.lt_of_lt_of_le h.1 he.size, fun j hj => by rw [hc _ _ h.1, hf _ _ h.1]; exact h.2 j hj⟩
theorem CntAt.step {w : World} {g : Nat} {l : List In.Inc} {k : Nat} {p : In.Inc} (h : CntAt w g (l.take k)) (hp : l[k]? = some p) {j : Nat} (hj : j < 6) (hk : p.1 = (j : Int) + 1) : CntAt (w.setCell ⟨g, j, none⟩ (.int .i64 (In.cnt (l.take k) j + 1))) g (l.take (k + 1)) := by
  refine ⟨by simpa [World.setCell] using h.1, fun i hi => ?_⟩
  rw [World.frozen?_setCell]
  refine ⟨?_, (h.2 i hi).2⟩
  rw [In.cnt_step hp]
  by_cases e : i = j
  · subst e
    rw [if_pos hk]
    exact World.cell?_setCell_same _ _ _ (h.2 i hi).1
  · rw [if_neg (by omega), World.cell?_setCell_other _ _ _ _ (by simp <;> omega), Int.add_zero]
    exact (h.2 i hi).1
theorem CntAt.sl {w : World} {g : Nat} {l : List In.Inc} (h : CntAt w g l) : SlI w (some ⟨g, 0, none⟩) (In.countL l) := by
  refine Or.inr ⟨g, 0, rfl, h.1, fun i cs hi j v hv => ?_⟩
  have hi6 : i < 6 := by
    rcases Nat.lt_or_ge i 6 with e | e
    · exact e
    · rw [List.getElem?_eq_none (by simpa [In.countL] using e)] at hi; cases hi
  have hcs : cs = [.int .i64 (In.cnt l i)] := by
    match i, hi6, hi with
    | 0, _, hi => simpa [In.countL] using hi.symm
    | 1, _, hi => simpa [In.countL] using hi.symm
    | 2, _, hi => simpa [In.countL] using hi.symm
    | 3, _, hi => simpa [In.countL] using hi.symm
    | 4, _, hi => simpa [In.countL] using hi.symm
    | 5, _, hi => simpa [In.countL] using hi.symm
  subst hcs
  match j, hv with
  | 0, hv =>
    simp at hv
    subst hv
    simpa using (h.2 i hi6).1
theorem CntAt.new (w : World) (t : TypeId) : CntAt (w.alloc (.cells #[.int .i64 0, .int .i64 0, .int .i64 0, .int .i64 0, .int .i64 0, .int .i64 0] t)) w.heap.size [] := by
  refine ⟨by simp, fun j hj => ?_⟩
  match j, hj with
  | 0, _ => exact ⟨by simp [go_sem, In.cnt], by simp [go_sem]⟩
  | 1, _ => exact ⟨by simp [go_sem, In.cnt], by simp [go_sem]⟩
  | 2, _ => exact ⟨by simp [go_sem, In.cnt], by simp [go_sem]⟩
  | 3, _ => exact ⟨by simp [go_sem, In.cnt], by simp [go_sem]⟩
  | 4, _ => exact ⟨by simp [go_sem, In.cnt], by simp [go_sem]⟩
  | 5, _ => exact ⟨by simp [go_sem, In.cnt], by simp [go_sem]⟩

/-- The post of a function that returns numbers and an error. -/
def RetCnt (xs : List Int) (er : Int) (e : Ending) (w' : World) : Prop := ∃ (X : Option Addr) (xc : Nat), e = .returned (.tuple #[.slice X xs.length xc, .int .i64 er]) ∧ SlI w' X xs

set_option maxRecDepth 100000 in
set_option maxHeartbeats 3200000 in
theorem counts_any (A : Option Addr) (c : Nat) (ps : List In.Inc) (w : World) (h : (⟨A, c, ps⟩ : NL).In w) :
    Calls Tryd.prog 22 #[.slice A ps.length c] w fun e w' => RetCnt (In.countV ps) (In.chk ps) e w' ∧ Ext w w' := by
  have hl : ps.length ≤ maxLen := Nat.le_trans h.2.1 h.2.2.1
  have H := Lib.hid h.1
  clear h
  obtain ⟨n, hn⟩ : ∃ n, ps.length = n := ⟨_, rfl⟩
  rw [hn] at hl ⊢
  have HN := Lib.hid hn
  clear hn
  obtain ⟨er, her⟩ : ∃ v, In.chk ps = v := ⟨_, rfl⟩
  have HE := Lib.hid her
  clear her
  by_cases z : er = 0
  · have z' : (er != 0) = false := by rw [z]; rfl
    have HC : Hid (In.chk ps = 0) := Lib.hid (by rw [HE.out, z])
    clear z
    have hn3 : n ≤ 300 := by rw [← HN.out]; exact (In.chk_zero.1 HC.out).1
    have HV : Hid (∀ p ∈ ps, In.vld p = 0) := Lib.hid (In.chk_zero.1 HC.out).2
    go_enter Tryd.func22, Tryd.ntmps22
    go_wp2_with fail
    refine (check_to A c ps HN.out HE.out _ H.out hl).mono ?_
    rintro e w1 ⟨rfl, hb1⟩
    have hmk : ∀ w, (Instr.makeSlice 37 (.int .i64 6) (.int .i64 6)).run Tryd.prog w = .ok (.slice (some ⟨w.heap.size, 0, none⟩) 6 6) (w.alloc (.cells #[.int .i64 0, .int .i64 0, .int .i64 0, .int .i64 0, .int .i64 0, .int .i64 0] 3)) := fun w => by kernel_rfl
    go_wp2_with fail
    clear hmk
    go_loopw [16] (fun i wr => ∃ k : Nat, k ≤ n ∧ i = .int .i64 k ∧ CntAt wr w1.heap.size (ps.take k) ∧ Ext w1 wr) (fun i _ => n - (intOf i).toNat)
    case atStart => exact ⟨0, by omega, rfl, CntAt.new _ _, (Ext.refl _).alloc _⟩
    case round =>
      obtain ⟨k, hk, rfl, hcn, he⟩ := hrel
      have HCN := Lib.hid hcn
      have hgl := hcn.1
      clear hcn
      by_cases hlt : k < n
      · obtain ⟨p, hp⟩ : ∃ p, ps[k]? = some p := ⟨ps[k]'(by rw [HN.out]; exact hlt), List.getElem?_eq_getElem _⟩
        obtain ⟨b, off, rfl, hb, c0, c1, c2, c3⟩ := (H.out.ext (hb1.trans he)).at_ hp
        have hv := In.vld_zero.1 (HV.out p (List.mem_of_getElem? hp))
        obtain ⟨p1, p2, p3, p4⟩ := p
        simp only at c0 c1 c2 c3 hv
        obtain ⟨⟨v1, v2⟩, ⟨v3, v4⟩, ⟨v5, v6⟩, ⟨v7, v8⟩⟩ := hv
        have HP := Lib.hid hp
        clear hp
        have ki0 : (0 : Int) ≤ (k : Int) := by omega
        have ki1 : (k : Int) < (n : Int) := by omega
        obtain ⟨j, hj⟩ : ∃ j : Nat, p1 = (j : Int) + 1 := ⟨(p1 - 1).toNat, by omega⟩
        subst hj
        have hj6 : j < 6 := by omega
        have hj6' : (j : Int) < 6 := by omega
        have hj0 : (0 : Int) ≤ (j : Int) := by omega
        obtain ⟨g0, f0⟩ := HCN.out.2 j hj6
        have hbd := In.cnt_bd (ps.take k) j
        have hbl : ((ps.take k).length : Int) ≤ 300 := by rw [List.length_take]; omega
        obtain ⟨t, ht⟩ : ∃ t, In.cnt (ps.take k) j = t := ⟨_, rfl⟩
        rw [ht] at g0 hbd
        have HT := Lib.hid ht
        clear ht
        obtain ⟨q0, q1⟩ := hbd
        have hne : w1.heap.size ≠ wr.heap.size := by omega
        have hne' : wr.heap.size ≠ w1.heap.size := by omega
        go_wp2
        go_roundw
        case rel =>
          refine ⟨k + 1, by omega, by go_num, ?_, (Ext.setCell he (Nat.le_refl _) _).alloc _⟩
          rw [← HT.out]
          exact (CntAt.step HCN.out HP.out hj6 rfl).ext ((Ext.refl _).alloc _)
        case measure => simp [intOf]; omega
      · have HF : Hid (In.countV ps = In.countL (ps.take k)) := Lib.hid (by
          unfold In.countV
          rw [if_neg (by rw [HC.out]; simp), List.take_of_length_le (by rw [HN.out]; omega)])
        go_wp2
        go_ret2
        refine ⟨?_, hb1.trans he⟩
        rw [HF.out, HC.out]
        exact ⟨_, _, rfl, HCN.out.sl⟩
  · have z' : (er != 0) = true := by rw [bne_iff_ne]; exact z
    have HR : Hid (In.chk ps ≠ 0) := Lib.hid (by rw [HE.out]; exact z)
    clear z
    go_enter Tryd.func22, Tryd.ntmps22
    go_wp2_with fail
    refine (check_to A c ps HN.out HE.out _ H.out hl).mono ?_
    rintro e w1 ⟨rfl, hb1⟩
    go_wp2
    go_ret2
    refine ⟨?_, hb1⟩
    rw [show In.countV ps = [] by unfold In.countV; rw [if_pos HR.out], HE.out]
    exact ⟨none, 0, rfl, SlI.nil _ _⟩
end Go.Proofs.YtcpapnnghclbmaaDoor
