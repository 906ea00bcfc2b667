/- strings.ReplaceAll of one byte by another, strings.HasPrefix, HasSuffix, Contains, Cut, slices.Equal, bits.Len64: contracts out of the library's shelf. Conditions: those of each theorem. -/
import Derived.Test.YtfnmgcblhebdbaaGreatDoorShIt
import Derived.Test.YtfnmgcblhebdbaaGreatDoorItE
import Derived.Shelf.Strings.Replace
import Derived.Lib.SplitLaws
namespace Go.Proofs.YtfnmgcblhebdbaaGreatDoor
open Go.Shelf Go.RowKit Go.Lib

section
variable {P : Program} {ρ : Ren}
theorem countOne (L : Lays.n154 P ρ) (s : ByteArray) (c : UInt8) (w : World) : Calls P (ρ.f 138) #[.string s, .string ⟨#[c]⟩] w fun e w' => e = .returned (.int .i64 (Lib.countB s ⟨#[c]⟩)) ∧ w' = w := by
  have h := Any.strings_Count_one { L with } s c w
  have e : Lib.countB s ⟨#[c]⟩ = Lib.countByte s.data.toList c := Lib.count_one c s.data.toList
  rw [e]; exact h
theorem indexOne (L : Lays.n154 P ρ) (s : ByteArray) (c : UInt8) (w : World) : Calls P (ρ.f 143) #[.string s, .string ⟨#[c]⟩] w fun e w' => e = .returned (.int .i64 (Lib.index s.data.toList [c])) ∧ w' = w := by
  have h := Any.strings_Index_one { L with } s c w
  rw [Lib.index_one]; exact h

set_option maxHeartbeats 16000000 in
set_option maxRecDepth 1000000 in
theorem replaceOne_some (L : Lays.n154 P ρ) (X : Builder.Extra P ρ) (s old new : ByteArray) (c : UInt8) (ho : old = ⟨#[c]⟩) (hnw : new.size = 1) (w : World)
    (hs : s.size ≤ 140737488351232) (hne : old ≠ new) (hc0 : Lib.countB s old ≠ 0) :
    Calls P (ρ.f 154) #[.string s, .string old, .string new, .int .i64 (-1)] w fun e w' =>
      e = .returned (.string ⟨(Lib.replaceK old.data.toList new.data.toList (Lib.countB s old) s.data.toList).toArray⟩) ∧ Below w.heap.size w w' := by
  have hC : Calls P (ρ.f 138) #[.string s, .string old] w fun e w' => e = .returned (.int .i64 (Lib.countB s old)) ∧ w' = w := by
    subst ho
    exact countOne L s c w
  have hIx : ∀ (u : ByteArray) (w : World), Calls P (ρ.f 143) #[.string u, .string old] w fun e w' => e = .returned (.int .i64 (Lib.index u.data.toList old.data.toList)) ∧ w' = w := fun u w => by
    subst ho
    exact indexOne L u c w
  have HIX := Lib.hid hIx
  have hold : old.size = 1 := by rw [ho]; rfl
  have h1 : 1 ≤ old.size := by omega
  have hmul := Lib.countB_mul_le old h1 s.size s (Nat.le_refl _)
  obtain ⟨K, hK⟩ : ∃ K : Nat, Lib.countB s old = K := ⟨_, rfl⟩
  rw [hK] at hC hc0 hmul ⊢
  have hcn' : Lib.count s.data.toList old.data.toList = K := hK
  clear hIx ho
  have hbeq : (old.toList == new.toList) = false := (Lib.bytes_beq_false_iff old new).2 hne
  have hcz : ((K : Int) == 0) = false := beq_eq_false_iff_ne.2 (by omega)
  have ho0 : (0 : Int) < (old.size : Int) := by omega
  have hlenL : s.data.toList.length = s.size := (Lib.size_eq s).symm
  have hlenO : old.data.toList.length = old.size := (Lib.size_eq old).symm
  have hK1 : 1 ≤ K := by omega
  have hKo : K * old.size ≤ s.size := hmul
  have hKs : K ≤ s.size := Nat.le_trans (Nat.le_mul_of_pos_right K (by omega)) hKo
  have hga : wrap64 ((s.size : Int) + wrap64 ((K : Int) * wrap64 ((new.size : Int) - (old.size : Int)))) = ((s.size : Nat) : Int) := by
    rw [hnw, hold]
    have e1 : wrap64 (((1 : Nat) : Int) - ((1 : Nat) : Int)) = 0 := (IntWalk.wrap64_in _ ⟨by decide, by decide⟩).trans (by decide)
    rw [e1, Int.mul_zero, show wrap64 0 = 0 from IntWalk.wrap64_in _ ⟨by decide, by decide⟩, Int.add_zero]
    exact IntWalk.wrap64_in _ ⟨by omega, by omega⟩
  have hKcount : K ≤ Lib.count (s.data.toList.drop 0) old.data.toList := by rw [List.drop_zero, hcn']; exact Nat.le_refl _
  clear hK hcn' hmul
  have hod : decide (0 < old.size) = true := decide_eq_true (by omega)
  (
    have mixed := L.mixed
    have t72 := L.t72; have a72 := L.a72; have z72 := L.z72; have v72 := L.v72; have u72 := run_underlying L.t72
    have t70 := L.t70; have a70 := L.a70; have z70 := L.z70; have v70 := L.v70; have u70 := run_underlying L.t70
    have t37 := L.t37; have a37 := L.a37; have z37 := L.z37; have v37 := L.v37; have u37 := run_underlying L.t37
    have t3 := L.t3; have a3 := L.a3; have z3 := L.z3; have v3 := L.v3; have u3 := run_underlying L.t3
    have t9 := L.t9; have a9 := L.a9; have z9 := L.z9; have v9 := L.v9; have u9 := run_underlying L.t9
    have t4 := L.t4; have a4 := L.a4; have z4 := L.z4; have v4 := L.v4; have u4 := run_underlying L.t4
    have e138 : ∀ args w, (callFunc (ρ.f 138) args).run P w = .ok (.enter (ρ.f 138) args) w := enters_of L.f138 (by kernel_rfl) rfl
    have e143 : ∀ args w, (callFunc (ρ.f 143) args).run P w = .ok (.enter (ρ.f 143) args) w := enters_of L.f143 (by kernel_rfl) rfl
    have e165 : ∀ args w, (callFunc (ρ.f 165) args).run P w = .ok (.enter (ρ.f 165) args) w := enters_of L.f165 (by kernel_rfl) rfl
    have e166 : ∀ args w, (callFunc (ρ.f 166) args).run P w = .ok (.enter (ρ.f 166) args) w := enters_of L.f166 (by kernel_rfl) rfl
    have e169 : ∀ args w, (callFunc (ρ.f 169) args).run P w = .ok (.enter (ρ.f 169) args) w := enters_of L.f169 (by kernel_rfl) rfl
    go_enter L.f154, Body.n154_ntmps ρ
    go_wp2_with (first | (go_at_fn (ρ.f 138); refine hC.mono ?_; rintro e w' ⟨rfl, hw⟩; rw [hw]))
    (
    clear hC
    try rw [hga]
    refine (Any.Builder_Grow_fresh { L with } X w.heap.size w.heap.size _ _ (Nat.le_refl _) (heap_alloc_new w _) (by simp) (by omega)).mono ?_
    rintro e w1 ⟨rfl, hb0, hb1⟩
    have H1 := Any.hidR (Or.inr hb0 : Lib.IsBuilder (ρ.t 72) (ρ.t 5) w.heap.size w.heap.size (Lib.byteCells []) w1)
    have Hb1 := Any.hidR (((Below.refl w.heap.size w).alloc (Nat.le_refl _) _).trans hb1)
    clear hb0 hb1 hga
    go_wp2_with fail
    go_loopg [11, 53] K (fun g s11 s53 wx => ∃ (i start : Nat) (acc : List UInt8), s53 = .int .i64 i ∧ s11 = .int .i64 start ∧ i + g = K ∧ start ≤ s.size ∧
      Hid (Lib.IsBuilder (ρ.t 72) (ρ.t 5) w.heap.size w.heap.size (Lib.byteCells acc) wx) ∧ Hid (Below w.heap.size w wx) ∧ Hid (acc ++ Lib.replaceK old.data.toList new.data.toList g (s.data.toList.drop start) = Lib.replaceK old.data.toList new.data.toList K s.data.toList) ∧
      g ≤ Lib.count (s.data.toList.drop start) old.data.toList ∧ acc.length = start)
    case atStart => exact ⟨0, 0, [], rfl, rfl, by omega, Nat.zero_le _, H1, Hb1, Any.hidR (by simp), hKcount, rfl⟩
    case round =>
      obtain ⟨i, start, acc, rfl, rfl, hig, hst, HB, HW, HR, hgc, hbd⟩ := hrel
      have hBw : w.heap.size ≤ wr.heap.size := HW.out.size
      have c1 : (0 : Int) ≤ (start : Int) := by omega
      have c2 : (start : Int) ≤ (s.size : Int) := by omega
      cases gk with
      | zero =>
        -- all K are replaced: 'b.WriteString(s[start:]); return b.String()'
        have hiK : ¬ ((i : Int) < (K : Int)) := by omega
        go_wp2_with fail
        refine (Any.Builder_WriteString { L with } X w.heap.size w.heap.size _ _ wr HB.out (by rw [Lib.byteCells_length, ByteArray.size_extract]; omega) hBw).mono ?_
        rintro e w3 ⟨rfl, h3, hb3⟩
        rw [Lib.strCells_eq, Lib.extract_to_end, ← Lib.byteCells_append] at h3
        have hfin : acc ++ s.data.toList.drop start = Lib.replaceK old.data.toList new.data.toList K s.data.toList := HR.out
        rw [hfin] at h3
        have H3 := Any.hidR (Or.inr h3 : Lib.IsBuilder (ρ.t 72) (ρ.t 5) w.heap.size w.heap.size _ w3)
        have Hb3 := Any.hidR (HW.out.trans hb3)
        have hBw3 : w.heap.size ≤ w3.heap.size := Hb3.out.size
        clear h3 hb3 hfin
        go_wp2_with fail
        refine (Any.Builder_String_any { L with } X w.heap.size w.heap.size _ w3 H3.out hBw3).mono ?_
        rintro e w5 ⟨rfl, hb5⟩
        have Hb5 := Any.hidR (Hb3.out.trans hb5)
        clear hb5
        go_wp2
        go_ret
        exact ⟨rfl, Hb5.out⟩
      | succ g =>
        have hiK : (i : Int) < (K : Int) := by omega
        obtain ⟨j, hj⟩ := Lib.index_of_count (s := s.data.toList.drop start) (old := old.data.toList) (by omega)
        have hroom : j + old.size ≤ s.size - start := by
          have := Lib.index_room (s.data.toList.drop start) old.data.toList (by rw [hj]; omega)
          rw [hj, List.length_drop, hlenL, hlenO] at this
          omega
        have c3 : (start : Int) ≤ (start : Int) + (j : Int) := by omega
        have c4 : (start : Int) + (j : Int) ≤ (s.size : Int) := by omega
        have hnext : Lib.byteCells acc ++ Lib.strCells (s.extract start (start + j)) ++ Lib.strCells new = Lib.byteCells (acc ++ (s.data.toList.drop start).take j ++ new.data.toList) := by
          rw [Lib.strCells_eq, Lib.strCells_eq, Lib.extract_data, Nat.add_sub_cancel_left, ← Lib.byteCells_append, ← Lib.byteCells_append]
        have hrep : (acc ++ (s.data.toList.drop start).take j ++ new.data.toList) ++ Lib.replaceK old.data.toList new.data.toList g (s.data.toList.drop (start + j + old.size)) = Lib.replaceK old.data.toList new.data.toList K s.data.toList := by
          rw [← HR.out, Lib.replaceK_hit _ _ g _ j hj, List.drop_drop, hlenO]
          simp only [List.append_assoc, Nat.add_assoc]
        have hcnt : g ≤ Lib.count (s.data.toList.drop (start + j + old.size)) old.data.toList := by
          have := Lib.count_hit (s := s.data.toList.drop start) (sub := old.data.toList) (i := j) (fun e => by rw [e] at hlenO; simp at hlenO; omega) hj
          rw [List.drop_drop, hlenO] at this
          rw [show start + j + old.size = start + (j + old.size) by omega]
          omega
        have htl : ((s.data.toList.drop start).take j).length = j := by rw [List.length_take, List.length_drop, hlenL]; omega
        have Hn := Any.hidR hnext
        have Hrep := Any.hidR hrep
        clear hnext hrep HR
        go_wp2_with (first | (go_at_fn (ρ.f 143); refine (HIX.out _ _).mono ?_; rintro e w' ⟨rfl, hw⟩; rw [hw, Lib.extract_to_end, hj]))
        refine (Any.Builder_WriteString { L with } X w.heap.size w.heap.size _ (s.extract start (start + j)) wr HB.out (by rw [Lib.byteCells_length, ByteArray.size_extract]; omega) hBw).mono ?_
        rintro e w3 ⟨rfl, h3, hb3⟩
        have hBw3 : w.heap.size ≤ w3.heap.size := Nat.le_trans hBw hb3.size
        have H3 := Any.hidR h3
        have Hb3 := Any.hidR hb3
        clear h3 hb3
        go_wp2_with fail
        refine (Any.Builder_WriteString { L with } X w.heap.size w.heap.size _ new w3 (Or.inr H3.out) (by rw [List.length_append, Lib.byteCells_length, Lib.strCells_length, ByteArray.size_extract]; omega) hBw3).mono ?_
        rintro e w4 ⟨rfl, h4, hb4⟩
        rw [Hn.out] at h4
        have H4 := Any.hidR (Or.inr h4 : Lib.IsBuilder (ρ.t 72) (ρ.t 5) w.heap.size w.heap.size _ w4)
        have Hb4 := Any.hidR ((HW.out.trans Hb3.out).trans hb4)
        clear h4 hb4
        go_wp2
        go_roundg g
        case measure => omega
        case rel => exact ⟨i + 1, start + j + old.size, _, by first | rfl | (simp; unfold wrap64; omega), by first | rfl | (simp; done) | (simp; omega) | (simp; unfold wrap64; omega), by omega, by omega, H4, Hb4, Hrep, hcnt, by simp only [List.length_append, htl, ← Lib.size_eq]; omega⟩))



theorem replaceK_map (c d : UInt8) : ∀ l : List UInt8, Lib.replaceK [c] [d] (l.count c) l = l.map fun x => if x = c then d else x
  | [] => by simp [Lib.replaceK]
  | b :: l => by
    have ih := replaceK_map c d l
    by_cases h : b = c
    · subst h
      have h0 : Lib.index (b :: l) [b] = (0 : Nat) := by rw [Lib.index]; simp [List.isPrefixOf]
      rw [List.count_cons_self, Lib.replaceK_hit _ _ _ _ 0 h0]
      simp [ih]
    · have hp : ([c] : List UInt8).isPrefixOf (b :: l) = false := by simp [List.isPrefixOf, Ne.symm h]
      have hix : Lib.index (b :: l) [c] = if Lib.index l [c] == -1 then -1 else Lib.index l [c] + 1 := by rw [Lib.index, hp]; simp
      rw [List.count_cons_of_ne (by simpa using h), List.map_cons, if_neg h, ← ih]
      cases hk : l.count c with
      | zero => rfl
      | succ k =>
        obtain ⟨i, hi⟩ := Lib.index_of_count (s := l) (old := [c]) (by rw [Lib.count_one]; omega)
        have h2 : Lib.index (b :: l) [c] = ((i + 1 : Nat) : Int) := by
          rw [hix, hi, if_neg (by rw [beq_iff_eq]; omega)]; omega
        rw [Lib.replaceK_hit _ _ _ _ _ h2, Lib.replaceK_hit _ _ _ _ _ hi]
        simp
/-- Each line feed a blank. -/
def feed (s : ByteArray) : ByteArray := ⟨(s.data.toList.map fun x => if x = 10 then 32 else x).toArray⟩
theorem replaceAll_feed (L : Lays.n155 P ρ) (X : Builder.Extra P ρ) (s : ByteArray) (w : World) (hs : s.size ≤ 140737488351232) :
    Calls P (ρ.f 155) #[.string s, .string ⟨#[10]⟩, .string ⟨#[32]⟩] w fun e w' => e = .returned (.string (feed s)) ∧ Ext w w' := by
  have c : Calls P (ρ.f 154) #[.string s, .string ⟨#[10]⟩, .string ⟨#[32]⟩, .int .i64 (-1)] w fun e w' => e = .returned (.string (feed s)) ∧ Ext w w' := by
    by_cases hc0 : Lib.countB s ⟨#[10]⟩ = 0
    · have hC := countOne { L with } s 10 w
      rw [hc0] at hC
      have hf : feed s = s := by
        have h1 : s.data.toList.count 10 = 0 := by
          have := hc0
          unfold Lib.countB at this
          rwa [show (⟨#[10]⟩ : ByteArray).data.toList = [10] from rfl, Lib.count_one] at this
        have h2 := replaceK_map 10 32 s.data.toList
        rw [h1] at h2
        unfold feed
        rw [← h2]
        rfl
      rw [hf]
      have L' : Lays.n154 P ρ := { L with }
      have hbeq : ((⟨#[10]⟩ : ByteArray).toList == (⟨#[32]⟩ : ByteArray).toList) = false := (Lib.bytes_beq_false_iff _ _).2 (by decide)
      have hnz : ((-1 : Int) == 0) = false := rfl
      have t3 := L.t3; have a3 := L.a3; have z3 := L.z3; have v3 := L.v3
      have t9 := L.t9; have a9 := L.a9; have z9 := L.z9; have v9 := L.v9
      have t4 := L.t4; have a4 := L.a4; have z4 := L.z4; have v4 := L.v4
      have e138 : ∀ args w, (callFunc (ρ.f 138) args).run P w = .ok (.enter (ρ.f 138) args) w := enters_of L.f138 (by kernel_rfl) rfl
      clear hc0 hf
      go_enter L.f154, Body.n154_ntmps ρ
      go_wp2_with (first | (go_at_fn (ρ.f 138); refine hC.mono ?_; rintro e w' ⟨rfl, hw⟩; rw [hw]))
      go_ret
      exact ⟨rfl, Ext.refl _⟩
    · refine (replaceOne_some { L with } X s ⟨#[10]⟩ ⟨#[32]⟩ 10 rfl rfl w hs (by decide) hc0).mono ?_
      rintro e w' ⟨rfl, hb⟩
      refine ⟨?_, hb⟩
      have h2 := replaceK_map 10 32 s.data.toList
      unfold feed
      rw [← h2]
      unfold Lib.countB
      rw [show (⟨#[10]⟩ : ByteArray).data.toList = [10] from rfl, Lib.count_one]
  have t3 := L.t3; have a3 := L.a3; have z3 := L.z3; have v3 := L.v3
  have t9 := L.t9; have a9 := L.a9; have z9 := L.z9; have v9 := L.v9
  have e154 : ∀ args w, (callFunc (ρ.f 154) args).run P w = .ok (.enter (ρ.f 154) args) w := enters_of L.f154 (by kernel_rfl) rfl
  go_enter L.f155, Body.n155_ntmps ρ
  go_wp2_with (go_at_fn (ρ.f 154); refine c.mono ?_; rintro e w' ⟨rfl, hw⟩)
  go_ret
  exact ⟨rfl, hw⟩
end
theorem replaceAll_any (s : ByteArray) (w : World) (hs : s.size ≤ 140737488351232) :
    Calls Tryz.prog 130 #[.string s, .string ⟨#[10]⟩, .string ⟨#[32]⟩] w fun e w' => e = .returned (.string (feed s)) ∧ Ext w w' :=
  replaceAll_feed Tryz.lays155 Tryz.Builder_Extra_155 s w hs
end Go.Proofs.YtfnmgcblhebdbaaGreatDoor
