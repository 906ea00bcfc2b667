/- What rubric.named, rubric.Valid and rubric.Check, and their counterparts in the reference, compute: contracts for the walk. Conditions: those of each theorem. -/
import Derived.Test.YthjledbomonfpaaDoorSl
import Derived.Test.YthjledbomonfpaaDoorRubP
import Derived.Deep.QuietTactic
import Derived.BigQuiet
namespace Go.Proofs.YthjledbomonfpaaDoor
open Go.RowKit

theorem low_of {c : UInt8} (h1 : 97 ≤ (c.toNat : Int)) (h2 : (c.toNat : Int) ≤ 122) : Rub.low c = true := by
  unfold Rub.low; simp; omega
theorem low_not {c : UInt8} (h : (c.toNat : Int) < 97 ∨ 122 < (c.toNat : Int)) : Rub.low c = false := by
  unfold Rub.low; simp; omega

set_option maxHeartbeats 400000 in
theorem named_any (s : ByteArray) (w : World) (hs : s.size ≤ maxLen) :
    Calls Tryd.prog 22 #[.string s] w fun e w' => e = .returned (.bool (Rub.named s)) ∧ w = w' := by
  unfold maxLen at hs
  by_cases h0 : s.size = 0
  · have he := str_empty h0
    have H0 := Lib.hid h0
    clear h0
    go_enter Tryd.func22, Tryd.ntmps22
    go_wp2
    go_ret
    exact ⟨ret_bool (Rub.named_len (by rw [H0.out]; omega)).symm, rfl⟩
  · obtain ⟨he1, he2⟩ := str_some (s := s) (by omega)
    by_cases h20 : 20 < s.size
    · have h20' : 20 < (s.size : Int) := by omega
      go_enter Tryd.func22, Tryd.ntmps22
      go_wp2
      go_ret
      exact ⟨ret_bool (Rub.named_len (by omega)).symm, rfl⟩
    · have h20' : (s.size : Int) ≤ 20 := by omega
      have h1 : 1 ≤ s.size := by omega
      clear h0
      go_enter Tryd.func22, Tryd.ntmps22
      go_wp2
      go_loop [13] (fun i => ∃ k : Nat, k ≤ s.size ∧ i = .int .i64 k ∧ ∀ j (hj : j < k) (hjs : j < s.size), Rub.low s[j] = true) (fun i => s.size - (intOf i).toNat)
      case atStart => exact ⟨0, Nat.zero_le _, rfl, fun j hj => absurd hj (by omega)⟩
      case round =>
        obtain ⟨k, hk, rfl, hall⟩ := hrel
        have HALL := Lib.hid hall
        clear hall
        by_cases hlt : k < s.size
        · go_wp2
          all_goals first
            | (go_ret
               exact ⟨ret_bool (Rub.named_no hlt (low_not (by omega))).symm, rfl⟩)
            | (go_round
               case rel =>
                 refine ⟨k + 1, by omega, by go_num, fun j hj hjs => ?_⟩
                 rcases Nat.lt_or_ge j k with g | g
                 · exact HALL.out j g hjs
                 · obtain rfl : j = k := by omega
                   exact low_of (by omega) (by omega)
               case measure => simp [intOf]; omega)
        · go_wp2
          go_ret
          exact ⟨ret_bool (Rub.named_yes h1 (by omega) (fun j hj => HALL.out j (by omega) hj)).symm, rfl⟩

set_option maxHeartbeats 400000 in
theorem letters_any (s : ByteArray) (w : World) (hs : s.size ≤ maxLen) :
    Calls Tryd.prog 23 #[.string s] w fun e w' => e = .returned (.bool (Rub.named s)) ∧ w = w' := by
  unfold maxLen at hs
  go_enter Tryd.func23, Tryd.ntmps23
  go_wp2
  go_loop [3] (fun i => ∃ k : Nat, k ≤ s.size ∧ i = .int .i64 k ∧ ∀ j (hj : j < k) (hjs : j < s.size), Rub.low s[j] = true) (fun i => s.size - (intOf i).toNat)
  case atStart => exact ⟨0, Nat.zero_le _, rfl, fun j hj => absurd hj (by omega)⟩
  case round =>
    obtain ⟨k, hk, rfl, hall⟩ := hrel
    have HALL := Lib.hid hall
    clear hall
    by_cases hlt : k < s.size
    · go_wp2
      all_goals first
        | (go_ret
           exact ⟨ret_bool (Rub.named_no hlt (low_not (by omega))).symm, rfl⟩)
        | (go_round
           case rel =>
             refine ⟨k + 1, by omega, by go_num, fun j hj hjs => ?_⟩
             rcases Nat.lt_or_ge j k with g | g
             · exact HALL.out j g hjs
             · obtain rfl : j = k := by omega
               exact low_of (by omega) (by omega)
           case measure => simp [intOf]; omega)
    · by_cases h1 : 1 ≤ s.size ∧ s.size ≤ 20
      · have d1 : 1 ≤ (s.size : Int) := by omega
        have d2 : (s.size : Int) ≤ 20 := by omega
        go_wp2
        go_ret
        refine ⟨ret_bool ?_, rfl⟩
        rw [Rub.named_yes h1.1 h1.2 (fun j hj => HALL.out j (by omega) hj)]
      · rcases Nat.lt_or_ge s.size 1 with h2 | h2
        · have d1 : (s.size : Int) < 1 := by omega
          go_wp2
          go_ret
          refine ⟨ret_bool ?_, rfl⟩
          rw [Rub.named_len (by omega)]
        · have d1 : 1 ≤ (s.size : Int) := by omega
          have d2 : 20 < (s.size : Int) := by omega
          go_wp2
          go_ret
          refine ⟨ret_bool ?_, rfl⟩
          rw [Rub.named_len (by omega)]
          simp
          omega

def Rub.Trait.cells (t : Rub.Trait) : List Value := [.string t.name, .int .i64 t.max, .int .i64 t.weight]
/-- The traits lie at A. -/
def SlT (w : World) (A : Option Addr) (ts : List Rub.Trait) : Prop := Sl w 3 A (ts.map Rub.Trait.cells)
theorem SlT.ext {w w' : World} {A : Option Addr} {ts : List Rub.Trait} (h : SlT w A ts) (he : Ext w w') : SlT w' A ts := Sl.ext h he
theorem SlT.at_ {w : World} {A : Option Addr} {ts : List Rub.Trait} (h : SlT w A ts) {i : Nat} {t : Rub.Trait} (hi : ts[i]? = some t) :
    ∃ b off, A = some ⟨b, off, none⟩ ∧ b < w.heap.size ∧ w.cell? ⟨b, off + i * 3, none⟩ = some (.string t.name) ∧ w.cell? ⟨b, off + i * 3 + 1, none⟩ = some (.int .i64 t.max) ∧ w.cell? ⟨b, off + i * 3 + 2, none⟩ = some (.int .i64 t.weight) := by
  obtain ⟨b, off, hA, hb, hc⟩ := Sl.at_ (i := i) (cs := t.cells) h (by simp [hi])
  exact ⟨b, off, hA, hb, hc 0 _ rfl, hc 1 _ rfl, hc 2 _ rfl⟩

set_option maxHeartbeats 800000 in
theorem rvalidR_loop (id : Int) (A : Option Addr) (c : Nat) (ts : List Rub.Trait) (w : World) (hS : SlT w A ts) (hN : ∀ t ∈ ts, t.name.size ≤ maxLen) (hlen : ts.length ≤ 6) (hlen0 : 1 ≤ ts.length) (hc : ts.length ≤ c)
    (hid1 : 1 ≤ id) (hid2 : id ≤ 9999999) :
    Calls Tryd.prog 9 #[.agg #[.int .i64 id, .slice A ts.length c]] w fun e w' => e = .returned (.int .i64 (Rub.firstErr [] ts)) ∧ Ext w w' := by
  have l0 : ((ts.length : Int) == 0) = false := by rw [beq_eq_false_iff_ne]; omega
  have HN := Lib.hid hN
  clear hN
  go_enter Tryd.func9, Tryd.ntmps9
  go_wp2
  go_loopw [26] (fun i wr => ∃ k : Nat, k ≤ ts.length ∧ i = .int .i64 k ∧ Rub.firstErr (ts.take k) (ts.drop k) = Rub.firstErr [] ts ∧ Ext (w.alloc (.cells #[.int .i64 id, .slice A ts.length c] 24)) wr) (fun i _ => ts.length - (intOf i).toNat)
  case atStart => exact ⟨0, by omega, rfl, rfl, Ext.refl _⟩
  case round =>
    obtain ⟨k, hk, rfl, hfe, he⟩ := hrel
    have HF := Lib.hid hfe
    clear hfe
    by_cases hlt : k < ts.length
    · obtain ⟨t, ht⟩ : ∃ t, ts[k]? = some t := ⟨ts[k], List.getElem?_eq_getElem hlt⟩
      have hw : Ext w wr := ((Ext.refl _).alloc _).trans he
      obtain ⟨b, off, rfl, hb, c0, c1, c2⟩ := (hS.ext hw).at_ ht
      have HT := Lib.hid ht
      clear ht
      have bx1 : wr.cell? ⟨w.heap.size, 1, none⟩ = some (.slice (some ⟨b, off, none⟩) ts.length c) := he.keep (by simp [go_sem])
      have zr := he.size
      simp at zr
      have zr0 : w.heap.size < wr.heap.size := by omega
      go_wp2_with fail
      refine (named_any t.name _ (HN.out t (List.mem_of_getElem? HT.out))).mono ?_
      rintro e w1 ⟨rfl, rfl⟩
      obtain ⟨wo, rfl⟩ : ∃ wo : World, wo = wr := ⟨_, rfl⟩
      by_cases hnm : Rub.named t.name = true
      · go_wp2
        go_loopw [40] (fun i wr => ∃ j : Nat, j ≤ k ∧ i = .int .i64 j ∧ (∀ j', j' < j → ∀ t', ts[j']? = some t' → (t'.name.toList == t.name.toList) = false) ∧ Ext (wo.alloc (.cells #[.string t.name, .int .i64 t.max, .int .i64 t.weight] 45)) wr) (fun i _ => k - (intOf i).toNat)
        case atStart => exact ⟨0, by omega, rfl, fun j' hj => absurd hj (by omega), Ext.refl _⟩
        case round =>
          obtain ⟨j, hj, rfl, hne, hi⟩ := hrel
          have HNE := Lib.hid hne
          clear hne
          have hwi : Ext w wr := (hw.alloc _).trans hi
          have d0 : wr.cell? ⟨wo.heap.size, 0, none⟩ = some (.string t.name) := hi.keep (by simp [go_sem])
          have d1 : wr.cell? ⟨wo.heap.size, 1, none⟩ = some (.int .i64 t.max) := hi.keep (by simp [go_sem])
          have d2 : wr.cell? ⟨wo.heap.size, 2, none⟩ = some (.int .i64 t.weight) := hi.keep (by simp [go_sem])
          have zi := hi.size
          simp at zi
          have zi0 : wo.heap.size < wr.heap.size := by omega
          by_cases hjk : j < k
          · obtain ⟨t', ht'⟩ : ∃ t', ts[j]? = some t' := ⟨ts[j], List.getElem?_eq_getElem (by omega)⟩
            obtain ⟨b', off', hA', hb', c0', c1', c2'⟩ := (hS.ext hwi).at_ ht'
            injection hA' with hA'
            injection hA' with hA1 hA2
            subst hA1 hA2
            have HT' := Lib.hid ht'
            clear ht'
            go_wp2
            · go_ret
              refine ⟨ret_int ?_, hwi.alloc _⟩
              rw [← HF.out, Rub.first_bad HT.out (Rub.te_twice hnm (Rub.any_yes hjk HT'.out (by assumption))) (by decide)]
            · go_roundw
              case rel =>
                refine ⟨j + 1, by omega, by go_num, fun j' hj' t2 ht2 => ?_, hi.alloc _⟩
                rcases Nat.lt_or_ge j' j with g | g
                · exact HNE.out j' g t2 ht2
                · obtain rfl : j' = j := by omega
                  rw [HT'.out] at ht2
                  injection ht2 with ht2
                  subst ht2
                  assumption
              case measure => simp [intOf]; omega
          · obtain rfl : j = k := by omega
            have HA := Lib.hid (Rub.any_no HNE.out)
            go_wp2
            all_goals first
              | (go_ret
                 refine ⟨ret_int ?_, hwi⟩
                 rw [← HF.out, Rub.first_bad HT.out (Rub.te_range hnm HA.out (by omega)) (by decide)])
              | (go_roundw
                 case rel => exact ⟨j + 1, by omega, by go_num, by rw [← HF.out, Rub.first_good HT.out (Rub.te_ok hnm HA.out (by omega))], (he.alloc _).trans hi⟩
                 case measure => simp [intOf]; omega)
      · have hnm' : Rub.named t.name = false := by simpa using hnm
        go_wp2
        go_ret
        refine ⟨ret_int ?_, (hw.alloc _)⟩
        rw [← HF.out, Rub.first_bad HT.out (Rub.te_name hnm') (by decide)]
    · go_wp2
      go_ret
      refine ⟨ret_int ?_, ((Ext.refl _).alloc _).trans he⟩
      rw [← HF.out, Rub.first_end (by omega)]
end Go.Proofs.YthjledbomonfpaaDoor
