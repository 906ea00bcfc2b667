/- incident.number and the reference's number; strings.SplitN: contracts. Conditions: those of each theorem. -/
import Derived.Test.YtcpapnnghclbmaaDoorInJ
namespace Go.Proofs.YtcpapnnghclbmaaDoor
open Go.RowKit Go.Lib

namespace In
def dig (c : UInt8) : Bool := decide (48 ≤ (c.toNat : Int) ∧ (c.toNat : Int) ≤ 57)
def stepN (most n : Int) (c : UInt8) : Int := min (10 * n + ((c.toNat : Int) - 48)) (most + 1)
def numF (l : List UInt8) (most : Int) : Int := l.foldl (stepN most) 0
def isNum (l : List UInt8) : Bool := !l.isEmpty && !(decide (l.head? = some 48) && decide (1 < l.length)) && l.all dig
/-- The number that a string denotes, up to one more than the limit. -/
def numV (l : List UInt8) (most : Int) : Int := if isNum l then numF l most else 0
theorem numF_snoc {l : List UInt8} {k : Nat} {c : UInt8} {most : Int} (h : l[k]? = some c) : numF (l.take (k + 1)) most = stepN most (numF (l.take k) most) c := by
  unfold numF; rw [List.take_add_one, h, List.foldl_append]; rfl
theorem numF_bd {l : List UInt8} {most : Int} (h0 : 0 ≤ most) (hd : ∀ c ∈ l, dig c = true) : 0 ≤ numF l most ∧ numF l most ≤ most + 1 := by
  suffices hh : ∀ (l : List UInt8) (n : Int), (∀ c ∈ l, dig c = true) → 0 ≤ n → n ≤ most + 1 → 0 ≤ l.foldl (stepN most) n ∧ l.foldl (stepN most) n ≤ most + 1 from hh l 0 hd (by omega) (by omega)
  intro l
  induction l with
  | nil => intro n _ h1 h2; exact ⟨h1, h2⟩
  | cons c l ih =>
    intro n hv h1 h2
    have h3 : 48 ≤ (c.toNat : Int) ∧ (c.toNat : Int) ≤ 57 := of_decide_eq_true (hv c (by simp))
    rw [List.foldl_cons]
    refine ih _ (fun q hq => hv q (List.mem_cons_of_mem _ hq)) ?_ ?_
    · unfold stepN; omega
    · unfold stepN; omega
theorem isNum_nil {l : List UInt8} (h : l = []) : isNum l = false := by subst h; rfl
theorem isNum_zero {l : List UInt8} (h : l.head? = some 48) (h1 : 1 < l.length) : isNum l = false := by
  unfold isNum
  simp [h, h1]
theorem isNum_bad {l : List UInt8} {k : Nat} {c : UInt8} (h : l[k]? = some c) (hc : dig c = false) : isNum l = false := by
  unfold isNum
  have : l.all dig = false := by
    rw [List.all_eq_false]
    exact ⟨c, List.mem_of_getElem? h, by rw [hc]; simp⟩
  rw [this, Bool.and_false]
theorem isNum_ok {l : List UInt8} (h : l ≠ []) (h0 : ¬ (l.head? = some 48 ∧ 1 < l.length)) (hd : ∀ c ∈ l, dig c = true) : isNum l = true := by
  unfold isNum
  have h1 : l.isEmpty = false := by cases l with | nil => exact absurd rfl h | cons a l => rfl
  have h2 : (decide (l.head? = some 48) && decide (1 < l.length)) = false := by
    rw [Bool.eq_false_iff]
    intro e
    rw [Bool.and_eq_true, decide_eq_true_eq, decide_eq_true_eq] at e
    exact h0 e
  rw [h1, h2, List.all_eq_true.2 hd]; rfl
end In
theorem byte_at (s : ByteArray) (k : Nat) (h : k < s.size) : s.data.toList[k]? = some s[k] := by
  rw [List.getElem?_eq_getElem (by simpa using h)]; rfl
theorem byte_lt (c : UInt8) : (c.toNat : Int) < 256 := by have := c.toNat_lt; omega

set_option maxRecDepth 100000 in
set_option maxHeartbeats 1600000 in
theorem number_any (s : ByteArray) (most : Int) (h0 : 0 ≤ most) (h1 : most ≤ 1099511627776) (hs : s.size ≤ 140737488355328) (w : World) :
    Calls Tryd.prog 43 #[.string s, .int .i64 most] w fun e w' => e = .returned (.tuple #[.int .i64 (In.numV s.data.toList most), .bool (In.isNum s.data.toList)]) ∧ w' = w := by
  rcases Nat.eq_zero_or_pos s.size with hz | hz
  · have hl : s.data.toList = [] := List.eq_nil_of_length_eq_zero (by simpa using hz)
    have HR : Hid (In.isNum s.data.toList = false) := Lib.hid (In.isNum_nil hl)
    have he := str_empty hz
    have hz1 : ((s.size : Int) == 0) = true := by rw [hz]; rfl
    have hz2 : (s.size : Int) ≤ 0 := by omega
    clear hl hz
    go_enter Tryd.func43, Tryd.ntmps43
    go_wp2
    go_ret2
    exact ⟨ret_ib (by unfold In.numV; rw [HR.out]; rfl) HR.out.symm, rfl⟩
  · obtain ⟨e1, e2⟩ := str_some hz
    have hz1 : ((s.size : Int) == 0) = false := by rw [beq_eq_false_iff_ne]; omega
    have hz2 : 0 < s.size := hz
    have hz3 : (0 : Int) < (s.size : Int) := by omega
    have HH : Hid (s.data.toList.head? = some s[0]) := Lib.hid (by rw [List.head?_eq_getElem?]; exact byte_at s 0 hz)
    have HLN : Hid (s.data.toList.length = s.size) := Lib.hid (by simp)
    by_cases hb : (s[0].toNat : Int) = 48 ∧ 1 < s.size
    · obtain ⟨hb0, hb1⟩ := hb
      have hb0' : ((s[0].toNat : Int) == 48) = true := by rw [hb0]; rfl
      have hb1' : (1 : Int) < (s.size : Int) := by omega
      have hb1d : decide ((1 : Int) < (s.size : Int)) = true := by simp; omega
      have hb1m : decide (1 < s.size) = true := by simp; omega
      have HR : Hid (In.isNum s.data.toList = false) := Lib.hid (In.isNum_zero (by rw [HH.out]; congr 1; apply UInt8.toNat.inj; show _ = 48; omega) (by rw [HLN.out]; exact hb1))
      clear hb0
      go_enter Tryd.func43, Tryd.ntmps43
      go_wp2
      go_ret2
      exact ⟨ret_ib (by unfold In.numV; rw [HR.out]; rfl) HR.out.symm, rfl⟩
    · have HNB : Hid (¬ (s.data.toList.head? = some 48 ∧ 1 < s.data.toList.length)) := Lib.hid (fun g => hb ⟨by
        have := g.1
        rw [HH.out] at this
        injection this with this
        rw [this]; rfl, by rw [HLN.out] at g; exact g.2⟩)
      have hcase : ((s[0].toNat : Int) ≠ 48 ∧ 1 < s.size) ∨ s.size ≤ 1 := by omega
      clear hb
      have key : Calls Tryd.prog 43 #[.string s, .int .i64 most] w fun e w' => e = .returned (.tuple #[.int .i64 (In.numV s.data.toList most), .bool (In.isNum s.data.toList)]) ∧ w' = w := by
        obtain ⟨t0, ht0⟩ : ∃ t0, ((s[0].toNat : Int) == 48) = t0 := ⟨_, rfl⟩
        obtain ⟨t1, ht1⟩ : ∃ t1, decide (1 < s.size) = t1 := ⟨_, rfl⟩
        have ht2 : decide ((1 : Int) < (s.size : Int)) = t1 := by rw [← ht1]; congr 1; simp; omega
        have htt : t0 = false ∨ (t0 = true ∧ t1 = false) := by
          cases t0 with
          | false => exact Or.inl rfl
          | true =>
            refine Or.inr ⟨rfl, ?_⟩
            rw [← ht1, decide_eq_false_iff_not]
            intro g
            rw [beq_iff_eq] at ht0
            rcases hcase with ⟨g1, _⟩ | g1
            · exact g1 ht0
            · omega
        clear hcase
        rcases htt with rfl | ⟨rfl, rfl⟩
        · cases t1 with
          | false =>
            have hle : s.size ≤ 1 := by have := of_decide_eq_false ht1; omega
            have hle' : (s.size : Int) ≤ 1 := by omega
            go_enter Tryd.func43, Tryd.ntmps43
            go_wp2
            clear ht0 ht1 ht2 HH
            go_loop [22, 6] (fun i t => ∃ k : Nat, k ≤ s.size ∧ i = .int .i64 k ∧ ∃ n : Int, t = .int .i64 n ∧ In.numF (s.data.toList.take k) most = n ∧ (∀ c ∈ s.data.toList.take k, In.dig c = true) ∧ 0 ≤ n ∧ n ≤ most + 1) (fun i _ => s.size - (intOf i).toNat)
            case atStart => exact ⟨0, by omega, rfl, 0, rfl, rfl, by simp, by omega, by omega⟩
            case round =>
              obtain ⟨k, hk, rfl, n, rfl, hn, hd, n0, n1⟩ := hrel
              have HNF := Lib.hid hn
              have HD := Lib.hid hd
              clear hn hd
              by_cases hlt : k < s.size
              · have HK := Lib.hid (byte_at s k hlt)
                have hlt' : (k : Int) < (s.size : Int) := by omega
                have hk0 : (0 : Int) ≤ (k : Int) := by omega
                obtain ⟨c, hc⟩ : ∃ c, s[k] = c := ⟨_, rfl⟩
                have HC := Lib.hid hc
                have b256 := byte_lt s[k]
                have b0 : (0 : Int) ≤ (s[k].toNat : Int) := by omega
                by_cases hdg : 48 ≤ (s[k].toNat : Int) ∧ (s[k].toNat : Int) ≤ 57
                · obtain ⟨d0, d1⟩ := hdg
                  have HDG : Hid (In.dig s[k] = true) := Lib.hid (decide_eq_true ⟨d0, d1⟩)
                  have HS : Hid (In.numF (s.data.toList.take (k + 1)) most = min (10 * n + ((s[k].toNat : Int) - 48)) (most + 1)) := Lib.hid (by rw [In.numF_snoc HK.out, HNF.out]; rfl)
                  have HDD : Hid (∀ c ∈ s.data.toList.take (k + 1), In.dig c = true) := Lib.hid (by
                    rw [List.take_add_one, HK.out]
                    intro y hy
                    rcases List.mem_append.1 hy with g | g
                    · exact HD.out y g
                    · simp at g; rw [g]; exact HDG.out)
                  clear hc
                  go_wp2
                  all_goals
                    go_round
                    case rel => exact ⟨k + 1, by omega, by go_num, _, rfl, by rw [HS.out] <;> omega, HDD.out, by omega, by omega⟩
                    case measure => simp [intOf]; omega
                · have HDG : Hid (In.dig s[k] = false) := Lib.hid (decide_eq_false hdg)
                  have HR : Hid (In.isNum s.data.toList = false) := Lib.hid (In.isNum_bad HK.out HDG.out)
                  have hcs : (s[k].toNat : Int) < 48 ∨ (48 ≤ (s[k].toNat : Int) ∧ 57 < (s[k].toNat : Int)) := by omega
                  clear hdg hc
                  rcases hcs with g1 | ⟨g1, g2⟩
                  all_goals
                    go_wp2
                    go_ret2
                    exact ⟨ret_ib (by unfold In.numV; rw [HR.out]; rfl) HR.out.symm, rfl⟩
              · have hkk : s.data.toList.take k = s.data.toList := List.take_of_length_le (by rw [HLN.out]; omega)
                have HR : Hid (In.isNum s.data.toList = true) := Lib.hid (In.isNum_ok (fun g => by have := HLN.out; rw [g] at this; simp at this; omega) HNB.out (by rw [← hkk]; exact HD.out))
                have HF : Hid (In.numV s.data.toList most = n) := Lib.hid (by unfold In.numV; rw [HR.out, ← HNF.out, hkk]; rfl)
                clear hkk
                go_wp2
                go_ret2
                exact ⟨ret_ib HF.out.symm HR.out.symm, rfl⟩
          | true =>
            have hgt : 1 < s.size := of_decide_eq_true ht1
            have hgt' : (1 : Int) < (s.size : Int) := by omega
            go_enter Tryd.func43, Tryd.ntmps43
            go_wp2
            clear ht0 ht1 ht2 HH
            go_loop [22, 6] (fun i t => ∃ k : Nat, k ≤ s.size ∧ i = .int .i64 k ∧ ∃ n : Int, t = .int .i64 n ∧ In.numF (s.data.toList.take k) most = n ∧ (∀ c ∈ s.data.toList.take k, In.dig c = true) ∧ 0 ≤ n ∧ n ≤ most + 1) (fun i _ => s.size - (intOf i).toNat)
            case atStart => exact ⟨0, by omega, rfl, 0, rfl, rfl, by simp, by omega, by omega⟩
            case round =>
              obtain ⟨k, hk, rfl, n, rfl, hn, hd, n0, n1⟩ := hrel
              have HNF := Lib.hid hn
              have HD := Lib.hid hd
              clear hn hd
              by_cases hlt : k < s.size
              · have HK := Lib.hid (byte_at s k hlt)
                have hlt' : (k : Int) < (s.size : Int) := by omega
                have hk0 : (0 : Int) ≤ (k : Int) := by omega
                obtain ⟨c, hc⟩ : ∃ c, s[k] = c := ⟨_, rfl⟩
                have HC := Lib.hid hc
                have b256 := byte_lt s[k]
                have b0 : (0 : Int) ≤ (s[k].toNat : Int) := by omega
                by_cases hdg : 48 ≤ (s[k].toNat : Int) ∧ (s[k].toNat : Int) ≤ 57
                · obtain ⟨d0, d1⟩ := hdg
                  have HDG : Hid (In.dig s[k] = true) := Lib.hid (decide_eq_true ⟨d0, d1⟩)
                  have HS : Hid (In.numF (s.data.toList.take (k + 1)) most = min (10 * n + ((s[k].toNat : Int) - 48)) (most + 1)) := Lib.hid (by rw [In.numF_snoc HK.out, HNF.out]; rfl)
                  have HDD : Hid (∀ c ∈ s.data.toList.take (k + 1), In.dig c = true) := Lib.hid (by
                    rw [List.take_add_one, HK.out]
                    intro y hy
                    rcases List.mem_append.1 hy with g | g
                    · exact HD.out y g
                    · simp at g; rw [g]; exact HDG.out)
                  clear hc
                  go_wp2
                  all_goals
                    go_round
                    case rel => exact ⟨k + 1, by omega, by go_num, _, rfl, by rw [HS.out] <;> omega, HDD.out, by omega, by omega⟩
                    case measure => simp [intOf]; omega
                · have HDG : Hid (In.dig s[k] = false) := Lib.hid (decide_eq_false hdg)
                  have HR : Hid (In.isNum s.data.toList = false) := Lib.hid (In.isNum_bad HK.out HDG.out)
                  have hcs : (s[k].toNat : Int) < 48 ∨ (48 ≤ (s[k].toNat : Int) ∧ 57 < (s[k].toNat : Int)) := by omega
                  clear hdg hc
                  rcases hcs with g1 | ⟨g1, g2⟩
                  all_goals
                    go_wp2
                    go_ret2
                    exact ⟨ret_ib (by unfold In.numV; rw [HR.out]; rfl) HR.out.symm, rfl⟩
              · have hkk : s.data.toList.take k = s.data.toList := List.take_of_length_le (by rw [HLN.out]; omega)
                have HR : Hid (In.isNum s.data.toList = true) := Lib.hid (In.isNum_ok (fun g => by have := HLN.out; rw [g] at this; simp at this; omega) HNB.out (by rw [← hkk]; exact HD.out))
                have HF : Hid (In.numV s.data.toList most = n) := Lib.hid (by unfold In.numV; rw [HR.out, ← HNF.out, hkk]; rfl)
                clear hkk
                go_wp2
                go_ret2
                exact ⟨ret_ib HF.out.symm HR.out.symm, rfl⟩
        · have hle : s.size ≤ 1 := by have := of_decide_eq_false ht1; omega
          have hle' : (s.size : Int) ≤ 1 := by omega
          go_enter Tryd.func43, Tryd.ntmps43
          go_wp2
          clear ht0 ht1 ht2 HH
          go_loop [22, 6] (fun i t => ∃ k : Nat, k ≤ s.size ∧ i = .int .i64 k ∧ ∃ n : Int, t = .int .i64 n ∧ In.numF (s.data.toList.take k) most = n ∧ (∀ c ∈ s.data.toList.take k, In.dig c = true) ∧ 0 ≤ n ∧ n ≤ most + 1) (fun i _ => s.size - (intOf i).toNat)
          case atStart => exact ⟨0, by omega, rfl, 0, rfl, rfl, by simp, by omega, by omega⟩
          case round =>
            obtain ⟨k, hk, rfl, n, rfl, hn, hd, n0, n1⟩ := hrel
            have HNF := Lib.hid hn
            have HD := Lib.hid hd
            clear hn hd
            by_cases hlt : k < s.size
            · have HK := Lib.hid (byte_at s k hlt)
              have hlt' : (k : Int) < (s.size : Int) := by omega
              have hk0 : (0 : Int) ≤ (k : Int) := by omega
              obtain ⟨c, hc⟩ : ∃ c, s[k] = c := ⟨_, rfl⟩
              have HC := Lib.hid hc
              have b256 := byte_lt s[k]
              have b0 : (0 : Int) ≤ (s[k].toNat : Int) := by omega
              by_cases hdg : 48 ≤ (s[k].toNat : Int) ∧ (s[k].toNat : Int) ≤ 57
              · obtain ⟨d0, d1⟩ := hdg
                have HDG : Hid (In.dig s[k] = true) := Lib.hid (decide_eq_true ⟨d0, d1⟩)
                have HS : Hid (In.numF (s.data.toList.take (k + 1)) most = min (10 * n + ((s[k].toNat : Int) - 48)) (most + 1)) := Lib.hid (by rw [In.numF_snoc HK.out, HNF.out]; rfl)
                have HDD : Hid (∀ c ∈ s.data.toList.take (k + 1), In.dig c = true) := Lib.hid (by
                  rw [List.take_add_one, HK.out]
                  intro y hy
                  rcases List.mem_append.1 hy with g | g
                  · exact HD.out y g
                  · simp at g; rw [g]; exact HDG.out)
                clear hc
                go_wp2
                all_goals
                  go_round
                  case rel => exact ⟨k + 1, by omega, by go_num, _, rfl, by rw [HS.out] <;> omega, HDD.out, by omega, by omega⟩
                  case measure => simp [intOf]; omega
              · have HDG : Hid (In.dig s[k] = false) := Lib.hid (decide_eq_false hdg)
                have HR : Hid (In.isNum s.data.toList = false) := Lib.hid (In.isNum_bad HK.out HDG.out)
                have hcs : (s[k].toNat : Int) < 48 ∨ (48 ≤ (s[k].toNat : Int) ∧ 57 < (s[k].toNat : Int)) := by omega
                clear hdg hc
                rcases hcs with g1 | ⟨g1, g2⟩
                all_goals
                  go_wp2
                  go_ret2
                  exact ⟨ret_ib (by unfold In.numV; rw [HR.out]; rfl) HR.out.symm, rfl⟩
            · have hkk : s.data.toList.take k = s.data.toList := List.take_of_length_le (by rw [HLN.out]; omega)
              have HR : Hid (In.isNum s.data.toList = true) := Lib.hid (In.isNum_ok (fun g => by have := HLN.out; rw [g] at this; simp at this; omega) HNB.out (by rw [← hkk]; exact HD.out))
              have HF : Hid (In.numV s.data.toList most = n) := Lib.hid (by unfold In.numV; rw [HR.out, ← HNF.out, hkk]; rfl)
              clear hkk
              go_wp2
              go_ret2
              exact ⟨ret_ib HF.out.symm HR.out.symm, rfl⟩
      exact key
theorem number_to (s : ByteArray) {most n : Int} {b : Bool} (hn : In.numV s.data.toList most = n) (hb : In.isNum s.data.toList = b) (h0 : 0 ≤ most) (h1 : most ≤ 1099511627776) (hs : s.size ≤ 140737488355328) (w : World) :
    Calls Tryd.prog 43 #[.string s, .int .i64 most] w fun e w' => e = .returned (.tuple #[.int .i64 n, .bool b]) ∧ w' = w := by
  subst hn hb
  exact number_any s most h0 h1 hs w

set_option maxRecDepth 100000 in
set_option maxHeartbeats 1600000 in
theorem rnumber_any (s : ByteArray) (most : Int) (h0 : 0 ≤ most) (h1 : most ≤ 1099511627776) (hs : s.size ≤ 140737488355328) (w : World) :
    Calls Tryd.prog 45 #[.string s, .int .i64 most] w fun e w' => e = .returned (.tuple #[.int .i64 (In.numV s.data.toList most), .bool (In.isNum s.data.toList)]) ∧ w' = w := by
  rcases Nat.eq_zero_or_pos s.size with hz | hz
  · have hl : s.data.toList = [] := List.eq_nil_of_length_eq_zero (by simpa using hz)
    have HR : Hid (In.isNum s.data.toList = false) := Lib.hid (In.isNum_nil hl)
    have he := str_empty hz
    have hz1 : ((s.size : Int) == 0) = true := by rw [hz]; rfl
    have hz2 : (s.size : Int) ≤ 0 := by omega
    clear hl hz
    go_enter Tryd.func45, Tryd.ntmps45
    go_wp2
    go_ret2
    exact ⟨ret_ib (by unfold In.numV; rw [HR.out]; rfl) HR.out.symm, rfl⟩
  · obtain ⟨e1, e2⟩ := str_some hz
    have hz1 : ((s.size : Int) == 0) = false := by rw [beq_eq_false_iff_ne]; omega
    have hz2 : 0 < s.size := hz
    have hz3 : (0 : Int) < (s.size : Int) := by omega
    have HH : Hid (s.data.toList.head? = some s[0]) := Lib.hid (by rw [List.head?_eq_getElem?]; exact byte_at s 0 hz)
    have HLN : Hid (s.data.toList.length = s.size) := Lib.hid (by simp)
    by_cases hb : (s[0].toNat : Int) = 48 ∧ 1 < s.size
    · obtain ⟨hb0, hb1⟩ := hb
      have hb0' : ((s[0].toNat : Int) == 48) = true := by rw [hb0]; rfl
      have hb1' : (1 : Int) < (s.size : Int) := by omega
      have hb1d : decide ((1 : Int) < (s.size : Int)) = true := by simp; omega
      have hb1m : decide (1 < s.size) = true := by simp; omega
      have HR : Hid (In.isNum s.data.toList = false) := Lib.hid (In.isNum_zero (by rw [HH.out]; congr 1; apply UInt8.toNat.inj; show _ = 48; omega) (by rw [HLN.out]; exact hb1))
      clear hb0
      go_enter Tryd.func45, Tryd.ntmps45
      go_wp2
      go_ret2
      exact ⟨ret_ib (by unfold In.numV; rw [HR.out]; rfl) HR.out.symm, rfl⟩
    · have HNB : Hid (¬ (s.data.toList.head? = some 48 ∧ 1 < s.data.toList.length)) := Lib.hid (fun g => hb ⟨by
        have := g.1
        rw [HH.out] at this
        injection this with this
        rw [this]; rfl, by rw [HLN.out] at g; exact g.2⟩)
      have hcase : ((s[0].toNat : Int) ≠ 48 ∧ 1 < s.size) ∨ s.size ≤ 1 := by omega
      clear hb
      have key : Calls Tryd.prog 45 #[.string s, .int .i64 most] w fun e w' => e = .returned (.tuple #[.int .i64 (In.numV s.data.toList most), .bool (In.isNum s.data.toList)]) ∧ w' = w := by
        obtain ⟨t0, ht0⟩ : ∃ t0, ((s[0].toNat : Int) == 48) = t0 := ⟨_, rfl⟩
        obtain ⟨t1, ht1⟩ : ∃ t1, decide (1 < s.size) = t1 := ⟨_, rfl⟩
        have ht2 : decide ((1 : Int) < (s.size : Int)) = t1 := by rw [← ht1]; congr 1; simp; omega
        have htt : t0 = false ∨ (t0 = true ∧ t1 = false) := by
          cases t0 with
          | false => exact Or.inl rfl
          | true =>
            refine Or.inr ⟨rfl, ?_⟩
            rw [← ht1, decide_eq_false_iff_not]
            intro g
            rw [beq_iff_eq] at ht0
            rcases hcase with ⟨g1, _⟩ | g1
            · exact g1 ht0
            · omega
        clear hcase
        rcases htt with rfl | ⟨rfl, rfl⟩
        · cases t1 with
          | false =>
            have hle : s.size ≤ 1 := by have := of_decide_eq_false ht1; omega
            have hle' : (s.size : Int) ≤ 1 := by omega
            go_enter Tryd.func45, Tryd.ntmps45
            go_wp2
            clear ht0 ht1 ht2 HH
            go_loop [7, 6] (fun i t => ∃ k : Nat, k ≤ s.size ∧ i = .int .i64 k ∧ ∃ n : Int, t = .int .i64 n ∧ In.numF (s.data.toList.take k) most = n ∧ (∀ c ∈ s.data.toList.take k, In.dig c = true) ∧ 0 ≤ n ∧ n ≤ most + 1) (fun i _ => s.size - (intOf i).toNat)
            case atStart => exact ⟨0, by omega, rfl, 0, rfl, rfl, by simp, by omega, by omega⟩
            case round =>
              obtain ⟨k, hk, rfl, n, rfl, hn, hd, n0, n1⟩ := hrel
              have HNF := Lib.hid hn
              have HD := Lib.hid hd
              clear hn hd
              by_cases hlt : k < s.size
              · have HK := Lib.hid (byte_at s k hlt)
                have hlt' : (k : Int) < (s.size : Int) := by omega
                have hk0 : (0 : Int) ≤ (k : Int) := by omega
                obtain ⟨c, hc⟩ : ∃ c, s[k] = c := ⟨_, rfl⟩
                have HC := Lib.hid hc
                have b256 := byte_lt s[k]
                have b0 : (0 : Int) ≤ (s[k].toNat : Int) := by omega
                by_cases hdg : 48 ≤ (s[k].toNat : Int) ∧ (s[k].toNat : Int) ≤ 57
                · obtain ⟨d0, d1⟩ := hdg
                  have HDG : Hid (In.dig s[k] = true) := Lib.hid (decide_eq_true ⟨d0, d1⟩)
                  have HS : Hid (In.numF (s.data.toList.take (k + 1)) most = min (10 * n + ((s[k].toNat : Int) - 48)) (most + 1)) := Lib.hid (by rw [In.numF_snoc HK.out, HNF.out]; rfl)
                  have HDD : Hid (∀ c ∈ s.data.toList.take (k + 1), In.dig c = true) := Lib.hid (by
                    rw [List.take_add_one, HK.out]
                    intro y hy
                    rcases List.mem_append.1 hy with g | g
                    · exact HD.out y g
                    · simp at g; rw [g]; exact HDG.out)
                  clear hc
                  go_wp2
                  all_goals
                    go_round
                    case rel => exact ⟨k + 1, by omega, by go_num, _, rfl, by rw [HS.out] <;> omega, HDD.out, by omega, by omega⟩
                    case measure => simp [intOf]; omega
                · have HDG : Hid (In.dig s[k] = false) := Lib.hid (decide_eq_false hdg)
                  have HR : Hid (In.isNum s.data.toList = false) := Lib.hid (In.isNum_bad HK.out HDG.out)
                  have hcs : (s[k].toNat : Int) < 48 ∨ (48 ≤ (s[k].toNat : Int) ∧ 57 < (s[k].toNat : Int)) := by omega
                  clear hdg hc
                  rcases hcs with g1 | ⟨g1, g2⟩
                  all_goals
                    go_wp2
                    go_ret2
                    exact ⟨ret_ib (by unfold In.numV; rw [HR.out]; rfl) HR.out.symm, rfl⟩
              · have hkk : s.data.toList.take k = s.data.toList := List.take_of_length_le (by rw [HLN.out]; omega)
                have HR : Hid (In.isNum s.data.toList = true) := Lib.hid (In.isNum_ok (fun g => by have := HLN.out; rw [g] at this; simp at this; omega) HNB.out (by rw [← hkk]; exact HD.out))
                have HF : Hid (In.numV s.data.toList most = n) := Lib.hid (by unfold In.numV; rw [HR.out, ← HNF.out, hkk]; rfl)
                clear hkk
                go_wp2
                go_ret2
                exact ⟨ret_ib HF.out.symm HR.out.symm, rfl⟩
          | true =>
            have hgt : 1 < s.size := of_decide_eq_true ht1
            have hgt' : (1 : Int) < (s.size : Int) := by omega
            go_enter Tryd.func45, Tryd.ntmps45
            go_wp2
            clear ht0 ht1 ht2 HH
            go_loop [7, 6] (fun i t => ∃ k : Nat, k ≤ s.size ∧ i = .int .i64 k ∧ ∃ n : Int, t = .int .i64 n ∧ In.numF (s.data.toList.take k) most = n ∧ (∀ c ∈ s.data.toList.take k, In.dig c = true) ∧ 0 ≤ n ∧ n ≤ most + 1) (fun i _ => s.size - (intOf i).toNat)
            case atStart => exact ⟨0, by omega, rfl, 0, rfl, rfl, by simp, by omega, by omega⟩
            case round =>
              obtain ⟨k, hk, rfl, n, rfl, hn, hd, n0, n1⟩ := hrel
              have HNF := Lib.hid hn
              have HD := Lib.hid hd
              clear hn hd
              by_cases hlt : k < s.size
              · have HK := Lib.hid (byte_at s k hlt)
                have hlt' : (k : Int) < (s.size : Int) := by omega
                have hk0 : (0 : Int) ≤ (k : Int) := by omega
                obtain ⟨c, hc⟩ : ∃ c, s[k] = c := ⟨_, rfl⟩
                have HC := Lib.hid hc
                have b256 := byte_lt s[k]
                have b0 : (0 : Int) ≤ (s[k].toNat : Int) := by omega
                by_cases hdg : 48 ≤ (s[k].toNat : Int) ∧ (s[k].toNat : Int) ≤ 57
                · obtain ⟨d0, d1⟩ := hdg
                  have HDG : Hid (In.dig s[k] = true) := Lib.hid (decide_eq_true ⟨d0, d1⟩)
                  have HS : Hid (In.numF (s.data.toList.take (k + 1)) most = min (10 * n + ((s[k].toNat : Int) - 48)) (most + 1)) := Lib.hid (by rw [In.numF_snoc HK.out, HNF.out]; rfl)
                  have HDD : Hid (∀ c ∈ s.data.toList.take (k + 1), In.dig c = true) := Lib.hid (by
                    rw [List.take_add_one, HK.out]
                    intro y hy
                    rcases List.mem_append.1 hy with g | g
                    · exact HD.out y g
                    · simp at g; rw [g]; exact HDG.out)
                  clear hc
                  go_wp2
                  all_goals
                    go_round
                    case rel => exact ⟨k + 1, by omega, by go_num, _, rfl, by rw [HS.out] <;> omega, HDD.out, by omega, by omega⟩
                    case measure => simp [intOf]; omega
                · have HDG : Hid (In.dig s[k] = false) := Lib.hid (decide_eq_false hdg)
                  have HR : Hid (In.isNum s.data.toList = false) := Lib.hid (In.isNum_bad HK.out HDG.out)
                  have hcs : (s[k].toNat : Int) < 48 ∨ (48 ≤ (s[k].toNat : Int) ∧ 57 < (s[k].toNat : Int)) := by omega
                  clear hdg hc
                  rcases hcs with g1 | ⟨g1, g2⟩
                  all_goals
                    go_wp2
                    go_ret2
                    exact ⟨ret_ib (by unfold In.numV; rw [HR.out]; rfl) HR.out.symm, rfl⟩
              · have hkk : s.data.toList.take k = s.data.toList := List.take_of_length_le (by rw [HLN.out]; omega)
                have HR : Hid (In.isNum s.data.toList = true) := Lib.hid (In.isNum_ok (fun g => by have := HLN.out; rw [g] at this; simp at this; omega) HNB.out (by rw [← hkk]; exact HD.out))
                have HF : Hid (In.numV s.data.toList most = n) := Lib.hid (by unfold In.numV; rw [HR.out, ← HNF.out, hkk]; rfl)
                clear hkk
                go_wp2
                go_ret2
                exact ⟨ret_ib HF.out.symm HR.out.symm, rfl⟩
        · have hle : s.size ≤ 1 := by have := of_decide_eq_false ht1; omega
          have hle' : (s.size : Int) ≤ 1 := by omega
          go_enter Tryd.func45, Tryd.ntmps45
          go_wp2
          clear ht0 ht1 ht2 HH
          go_loop [7, 6] (fun i t => ∃ k : Nat, k ≤ s.size ∧ i = .int .i64 k ∧ ∃ n : Int, t = .int .i64 n ∧ In.numF (s.data.toList.take k) most = n ∧ (∀ c ∈ s.data.toList.take k, In.dig c = true) ∧ 0 ≤ n ∧ n ≤ most + 1) (fun i _ => s.size - (intOf i).toNat)
          case atStart => exact ⟨0, by omega, rfl, 0, rfl, rfl, by simp, by omega, by omega⟩
          case round =>
            obtain ⟨k, hk, rfl, n, rfl, hn, hd, n0, n1⟩ := hrel
            have HNF := Lib.hid hn
            have HD := Lib.hid hd
            clear hn hd
            by_cases hlt : k < s.size
            · have HK := Lib.hid (byte_at s k hlt)
              have hlt' : (k : Int) < (s.size : Int) := by omega
              have hk0 : (0 : Int) ≤ (k : Int) := by omega
              obtain ⟨c, hc⟩ : ∃ c, s[k] = c := ⟨_, rfl⟩
              have HC := Lib.hid hc
              have b256 := byte_lt s[k]
              have b0 : (0 : Int) ≤ (s[k].toNat : Int) := by omega
              by_cases hdg : 48 ≤ (s[k].toNat : Int) ∧ (s[k].toNat : Int) ≤ 57
              · obtain ⟨d0, d1⟩ := hdg
                have HDG : Hid (In.dig s[k] = true) := Lib.hid (decide_eq_true ⟨d0, d1⟩)
                have HS : Hid (In.numF (s.data.toList.take (k + 1)) most = min (10 * n + ((s[k].toNat : Int) - 48)) (most + 1)) := Lib.hid (by rw [In.numF_snoc HK.out, HNF.out]; rfl)
                have HDD : Hid (∀ c ∈ s.data.toList.take (k + 1), In.dig c = true) := Lib.hid (by
                  rw [List.take_add_one, HK.out]
                  intro y hy
                  rcases List.mem_append.1 hy with g | g
                  · exact HD.out y g
                  · simp at g; rw [g]; exact HDG.out)
                clear hc
                go_wp2
                all_goals
                  go_round
                  case rel => exact ⟨k + 1, by omega, by go_num, _, rfl, by rw [HS.out] <;> omega, HDD.out, by omega, by omega⟩
                  case measure => simp [intOf]; omega
              · have HDG : Hid (In.dig s[k] = false) := Lib.hid (decide_eq_false hdg)
                have HR : Hid (In.isNum s.data.toList = false) := Lib.hid (In.isNum_bad HK.out HDG.out)
                have hcs : (s[k].toNat : Int) < 48 ∨ (48 ≤ (s[k].toNat : Int) ∧ 57 < (s[k].toNat : Int)) := by omega
                clear hdg hc
                rcases hcs with g1 | ⟨g1, g2⟩
                all_goals
                  go_wp2
                  go_ret2
                  exact ⟨ret_ib (by unfold In.numV; rw [HR.out]; rfl) HR.out.symm, rfl⟩
            · have hkk : s.data.toList.take k = s.data.toList := List.take_of_length_le (by rw [HLN.out]; omega)
              have HR : Hid (In.isNum s.data.toList = true) := Lib.hid (In.isNum_ok (fun g => by have := HLN.out; rw [g] at this; simp at this; omega) HNB.out (by rw [← hkk]; exact HD.out))
              have HF : Hid (In.numV s.data.toList most = n) := Lib.hid (by unfold In.numV; rw [HR.out, ← HNF.out, hkk]; rfl)
              clear hkk
              go_wp2
              go_ret2
              exact ⟨ret_ib HF.out.symm HR.out.symm, rfl⟩
      exact key
theorem rnumber_to (s : ByteArray) {most n : Int} {b : Bool} (hn : In.numV s.data.toList most = n) (hb : In.isNum s.data.toList = b) (h0 : 0 ≤ most) (h1 : most ≤ 1099511627776) (hs : s.size ≤ 140737488355328) (w : World) :
    Calls Tryd.prog 45 #[.string s, .int .i64 most] w fun e w' => e = .returned (.tuple #[.int .i64 n, .bool b]) ∧ w' = w := by
  subst hn hb
  exact rnumber_any s most h0 h1 hs w

namespace In
def sp : ByteArray := ⟨#[32]⟩
/-- The pieces between the blanks, at most 8. -/
def pcs (s : ByteArray) : List ByteArray := Lib.splitB sp 0 7 s
theorem indexB_nil {s sep : ByteArray} (h : s.size = 0) (h1 : sep.size = 1) : Lib.indexB s sep = -1 := by
  rcases Lib.indexB_cases s sep with g | ⟨i, _, g⟩
  · exact g
  · omega
theorem splitB_more {sep : ByteArray} (h1 : sep.size = 1) : ∀ (k m : Nat) (s : ByteArray), s.size ≤ k → s.size ≤ m → Lib.splitB sep 0 k s = Lib.splitB sep 0 m s
  | 0, m, s, hk, _ => by rw [Lib.splitB_miss sep 0 0 s (indexB_nil (by omega) h1), Lib.splitB_miss sep 0 m s (indexB_nil (by omega) h1)]
  | k + 1, 0, s, _, hm => by rw [Lib.splitB_miss sep 0 (k + 1) s (indexB_nil (by omega) h1), Lib.splitB_miss sep 0 0 s (indexB_nil (by omega) h1)]
  | k + 1, m + 1, s, hk, hm => by
    rcases Lib.indexB_cases s sep with g | ⟨i, g, gi⟩
    · rw [Lib.splitB_miss sep 0 _ s g, Lib.splitB_miss sep 0 _ s g]
    · rw [Lib.splitB_hit sep 0 k s i g, Lib.splitB_hit sep 0 m s i g]
      have hsz : (s.extract (i + sep.size) s.size).size ≤ s.size - 1 := by rw [ByteArray.size_extract]; omega
      rw [splitB_more h1 k m _ (by omega) (by omega)]
theorem pcs_min (s : ByteArray) {N : Nat} (hN : min 8 ((s.size : Int) + 1) = (N : Int)) : Lib.splitB sp 0 (N - 1) s = pcs s := by
  unfold pcs
  by_cases h : s.size < 7
  · exact splitB_more rfl _ _ _ (by omega) (by omega)
  · rw [show N - 1 = 7 by omega]
theorem pcs_len (s : ByteArray) : (pcs s).length ≤ 8 := Lib.splitB_length_le sp 0 7 s
theorem splitB_size {sep : ByteArray} : ∀ (k : Nat) (s : ByteArray) (x : ByteArray), x ∈ Lib.splitB sep 0 k s → x.size ≤ s.size
  | 0, s, x, h => by simp [Lib.splitB] at h; rw [h]; exact Nat.le_refl _
  | k + 1, s, x, h => by
    rcases Lib.indexB_cases s sep with g | ⟨i, g, gi⟩
    · rw [Lib.splitB_miss sep 0 _ s g] at h; simp at h; rw [h]; exact Nat.le_refl _
    · rw [Lib.splitB_hit sep 0 k s i g] at h
      rcases List.mem_cons.1 h with e | e
      · rw [e, ByteArray.size_extract]; omega
      · have := splitB_size k _ x e
        rw [ByteArray.size_extract] at this
        omega
end In
/-- Strings lie at A. -/
def SlS (w : World) (A : Option Addr) (xs : List ByteArray) : Prop := Sl w 1 A (xs.map fun x => [.string x])
theorem SlS.ext {w w' : World} {A : Option Addr} {xs : List ByteArray} (h : SlS w A xs) (he : Ext w w') : SlS w' A xs := Sl.ext h he
theorem cells_sl (w : World) (done : List ByteArray) (N : Nat) (t : TypeId) : SlS (w.alloc (.cells (Lib.cellsOf done N) t)) (some ⟨w.heap.size, 0, none⟩) done := by
  refine Or.inr ⟨w.heap.size, 0, rfl, by simp, fun i cs hi j v hv => ?_⟩
  rw [List.getElem?_map] at hi
  obtain ⟨u, hu, rfl⟩ := Option.map_eq_some_iff.1 hi
  match j, hv with
  | 0, hv =>
    simp at hv
    subst hv
    rw [World.cell?_alloc_new]
    have hl : i < done.length := by
      rcases Nat.lt_or_ge i done.length with g | g
      · exact g
      · rw [List.getElem?_eq_none g] at hu; cases hu
    unfold Lib.cellsOf
    simp [List.getElem?_append_left, hl]
    rw [List.getElem?_eq_getElem hl] at hu
    injection hu
set_option maxHeartbeats 800000 in
theorem splitN_to (s : ByteArray) (w : World) (hs : s.size ≤ 140737488355328) {n : Nat} (hn : (In.pcs s).length = n) :
    Calls Tryd.prog 42 #[.string s, .string ⟨#[32]⟩, .int .i64 8] w fun e w' => ∃ g c, e = .returned (.slice (some ⟨g, 0, none⟩) n c) ∧ SlS w' (some ⟨g, 0, none⟩) (In.pcs s) ∧ g < w'.heap.size ∧ Ext w w' := by
  obtain ⟨N, hN⟩ : ∃ N : Nat, min 8 ((s.size : Int) + 1) = (N : Int) := ⟨(min 8 ((s.size : Int) + 1)).toNat, by omega⟩
  have HN := Lib.hid hN
  have HL := Lib.hid hn
  clear hN hn
  go_enter Tryd.func42, Tryd.ntmps42
  go_wp2_with fail
  refine (genSplit_to s ⟨#[32]⟩ rfl _ hs N HN.out).mono ?_
  have e1 : Lib.splitB ⟨#[32]⟩ 0 (N - 1) s = In.pcs s := In.pcs_min s HN.out
  rw [e1, HL.out]
  clear e1
  rintro e w1 ⟨rfl, hw⟩
  have HW := Lib.hid hw
  clear hw
  go_wp2
  go_ret
  refine ⟨w.heap.size, N, rfl, ?_, ?_, ?_⟩
  · rw [HW.out]; exact cells_sl _ _ _ _
  · rw [HW.out]; simp
  · rw [HW.out]; exact (Ext.refl _).alloc _
end Go.Proofs.YtcpapnnghclbmaaDoor
