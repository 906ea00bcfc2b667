/- readMark, the reference's mark: contracts; the pieces of a text between slashes: plain facts. Conditions: those of each theorem. -/
import Derived.Test.YthjledbomonfpaaDoorRdP
import Derived.Lib.SplitLaws
namespace Go.Proofs.YthjledbomonfpaaDoor
open Go.RowKit

namespace Tk
def isD (c : UInt8) : Bool := decide (48 ≤ (c.toNat : Int) ∧ (c.toNat : Int) ≤ 57)
def val (l : List UInt8) : Int := l.foldl (fun n c => 10 * n + ((c.toNat : Int) - 48)) 0
def okD (l : List UInt8) : Bool := l.all isD
theorem val_snoc (l : List UInt8) (c : UInt8) : val (l ++ [c]) = 10 * val l + ((c.toNat : Int) - 48) := by unfold val; rw [List.foldl_append]; rfl
theorem ok_snoc (l : List UInt8) (c : UInt8) : okD (l ++ [c]) = (okD l && isD c) := by unfold okD; rw [List.all_append]; simp
theorem isD_iff (c : UInt8) : isD c = true ↔ 48 ≤ (c.toNat : Int) ∧ (c.toNat : Int) ≤ 57 := by unfold isD; simp
theorem val_bd : ∀ (l : List UInt8), okD l = true → l.length ≤ 2 → 0 ≤ val l ∧ val l ≤ 99 ∧ (l.length ≤ 1 → val l ≤ 9)
  | [], _, _ => by simp [val]
  | [a], h, _ => by
    simp [okD, isD] at h
    simp [val]; omega
  | [a, b], h, _ => by
    simp [okD, isD] at h
    simp [val]; omega
  | a :: b :: c :: l, _, h => by simp at h
theorem take_snoc (s : ByteArray) (k : Nat) (h : k < s.size) : s.data.toList.take (k + 1) = s.data.toList.take k ++ [s[k]] := by
  rw [List.take_succ_eq_append_getElem (by simpa using h)]; rfl
theorem ok_of_take {l : List UInt8} {k : Nat} (h : okD (l.take k) = false) : okD l = false := by
  unfold okD at *
  rw [List.all_eq_false] at *
  obtain ⟨x, hx, h⟩ := h
  exact ⟨x, List.mem_of_mem_take hx, h⟩
/-- A number of one or two digits without a leading zero. -/
def rdOk (l : List UInt8) : Bool := decide (1 ≤ l.length ∧ l.length ≤ 2 ∧ ¬ (l.length = 2 ∧ l.headD 0 = 48)) && okD l
def rdN (l : List UInt8) : Int := if rdOk l then val l else 0
def rdM (l : List UInt8) : Int := if rdOk l then val l else -1
theorem rd_no {l : List UInt8} (h : ¬ (1 ≤ l.length ∧ l.length ≤ 2 ∧ ¬ (l.length = 2 ∧ l.headD 0 = 48))) : rdOk l = false := by unfold rdOk; rw [decide_eq_false h]; rfl
theorem rd_bad {l : List UInt8} (h : okD l = false) : rdOk l = false := by unfold rdOk; simp [h]
theorem rd_yes {l : List UInt8} (h : 1 ≤ l.length ∧ l.length ≤ 2 ∧ ¬ (l.length = 2 ∧ l.headD 0 = 48)) (h2 : okD l = true) : rdOk l = true := by unfold rdOk; simp only [h2, Bool.and_true, decide_eq_true_eq]; exact h
theorem len_eq (s : ByteArray) : s.data.toList.length = s.size := rfl
theorem head_eq (s : ByteArray) (h : 0 < s.size) : s[0] = s.data.toList.headD 0 := by
  obtain ⟨⟨l⟩⟩ := s
  cases l with
  | nil => exact absurd h (by decide)
  | cons a r => rfl

/-- A text cut at its slashes. -/
def cuts : List UInt8 → List (List UInt8)
  | [] => [[]]
  | c :: l => if c = 47 then [] :: cuts l else (c :: (cuts l).headD []) :: (cuts l).tail
theorem cuts_ne (l : List UInt8) : cuts l ≠ [] := by cases l <;> simp [cuts]; split <;> simp
theorem cuts_split : ∀ l : List UInt8, Lib.splitK [47] 0 (l.count 47) l = cuts l
  | [] => rfl
  | c :: l => by
    have ih := cuts_split l
    by_cases h : c = 47
    · subst h
      have hix : Lib.index (47 :: l) [47] = 0 := by rw [Lib.index]; simp [List.isPrefixOf]
      rw [List.count_cons_self, Lib.splitK, hix, cuts, if_pos rfl, ← ih]
      simp
    · have hp : ([47] : List UInt8).isPrefixOf (c :: l) = false := by simp [List.isPrefixOf, Ne.symm h]
      have hix : Lib.index (c :: l) [47] = if Lib.index l [47] == -1 then -1 else Lib.index l [47] + 1 := by rw [Lib.index, hp]; simp
      rw [List.count_cons_of_ne (by simpa using h), cuts, if_neg h]
      cases hc : l.count 47 with
      | zero =>
        rw [hc] at ih
        rw [← ih]
        rfl
      | succ k =>
        rw [hc] at ih
        have hm : Lib.index l [47] ≠ -1 := fun e => by
          have := Lib.count_miss e
          rw [Lib.count_one] at this
          omega
        have hge := Lib.index_ge l [47]
        obtain ⟨j, hj⟩ : ∃ j : Nat, Lib.index l [47] = j := ⟨(Lib.index l [47]).toNat, by omega⟩
        have hb : ¬ (Lib.index l [47] == -1) = true := fun e => hm (beq_iff_eq.1 e)
        rw [Lib.splitK, if_neg hb, hj] at ih
        have hix' : Lib.index (c :: l) [47] = ((j + 1 : Nat) : Int) := by rw [hix, if_neg hb, hj]; omega
        rw [Lib.splitK, hix', if_neg (by rw [beq_iff_eq]; omega), ← ih]
        simp
theorem cut_end : ∀ {l : List UInt8}, (∀ c ∈ l, c ≠ 47) → cuts l = [l]
  | [], _ => rfl
  | c :: l, h => by rw [cuts, if_neg (h c (by simp)), cut_end (fun x hx => h x (List.mem_cons_of_mem _ hx))]; rfl
theorem cut_hit : ∀ {a : List UInt8} (b : List UInt8), (∀ c ∈ a, c ≠ 47) → cuts (a ++ 47 :: b) = a :: cuts b
  | [], b, _ => by rw [List.nil_append, cuts, if_pos rfl]
  | c :: a, b, h => by rw [List.cons_append, cuts, if_neg (h c (by simp)), cut_hit b (fun x hx => h x (List.mem_cons_of_mem _ hx))]; rfl
/-- The pieces as byte arrays, as Split leaves them. -/
def pcs (s : ByteArray) : List ByteArray := Lib.splitB ⟨#[47]⟩ 0 (Lib.countB s ⟨#[47]⟩) s
theorem pcs_cuts (s : ByteArray) : (pcs s).map (·.data.toList) = cuts s.data.toList := by
  unfold pcs
  rw [Lib.splitB_data]
  show Lib.splitK [47] 0 (Lib.count s.data.toList [47]) s.data.toList = _
  rw [Lib.count_one, cuts_split]
theorem pcs_len (s : ByteArray) : (pcs s).length = Lib.countB s ⟨#[47]⟩ + 1 := Lib.splitB_all _ (by decide) 0 _ s rfl
theorem pcs_le (s : ByteArray) : (pcs s).length ≤ s.size + 1 := by
  rw [pcs_len]
  have := Lib.countB_le ⟨#[47]⟩ (by decide) s.size s (Nat.le_refl _)
  omega
end Tk

set_option maxHeartbeats 1600000 in
theorem readMark_any (s : ByteArray) (hs : s.size ≤ maxLen) (w : World) :
    Calls Tryd.prog 20 #[.string s] w fun e w' => e = .returned (.tuple #[.int .i64 (Tk.rdN s.data.toList), .bool (Tk.rdOk s.data.toList)]) ∧ w' = w := by
  unfold maxLen at hs
  by_cases hq : 1 ≤ s.data.toList.length ∧ s.data.toList.length ≤ 2 ∧ ¬ (s.data.toList.length = 2 ∧ s.data.toList.headD 0 = 48)
  · have HQ := Lib.hid hq
    rw [Tk.len_eq] at hq
    obtain ⟨h1, h2, h3⟩ := hq
    obtain ⟨he1, he2⟩ := str_some (s := s) (by omega)
    have hle : ¬ (2 : Int) < (s.size : Int) := by omega
    have hcase : s.size = 1 ∨ (s.size = 2 ∧ ((s[0].toNat : Int) == 48) = false) := by
      rcases Nat.lt_or_ge s.size 2 with g | g
      · left; omega
      · right
        have h2' : s.size = 2 := by omega
        refine ⟨h2', ?_⟩
        rw [beq_eq_false_iff_ne]
        intro e
        refine h3 ⟨h2', ?_⟩
        rw [← Tk.head_eq s (by omega)]
        exact UInt8.toNat_inj.1 (by have : s[0].toNat = 48 := by omega
                                    rw [this]; rfl)
    clear h3
    have h12 : s.size = 1 ∨ s.size = 2 := by omega
    have loop : ∀ n : Nat, s.size = n → n ≤ 2 → True := fun _ _ _ => trivial
    clear loop
    rcases hcase with hn | ⟨hn, hd0⟩
    all_goals
      have HN := Lib.hid hn
      go_enter Tryd.func20, Tryd.ntmps20
      go_wp2
      go_loop [4, 25] (fun n i => ∃ k : Nat, k ≤ s.size ∧ i = .int .i64 k ∧ n = .int .i64 (Tk.val (s.data.toList.take k)) ∧ Tk.okD (s.data.toList.take k) = true) (fun _ i => s.size - (intOf i).toNat)
      case atStart => exact ⟨0, Nat.zero_le _, rfl, rfl, rfl⟩
      case round =>
        obtain ⟨k, hk, rfl, rfl, hok⟩ := hrel
        have hl : (s.data.toList.take k).length ≤ k := List.length_take_le _ _
        have hb := Tk.val_bd _ hok (by omega)
        obtain ⟨v, hv⟩ : ∃ v, Tk.val (s.data.toList.take k) = v := ⟨_, rfl⟩
        rw [hv] at hb ⊢
        have HV := Lib.hid hv
        have HOK := Lib.hid hok
        clear hv hok
        by_cases hlt : k < s.size
        · have hb9 : v ≤ 9 := hb.2.2 (by omega)
          obtain ⟨hb0, hb1, -⟩ := hb
          clear hl
          have hltI : (k : Int) < (s.size : Int) := by omega
          rw [hn] at hltI
          have HT := Lib.hid (Tk.take_snoc s k hlt)
          by_cases hd : 48 ≤ (s[k].toNat : Int) ∧ (s[k].toNat : Int) ≤ 57
          · obtain ⟨d1, d2⟩ := hd
            go_wp2
            go_round
            case rel =>
              refine ⟨k + 1, by omega, by go_num, ?_, ?_⟩
              · rw [HT.out, Tk.val_snoc, HV.out]
                first | rfl | (congr 1; omega)
              · rw [HT.out, Tk.ok_snoc, HOK.out]
                simp [Tk.isD_iff]; omega
            case measure => simp [intOf]; omega
          · have HB : Hid (Tk.rdOk s.data.toList = false) := Lib.hid (Tk.rd_bad (Tk.ok_of_take (k := k + 1) (by rw [HT.out, Tk.ok_snoc, HOK.out]; simpa [Tk.isD] using hd)))
            have hd' : (s[k].toNat : Int) < 48 ∨ (48 ≤ (s[k].toNat : Int) ∧ 57 < (s[k].toNat : Int)) := by omega
            clear hd
            rcases hd' with d1 | ⟨d1, d2⟩
            all_goals
              go_wp2
              refine bodyPost_ret (v := .tuple #[.int .i64 0, .bool false]) (by simp [results, Tryd.results20, go_sem]) rfl ⟨?_, rfl⟩
              unfold Tk.rdN
              rw [HB.out]
              rfl
        · have HALL : Hid (s.data.toList.take k = s.data.toList) := Lib.hid (List.take_of_length_le (by rw [Tk.len_eq]; omega))
          have hnl : ¬ (k : Int) < (s.size : Int) := by omega
          rw [hn] at hnl
          clear hb hl
          go_wp2
          refine bodyPost_ret (v := .tuple #[.int .i64 v, .bool true]) (by simp [results, Tryd.results20, go_sem]) rfl ⟨?_, rfl⟩
          have g1 := HOK.out
          have g2 := HV.out
          rw [HALL.out] at g1 g2
          have g3 := Tk.rd_yes HQ.out g1
          unfold Tk.rdN
          rw [g3, ← g2]
          rfl
  · have HB : Hid (Tk.rdOk s.data.toList = false) := Lib.hid (Tk.rd_no hq)
    rw [Tk.len_eq] at hq
    have hc : s.size = 0 ∨ (1 ≤ s.size ∧ 2 < s.size) ∨ s.size = 2 := by omega
    rcases hc with h0 | ⟨h1, h2⟩ | h2
    · have he := str_empty h0
      clear h0 hq
      go_enter Tryd.func20, Tryd.ntmps20
      go_wp2
      refine bodyPost_ret (v := .tuple #[.int .i64 0, .bool false]) (by simp [results, Tryd.results20, go_sem]) rfl ⟨?_, rfl⟩
      unfold Tk.rdN
      rw [HB.out]
      rfl
    · obtain ⟨he1, he2⟩ := str_some (s := s) (by omega)
      have h2' : (2 : Int) < (s.size : Int) := by omega
      clear hq
      go_enter Tryd.func20, Tryd.ntmps20
      go_wp2
      refine bodyPost_ret (v := .tuple #[.int .i64 0, .bool false]) (by simp [results, Tryd.results20, go_sem]) rfl ⟨?_, rfl⟩
      unfold Tk.rdN
      rw [HB.out]
      rfl
    · obtain ⟨he1, he2⟩ := str_some (s := s) (by omega)
      have hh : s.data.toList.headD 0 = 48 := by
        rcases Classical.em (s.data.toList.headD 0 = 48) with g | g
        · exact g
        · exact absurd ⟨by omega, by omega, fun e => g e.2⟩ hq
      rw [← Tk.head_eq s (by omega)] at hh
      have h48 : (s[0].toNat : Int) = 48 := by rw [hh]; rfl
      clear hq hh
      go_enter Tryd.func20, Tryd.ntmps20
      go_wp2
      refine bodyPost_ret (v := .tuple #[.int .i64 0, .bool false]) (by simp [results, Tryd.results20, go_sem]) rfl ⟨?_, rfl⟩
      unfold Tk.rdN
      rw [HB.out]
      rfl

set_option maxHeartbeats 1600000 in
theorem mark_any (s : ByteArray) (hs : s.size ≤ maxLen) (w : World) :
    Calls Tryd.prog 21 #[.string s] w fun e w' => e = .returned (.int .i64 (Tk.rdM s.data.toList)) ∧ w' = w := by
  unfold maxLen at hs
  by_cases hq : 1 ≤ s.data.toList.length ∧ s.data.toList.length ≤ 2 ∧ ¬ (s.data.toList.length = 2 ∧ s.data.toList.headD 0 = 48)
  · have HQ := Lib.hid hq
    rw [Tk.len_eq] at hq
    obtain ⟨h1, h2, h3⟩ := hq
    obtain ⟨he1, he2⟩ := str_some (s := s) (by omega)
    have hle : ¬ (2 : Int) < (s.size : Int) := by omega
    have hcase : (s.size = 1 ∧ ((s[0].toNat : Int) == 48) = true) ∨ (s.size = 1 ∧ ((s[0].toNat : Int) == 48) = false) ∨ (s.size = 2 ∧ ((s[0].toNat : Int) == 48) = false) := by
      rcases Nat.lt_or_ge s.size 2 with g | g
      · have h1' : s.size = 1 := by omega
        cases hb : ((s[0].toNat : Int) == 48)
        · exact Or.inr (Or.inl ⟨h1', rfl⟩)
        · exact Or.inl ⟨h1', rfl⟩
      · right; right
        have h2' : s.size = 2 := by omega
        refine ⟨h2', ?_⟩
        rw [beq_eq_false_iff_ne]
        intro e
        refine h3 ⟨h2', ?_⟩
        rw [← Tk.head_eq s (by omega)]
        exact UInt8.toNat_inj.1 (by have : s[0].toNat = 48 := by omega
                                    rw [this]; rfl)
    clear h3
    have h12 : s.size = 1 ∨ s.size = 2 := by omega
    have loop : ∀ n : Nat, s.size = n → n ≤ 2 → True := fun _ _ _ => trivial
    clear loop
    rcases hcase with ⟨hn, hd0⟩ | ⟨hn, hd0⟩ | ⟨hn, hd0⟩
    all_goals
      have HN := Lib.hid hn
      go_enter Tryd.func21, Tryd.ntmps21
      go_wp2
      go_loop [3, 4] (fun n i => ∃ k : Nat, k ≤ s.size ∧ i = .int .i64 k ∧ n = .int .i64 (Tk.val (s.data.toList.take k)) ∧ Tk.okD (s.data.toList.take k) = true) (fun _ i => s.size - (intOf i).toNat)
      case atStart => exact ⟨0, Nat.zero_le _, rfl, rfl, rfl⟩
      case round =>
        obtain ⟨k, hk, rfl, rfl, hok⟩ := hrel
        have hl : (s.data.toList.take k).length ≤ k := List.length_take_le _ _
        have hb := Tk.val_bd _ hok (by omega)
        obtain ⟨v, hv⟩ : ∃ v, Tk.val (s.data.toList.take k) = v := ⟨_, rfl⟩
        rw [hv] at hb ⊢
        have HV := Lib.hid hv
        have HOK := Lib.hid hok
        clear hv hok
        by_cases hlt : k < s.size
        · have hb9 : v ≤ 9 := hb.2.2 (by omega)
          obtain ⟨hb0, hb1, -⟩ := hb
          clear hl
          have hltI : (k : Int) < (s.size : Int) := by omega
          rw [hn] at hltI
          have HT := Lib.hid (Tk.take_snoc s k hlt)
          by_cases hd : 48 ≤ (s[k].toNat : Int) ∧ (s[k].toNat : Int) ≤ 57
          · obtain ⟨d1, d2⟩ := hd
            go_wp2
            go_round
            case rel =>
              refine ⟨k + 1, by omega, by go_num, ?_, ?_⟩
              · rw [HT.out, Tk.val_snoc, HV.out]
              · rw [HT.out, Tk.ok_snoc, HOK.out]
                simp [Tk.isD_iff]; omega
            case measure => simp [intOf]; omega
          · have HB : Hid (Tk.rdOk s.data.toList = false) := Lib.hid (Tk.rd_bad (Tk.ok_of_take (k := k + 1) (by rw [HT.out, Tk.ok_snoc, HOK.out]; simpa [Tk.isD] using hd)))
            have hd' : (s[k].toNat : Int) < 48 ∨ (48 ≤ (s[k].toNat : Int) ∧ 57 < (s[k].toNat : Int)) := by omega
            clear hd
            rcases hd' with d1 | ⟨d1, d2⟩
            all_goals
              go_wp2
              go_ret
              refine ⟨ret_int ?_, rfl⟩
              unfold Tk.rdM
              rw [HB.out]
              rfl
        · have HALL : Hid (s.data.toList.take k = s.data.toList) := Lib.hid (List.take_of_length_le (by rw [Tk.len_eq]; omega))
          have hnl : ¬ (k : Int) < (s.size : Int) := by omega
          rw [hn] at hnl
          clear hb hl
          go_wp2
          go_ret
          refine ⟨ret_int ?_, rfl⟩
          have g1 := HOK.out
          have g2 := HV.out
          rw [HALL.out] at g1 g2
          have g3 := Tk.rd_yes HQ.out g1
          unfold Tk.rdM
          rw [g3, ← g2]
          rfl
  · have HB : Hid (Tk.rdOk s.data.toList = false) := Lib.hid (Tk.rd_no hq)
    rw [Tk.len_eq] at hq
    have hc : s.size = 0 ∨ (1 ≤ s.size ∧ 2 < s.size) ∨ s.size = 2 := by omega
    rcases hc with h0 | ⟨h1, h2⟩ | h2
    · have he := str_empty h0
      have h0' : (s.size : Int) < 1 := by omega
      clear hq
      go_enter Tryd.func21, Tryd.ntmps21
      go_wp2
      go_ret
      refine ⟨ret_int ?_, rfl⟩
      unfold Tk.rdM
      rw [HB.out]
      rfl
    · obtain ⟨he1, he2⟩ := str_some (s := s) (by omega)
      have h2' : (2 : Int) < (s.size : Int) := by omega
      clear hq
      go_enter Tryd.func21, Tryd.ntmps21
      go_wp2
      go_ret
      refine ⟨ret_int ?_, rfl⟩
      unfold Tk.rdM
      rw [HB.out]
      rfl
    · obtain ⟨he1, he2⟩ := str_some (s := s) (by omega)
      have hh : s.data.toList.headD 0 = 48 := by
        rcases Classical.em (s.data.toList.headD 0 = 48) with g | g
        · exact g
        · exact absurd ⟨by omega, by omega, fun e => g e.2⟩ hq
      rw [← Tk.head_eq s (by omega)] at hh
      have h48 : (s[0].toNat : Int) = 48 := by rw [hh]; rfl
      clear hq hh
      go_enter Tryd.func21, Tryd.ntmps21
      go_wp2
      go_ret
      refine ⟨ret_int ?_, rfl⟩
      unfold Tk.rdM
      rw [HB.out]
      rfl
end Go.Proofs.YthjledbomonfpaaDoor
