/- Scoring by key, in plain words: what keying and its reference compute. No conditions. The two packages' rising, printable and normalized, the content package's validSegment: contracts. Conditions: those of each theorem. Equality of lists, add, the reference's Diff, the law's sameNames and contains: contracts. Conditions: those of each theorem. Answers as values; keying's kinds and rising, the reference's chosen and written: contracts. Conditions: those of each theorem. Scoring by key: the reference's count and place, slices.Index and Contains of integers, the scores of choices, in the package and in the reference: contracts. Conditions: those of each theorem. The scores of several choices, in the package and in the reference: contracts. Conditions: those of each theorem. The normal form of a short answer, in the package: a contract. Conditions: those of each theorem. The normal form of a short answer, in the reference: a contract. Conditions: those of each theorem. Trees of nodes: what they say, how they lie in memory. No conditions. codec.copies, List, Int and String; the same of the reference; lists of numbers and texts as nodes: contracts. Conditions: those of each theorem. The form of a node: the package's isNode, the reference's formed: contracts. Conditions: those of each theorem. The package's numbers and texts: lists as nodes: contracts. Conditions: those of each theorem. The form of an item's tree: isList and isTree; numbersOf, textsOf: contracts. Conditions: those of each theorem. isTree: the form of an item's tree: a contract. Conditions: those of each theorem. -/
import Derived.Test.YtgaepmddbjdhfaaGreatDoorItA
import Derived.Test.YtgaepmddbjdhfaaGreatDoorApp
import Derived.Deep.AppendLies
import Derived.Test.YtgaepmddbjdhfaaGreatDoorItP
namespace Go.Proofs.YtgaepmddbjdhfaaGreatDoor
namespace Rs

structure Ans where
  item : Int
  chs : List Int
  val : Int
  text : ByteArray
  om : Bool
/-- Strictly rising. -/
def incA (l : List Int) (i : Nat) : Bool := decide (i = 0) || decide (l.getD (i - 1) 0 < l.getD i 0)
def inc (l : List Int) : Bool := It.allN (incA l) l.length
/-- Each number once. -/
def uniA (l : List Int) (i : Nat) : Bool := decide (It.times l (l.getD i 0) = 1)
def uni (l : List Int) : Bool := It.allN (uniA l) l.length
theorem getD_at {l : List Int} {i : Nat} (h : i < l.length) : l.getD i 0 = l[i] := by rw [List.getD_eq_getElem?_getD, List.getElem?_eq_getElem h]; rfl
theorem inc_pair {l : List Int} : inc l = true ↔ l.Pairwise (· < ·) := by
  unfold inc
  rw [It.allN_iff, List.pairwise_iff_getElem]
  constructor
  · intro h i j hi hj hij
    induction j with
    | zero => omega
    | succ j ih =>
      have h1 := h (j + 1) hj
      unfold incA at h1
      simp only [Nat.add_one_ne_zero, decide_false, Bool.false_or, decide_eq_true_eq, Nat.add_sub_cancel] at h1
      rw [getD_at (by omega), getD_at hj] at h1
      by_cases hl : i = j
      · subst hl; exact h1
      · have := ih (by omega) (by omega)
        omega
  · intro h i hi
    unfold incA
    by_cases h0 : i = 0
    · simp [h0]
    · have := h (i - 1) i (by omega) hi (by omega)
      rw [getD_at (show i - 1 < l.length by omega), getD_at hi]
      simp [h0, this]
theorem uni_nodup {l : List Int} : uni l = true ↔ l.Nodup := by
  unfold uni
  rw [It.allN_iff, List.nodup_iff_count]
  constructor
  · intro h a
    by_cases ha : a ∈ l
    · obtain ⟨i, hi, rfl⟩ := List.mem_iff_getElem.1 ha
      have := h i hi
      unfold uniA It.times at this
      rw [decide_eq_true_eq, getD_at hi] at this
      omega
    · rw [List.count_eq_zero.2 ha]; omega
  · intro h i hi
    unfold uniA It.times
    rw [decide_eq_true_eq, getD_at hi]
    have h1 := h l[i]
    have h2 : 0 < List.count l[i] l := List.count_pos_iff.2 (List.getElem_mem hi)
    omega
theorem sorted_pair (l : List Int) : (It.sorted l).Pairwise (· ≤ ·) := by
  have := List.pairwise_mergeSort (le := fun x y : Int => decide (x ≤ y)) (fun a b c h1 h2 => by simp at *; omega) (fun a b => by simp; omega) l
  unfold It.sorted
  exact this.imp (fun h => by simpa using h)
theorem inc_sorted (l : List Int) : inc (It.sorted l) = uni l := by
  rw [Bool.eq_iff_iff, inc_pair, uni_nodup]
  constructor
  · intro h
    have : (It.sorted l).Nodup := List.nodup_iff_pairwise_ne.2 (h.imp (fun h => by omega))
    exact (It.sorted_perm l).nodup_iff.1 this
  · intro h
    have h1 : (It.sorted l).Nodup := (It.sorted_perm l).nodup_iff.2 h
    have h2 := List.nodup_iff_pairwise_ne.1 h1
    exact ((sorted_pair l).and h2).imp (fun ⟨a, b⟩ => by omega)
theorem inc_nodup {l : List Int} (h : inc l = true) : l.Nodup := List.nodup_iff_pairwise_ne.2 ((inc_pair.1 h).imp (fun h => by omega))
/-- Kinds. -/
def hasC (k : Int) : Bool := decide (k = 1) || decide (k = 2) || decide (k = 3)
def hasT (k : Int) : Bool := decide (k = 5) || decide (k = 6)
/-- A field is used that must not be. -/
def used (k : Int) (a : Ans) : Bool := (decide (0 < a.chs.length) && (a.om || !hasC k)) || (decide (a.val ≠ 0) && (a.om || decide (k ≠ 4))) || (decide (a.text.size ≠ 0) && (a.om || !hasT k))
def fit (k : Int) (n : Nat) (l : List Int) : Bool := if k = 1 then decide (l.length = 1) else if k = 2 then inc l else decide (l.length = n) && uni l
/-- The error of chosen options. -/
def cho (k : Int) (n : Nat) (l : List Int) : Int := if l.all (fun x => It.wi x 0 ((n : Int) - 1)) = false then 3 else if fit k n l = true then 0 else 23
/-- The error of an answer to an item that is valid. -/
def vl (it : It.Item) (a : Ans) : Int := if a.item ≠ it.id then 6 else if used it.kind a = true then 1 else if a.om = true then 0 else if it.kind = 4 then (if It.wi a.val (-9999999) 9999999 = true then 0 else 3) else if it.kind = 5 then (if 200 < a.text.size then 5 else 0) else if it.kind = 6 then (if 2000 < a.text.size then 5 else 0) else cho it.kind it.opts.length a.chs
/-- Right ones among chosen ones. -/
def rgtM (key l : List Int) : Nat := l.countP fun x => decide (x ∈ key)
def sumC (key l : List Int) : Nat := (l.map fun x => It.times key x).sum
theorem sumC_eq {key : List Int} (h : key.Nodup) : ∀ l, sumC key l = rgtM key l
  | [] => rfl
  | x :: l => by
    have ih := sumC_eq h l
    unfold sumC rgtM at *
    rw [List.map_cons, List.sum_cons, ih, List.countP_cons]
    unfold It.times
    rw [h.count]
    by_cases hx : x ∈ key <;> simp [hx] <;> omega
theorem rgtM_le (key l : List Int) : rgtM key l ≤ l.length := List.countP_le_length
theorem rgtM_next {key l : List Int} {k : Nat} {x : Int} (h : l[k]? = some x) : rgtM key (l.take (k + 1)) = rgtM key (l.take k) + if x ∈ key then 1 else 0 := by
  unfold rgtM
  rw [List.take_add_one, h, List.countP_append]
  by_cases hx : x ∈ key <;> simp [hx]
theorem sumC_next {key l : List Int} {k : Nat} {x : Int} (h : l[k]? = some x) : sumC key (l.take (k + 1)) = sumC key (l.take k) + It.times key x := by
  unfold sumC
  rw [List.take_add_one, h, List.map_append, List.sum_append]
  simp
/-- Where a number is in the key. -/
def ix (key : List Int) (x : Int) : Int := if x ∈ key then (key.idxOf x : Int) else -1
/-- Pairs in the order of the key; all pairs. -/
def rgtO (key : List Int) : List Int → Nat
  | [] => 0
  | x :: l => l.countP (fun y => decide (ix key x < ix key y)) + rgtO key l
def prs : List Int → Nat
  | [] => 0
  | _ :: l => l.length + prs l
theorem rgtO_le (key : List Int) : ∀ l, rgtO key l ≤ prs l
  | [] => Nat.le_refl _
  | x :: l => by
    have h1 := rgtO_le key l
    have h2 : l.countP (fun y => decide (ix key x < ix key y)) ≤ l.length := List.countP_le_length
    show _ + _ ≤ _ + _
    omega
theorem prs_le : ∀ l : List Int, prs l ≤ l.length * l.length
  | [] => Nat.le_refl _
  | x :: l => by
    have := prs_le l
    show l.length + prs l ≤ (l.length + 1) * (l.length + 1)
    rw [Nat.add_mul, Nat.mul_add]
    omega
theorem drop_cons {l : List Int} {k : Nat} {x : Int} (h : l[k]? = some x) : l.drop k = x :: l.drop (k + 1) := by
  obtain ⟨hk, rfl⟩ := List.getElem?_eq_some_iff.1 h
  exact List.drop_eq_getElem_cons hk
theorem cnt_next {p : Int → Bool} {l : List Int} {k : Nat} {x : Int} (h : l[k]? = some x) : (l.take (k + 1)).countP p = (l.take k).countP p + if p x = true then 1 else 0 := by
  rw [List.take_add_one, h, List.countP_append]
  cases hx : p x <;> simp [hx]
/-- Points for right ones less wrong ones. -/
def pts (r n p d : Int) : Int := (if 2 * r < n then 0 else 2 * r - n) * p / d
/-- The normal form of a short answer: what was written, whether a blank is due. -/
def isL (c : UInt8) : Bool := (decide (97 ≤ c.toNat) && decide (c.toNat ≤ 122)) || (decide (48 ≤ c.toNat) && decide (c.toNat ≤ 57))
def isU (c : UInt8) : Bool := decide (65 ≤ c.toNat) && decide (c.toNat ≤ 90)
def low (c : UInt8) : UInt8 := if isU c = true then c + 32 else c
def nst (st : List UInt8 × Bool) (c : UInt8) : List UInt8 × Bool :=
  if c = 32 then (st.1, decide (st.1 ≠ []))
  else if (isU c || isL c) = true then (st.1 ++ (if st.2 = true then [32] else []) ++ [low c], false) else st
def nfold (l : List UInt8) : List UInt8 × Bool := l.foldl nst ([], false)
def norm (s : ByteArray) : List UInt8 := (nfold s.data.toList).1
theorem nfold_next {l : List UInt8} {k : Nat} {c : UInt8} (h : l[k]? = some c) : nfold (l.take (k + 1)) = nst (nfold (l.take k)) c := by
  unfold nfold; rw [List.take_add_one, h, List.foldl_append]; rfl
theorem nst_len (st : List UInt8 × Bool) (c : UInt8) : (nst st c).1.length ≤ st.1.length + 2 := by
  unfold nst
  split
  · simp
  · split
    · simp only [List.length_append, List.length_cons, List.length_nil]; split <;> simp
    · simp
theorem nfold_len (l : List UInt8) : (nfold l).1.length ≤ 2 * l.length := by
  have : ∀ (l : List UInt8) (st : List UInt8 × Bool), (l.foldl nst st).1.length ≤ st.1.length + 2 * l.length := by
    intro l
    induction l with
    | nil => intro st; simp
    | cons c l ih =>
      intro st
      rw [List.foldl_cons, List.length_cons]
      have h1 := ih (nst st c)
      have h2 := nst_len st c
      omega
  have := this l ([], false)
  simpa [nfold] using this
def eqText (it : It.Item) (a : Ans) : Bool := it.texts.any fun t => decide (t.data.toList = norm a.text)
/-- The category of an answer that is valid, to an item that is no essay. -/
def cat (it : It.Item) (a : Ans) : Int :=
  if a.om = true then 0
  else if it.kind = 2 then pts (rgtM it.chs a.chs) a.chs.length it.pts it.chs.length
  else if it.kind = 3 then pts (rgtO it.chs a.chs) (prs a.chs) it.pts (prs a.chs)
  else if (if it.kind = 1 then decide (a.chs.getD 0 0 = it.chs.getD 0 0) else if it.kind = 4 then decide (a.val - it.value ≤ it.tol) && decide (it.value - a.val ≤ it.tol) else eqText it a) = true then it.pts else 0
end Rs
end Go.Proofs.YtgaepmddbjdhfaaGreatDoor
namespace Go.Proofs.YtgaepmddbjdhfaaGreatDoor
open Go.RowKit


set_option maxRecDepth 100000 in
set_option maxHeartbeats 1600000 in
theorem rising_any (A : Option Addr) (c : Nat) (l : List Int) (lo hi : Int) (w : World) (h : SlI w A l) (hl : l.length ≤ 9223372036854775807) :
    Calls Tryz.prog 83 #[.slice A l.length c, .int .i64 lo, .int .i64 hi] w fun e w' => e = .returned (.bool (It.rising l lo hi)) ∧ w = w' := by
  have H := Lib.hid h
  clear h
  obtain ⟨v, hv⟩ : ∃ v, It.rising l lo hi = v := ⟨_, rfl⟩
  have HV := Lib.hid hv
  rw [hv]
  clear hv
  go_enter Tryz.func83, Tryz.ntmps83
  go_wp2
  go_loop [11] (fun i => ∃ k : Nat, k ≤ l.length ∧ i = .int .i64 k ∧ Hid (It.allN (It.risA l lo hi) k = true)) (fun i => l.length - (intOf i).toNat)
  case atStart => exact ⟨0, by omega, rfl, Lib.hid rfl⟩
  case round =>
    obtain ⟨k, hk, rfl, HA⟩ := hrel
    by_cases hlt : k < l.length
    · obtain ⟨b, off, x, rfl, hb, hx, hc⟩ := H.out.at_ hlt
      have hxd : Hid (l.getD k 0 = x) := Lib.hid (by rw [List.getD_eq_getElem?_getD, hx]; rfl)
      clear hx
      have hend : It.risA l lo hi k = false → Hid (v = false) := fun g => Lib.hid (by rw [← HV.out]; exact It.allN_no hlt g)
      have hnext : It.risA l lo hi k = true → Hid (It.allN (It.risA l lo hi) (k + 1) = true) := fun g => Lib.hid (It.allN_next HA.out g)
      have hra : It.risA l lo hi k = (It.wi x lo hi && (decide (k = 0) || decide (l.getD (k - 1) 0 < x))) := by unfold It.risA; rw [hxd.out]
      have HR := Lib.hid hra
      have HE := Lib.hid hend
      have HN := Lib.hid hnext
      clear hra hend hnext
      obtain ⟨q, hq⟩ : ∃ q, It.wi x lo hi = q := ⟨_, rfl⟩
      have HQ := Lib.hid hq
      clear hq
      cases q with
      | false =>
        have HF := HE.out (by rw [HR.out, HQ.out]; rfl)
        go_wp2_with (go_at_call 79; refine (within_any _ _ _ _).mono ?_; rintro e w' ⟨rfl, rfl⟩; rw [HQ.out])
        go_ret
        exact ⟨ret_bool HF.out.symm, rfl⟩
      | true =>
        rcases Nat.eq_zero_or_pos k with h0 | h0
        · subst h0
          have hc0 : w.cell? ⟨b, off, none⟩ = some (.int .i64 x) := by simpa using hc
          have HF := HN.out (by rw [HR.out, HQ.out]; rfl)
          go_wp2_with (go_at_call 79; refine (within_any _ _ _ _).mono ?_; rintro e w' ⟨rfl, rfl⟩; rw [HQ.out])
          go_round
          case rel => exact ⟨0 + 1, by omega, by go_num, HF⟩
          case measure => simp [intOf]; omega
        · obtain ⟨j, rfl⟩ : ∃ j, k = j + 1 := ⟨k - 1, by omega⟩
          obtain ⟨b', off', y, e', hb', hy, hc'⟩ := H.out.at_ (i := j) (by omega)
          obtain ⟨rfl, rfl⟩ : b = b' ∧ off = off' := by cases e'; exact ⟨rfl, rfl⟩
          have hyd : Hid (l.getD (j + 1 - 1) 0 = y) := Lib.hid (by rw [Nat.add_sub_cancel, List.getD_eq_getElem?_getD, hy]; rfl)
          clear hy e'
          by_cases hxy : x ≤ y
          · have HF := HE.out (by rw [HR.out, HQ.out, hyd.out, decide_eq_false (show ¬ (j + 1 = 0) by omega), decide_eq_false (show ¬ (y < x) by omega)]; rfl)
            go_wp2_with (go_at_call 79; refine (within_any _ _ _ _).mono ?_; rintro e w' ⟨rfl, rfl⟩; rw [HQ.out])
            go_ret
            exact ⟨ret_bool HF.out.symm, rfl⟩
          · have hxy' : y < x := by omega
            have HF := HN.out (by rw [HR.out, HQ.out, hyd.out, decide_eq_true hxy', Bool.or_true]; rfl)
            clear hxy
            go_wp2_with (go_at_call 79; refine (within_any _ _ _ _).mono ?_; rintro e w' ⟨rfl, rfl⟩; rw [HQ.out])
            go_round
            case rel => exact ⟨j + 1 + 1, by omega, by go_num, HF⟩
            case measure => simp [intOf]; omega
    · have HF : Hid (v = true) := Lib.hid (by rw [← HV.out]; unfold It.rising; rw [show l.length = k by omega]; exact HA.out)
      go_wp2
      go_ret
      exact ⟨ret_bool HF.out.symm, rfl⟩


set_option maxRecDepth 100000 in
set_option maxHeartbeats 1600000 in
theorem rrising_any (A : Option Addr) (c : Nat) (l : List Int) (lo hi : Int) (w : World) (h : SlI w A l) (hl : l.length ≤ 9223372036854775807) :
    Calls Tryz.prog 94 #[.slice A l.length c, .int .i64 lo, .int .i64 hi] w fun e w' => e = .returned (.bool (It.rising l lo hi)) ∧ w = w' := by
  have H := Lib.hid h
  clear h
  obtain ⟨v, hv⟩ : ∃ v, It.rising l lo hi = v := ⟨_, rfl⟩
  have HV := Lib.hid hv
  rw [hv]
  clear hv
  go_enter Tryz.func94, Tryz.ntmps94
  go_wp2
  go_loop [11] (fun i => ∃ k : Nat, k ≤ l.length ∧ i = .int .i64 k ∧ Hid (It.allN (It.risA l lo hi) k = true)) (fun i => l.length - (intOf i).toNat)
  case atStart => exact ⟨0, by omega, rfl, Lib.hid rfl⟩
  case round =>
    obtain ⟨k, hk, rfl, HA⟩ := hrel
    by_cases hlt : k < l.length
    · obtain ⟨b, off, x, rfl, hb, hx, hc⟩ := H.out.at_ hlt
      have hxd : Hid (l.getD k 0 = x) := Lib.hid (by rw [List.getD_eq_getElem?_getD, hx]; rfl)
      clear hx
      have hend : It.risA l lo hi k = false → Hid (v = false) := fun g => Lib.hid (by rw [← HV.out]; exact It.allN_no hlt g)
      have hnext : It.risA l lo hi k = true → Hid (It.allN (It.risA l lo hi) (k + 1) = true) := fun g => Lib.hid (It.allN_next HA.out g)
      have hra : It.risA l lo hi k = (It.wi x lo hi && (decide (k = 0) || decide (l.getD (k - 1) 0 < x))) := by unfold It.risA; rw [hxd.out]
      have HR := Lib.hid hra
      have HE := Lib.hid hend
      have HN := Lib.hid hnext
      clear hra hend hnext
      obtain ⟨q, hq⟩ : ∃ q, It.wi x lo hi = q := ⟨_, rfl⟩
      have HQ := Lib.hid hq
      clear hq
      cases q with
      | false =>
        have HF := HE.out (by rw [HR.out, HQ.out]; rfl)
        go_wp2_with (go_at_call 91; refine (rwithin_any _ _ _ _).mono ?_; rintro e w' ⟨rfl, rfl⟩; rw [HQ.out])
        go_ret
        exact ⟨ret_bool HF.out.symm, rfl⟩
      | true =>
        rcases Nat.eq_zero_or_pos k with h0 | h0
        · subst h0
          have hc0 : w.cell? ⟨b, off, none⟩ = some (.int .i64 x) := by simpa using hc
          have HF := HN.out (by rw [HR.out, HQ.out]; rfl)
          go_wp2_with (go_at_call 91; refine (rwithin_any _ _ _ _).mono ?_; rintro e w' ⟨rfl, rfl⟩; rw [HQ.out])
          go_round
          case rel => exact ⟨0 + 1, by omega, by go_num, HF⟩
          case measure => simp [intOf]; omega
        · obtain ⟨j, rfl⟩ : ∃ j, k = j + 1 := ⟨k - 1, by omega⟩
          obtain ⟨b', off', y, e', hb', hy, hc'⟩ := H.out.at_ (i := j) (by omega)
          obtain ⟨rfl, rfl⟩ : b = b' ∧ off = off' := by cases e'; exact ⟨rfl, rfl⟩
          have hyd : Hid (l.getD (j + 1 - 1) 0 = y) := Lib.hid (by rw [Nat.add_sub_cancel, List.getD_eq_getElem?_getD, hy]; rfl)
          clear hy e'
          by_cases hxy : x ≤ y
          · have HF := HE.out (by rw [HR.out, HQ.out, hyd.out, decide_eq_false (show ¬ (j + 1 = 0) by omega), decide_eq_false (show ¬ (y < x) by omega)]; rfl)
            go_wp2_with (go_at_call 91; refine (rwithin_any _ _ _ _).mono ?_; rintro e w' ⟨rfl, rfl⟩; rw [HQ.out])
            go_ret
            exact ⟨ret_bool HF.out.symm, rfl⟩
          · have hxy' : y < x := by omega
            have HF := HN.out (by rw [HR.out, HQ.out, hyd.out, decide_eq_true hxy', Bool.or_true]; rfl)
            clear hxy
            go_wp2_with (go_at_call 91; refine (rwithin_any _ _ _ _).mono ?_; rintro e w' ⟨rfl, rfl⟩; rw [HQ.out])
            go_round
            case rel => exact ⟨j + 1 + 1, by omega, by go_num, HF⟩
            case measure => simp [intOf]; omega
    · have HF : Hid (v = true) := Lib.hid (by rw [← HV.out]; unfold It.rising; rw [show l.length = k by omega]; exact HA.out)
      go_wp2
      go_ret
      exact ⟨ret_bool HF.out.symm, rfl⟩


set_option maxRecDepth 100000 in
set_option maxHeartbeats 1600000 in
theorem printable_any (s : ByteArray) (most : Nat) (w : World) (hs : s.size ≤ 9223372036854775807) :
    Calls Tryz.prog 109 #[.string s, .int .i64 most] w fun e w' => e = .returned (.bool (It.prn s most false)) ∧ w = w' := by
  obtain ⟨v, hv⟩ : ∃ v, It.prn s most false = v := ⟨_, rfl⟩
  have HV := Lib.hid hv
  rw [hv]
  clear hv
  go_enter Tryz.func109, Tryz.ntmps109
  go_wp2
  go_loop [5] (fun i => ∃ k : Nat, k ≤ s.size ∧ i = .int .i64 k ∧ Hid (It.allN (fun i => It.okc false (It.by_ s i)) k = true)) (fun i => s.size - (intOf i).toNat)
  case atStart => exact ⟨0, by omega, rfl, Lib.hid rfl⟩
  case round =>
    obtain ⟨k, hk, rfl, HA⟩ := hrel
    by_cases hlt : k < s.size
    · have hby := It.by_at s hlt
      have HE : Hid ((fun i => It.okc false (It.by_ s i)) k = false → Hid (v = false)) := Lib.hid fun g => Lib.hid (by
        rw [← HV.out]; unfold It.prn; rw [It.allN_no hlt g]; simp)
      have HN : Hid ((fun i => It.okc false (It.by_ s i)) k = true → Hid (It.allN (fun i => It.okc false (It.by_ s i)) (k + 1) = true)) := Lib.hid fun g => Lib.hid (It.allN_next HA.out g)
      rcases (show ((s[k].toNat : Int) < 32) ∨ (32 ≤ (s[k].toNat : Int) ∧ 126 < (s[k].toNat : Int)) ∨ (32 ≤ (s[k].toNat : Int) ∧ (s[k].toNat : Int) ≤ 126) by omega) with h1 | ⟨h1, h2⟩ | ⟨h1, h2⟩
      · have HF := HE.out (by show It.okc false (It.by_ s k) = false; rw [hby]; unfold It.okc; simp; omega)
        clear hby
        go_wp2
        all_goals
          go_ret
          exact ⟨ret_bool HF.out.symm, rfl⟩
      · have HF := HE.out (by show It.okc false (It.by_ s k) = false; rw [hby]; unfold It.okc; simp; omega)
        clear hby
        go_wp2
        all_goals
          go_ret
          exact ⟨ret_bool HF.out.symm, rfl⟩
      · have HF := HN.out (by show It.okc false (It.by_ s k) = true; rw [hby]; unfold It.okc; simp; omega)
        clear hby
        go_wp2
        all_goals
          go_round
          case rel => exact ⟨k + 1, by omega, by go_num, HF⟩
          case measure => simp [intOf]; omega
    · obtain rfl : k = s.size := by omega
      have HF : Hid (v = (decide (1 ≤ s.size) && decide (s.size ≤ most))) := Lib.hid (by rw [← HV.out]; unfold It.prn; rw [HA.out, Bool.and_true])
      rcases (show (s.size < 1) ∨ (1 ≤ s.size ∧ most < s.size) ∨ (1 ≤ s.size ∧ s.size ≤ most) by omega) with h1 | ⟨h1, h2⟩ | ⟨h1, h2⟩
      · have HF2 : Hid (v = false) := Lib.hid (by rw [HF.out, decide_eq_false (by omega)]; rfl)
        go_wp2
        go_ret
        exact ⟨ret_bool (by first | exact HF2.out.symm | (rw [HF2.out]; exact decide_eq_false (by omega)) | (rw [HF2.out]; exact decide_eq_true (by omega))), rfl⟩
      · have HF2 : Hid (v = false) := Lib.hid (by rw [HF.out, decide_eq_false (show ¬ s.size ≤ most by omega), Bool.and_false])
        go_wp2
        go_ret
        exact ⟨ret_bool (by first | exact HF2.out.symm | (rw [HF2.out]; exact decide_eq_false (by omega)) | (rw [HF2.out]; exact decide_eq_true (by omega))), rfl⟩
      · have HF2 : Hid (v = true) := Lib.hid (by rw [HF.out, decide_eq_true h1, decide_eq_true h2]; rfl)
        go_wp2
        go_ret
        exact ⟨ret_bool (by first | exact HF2.out.symm | (rw [HF2.out]; exact decide_eq_false (by omega)) | (rw [HF2.out]; exact decide_eq_true (by omega))), rfl⟩


set_option maxRecDepth 100000 in
set_option maxHeartbeats 1600000 in
theorem rprintable_false_any (s : ByteArray) (most : Nat) (w : World) (hs : s.size ≤ 9223372036854775807) :
    Calls Tryz.prog 116 #[.string s, .int .i64 most, .bool false] w fun e w' => e = .returned (.bool (It.prn s most false)) ∧ w = w' := by
  obtain ⟨v, hv⟩ : ∃ v, It.prn s most false = v := ⟨_, rfl⟩
  have HV := Lib.hid hv
  rw [hv]
  clear hv
  have hno : ¬ (1 ≤ s.size ∧ s.size ≤ most) → Hid (v = false) := fun g => Lib.hid (by rw [← HV.out]; unfold It.prn; simp; omega)
  have HNO := Lib.hid hno
  clear hno
  by_cases hz1 : 1 ≤ s.size
  case neg =>
    have hz1' : s.size < 1 := by omega
    have HF := HNO.out (by omega)
    clear hz1
    go_enter Tryz.func116, Tryz.ntmps116
    go_wp2
    go_ret
    exact ⟨ret_bool HF.out.symm, rfl⟩
  by_cases hz2 : s.size ≤ most
  case neg =>
    have hz2' : most < s.size := by omega
    have HF := HNO.out (by omega)
    clear hz2
    go_enter Tryz.func116, Tryz.ntmps116
    go_wp2
    go_ret
    exact ⟨ret_bool HF.out.symm, rfl⟩
  go_enter Tryz.func116, Tryz.ntmps116
  go_wp2
  go_loop [7] (fun i => ∃ k : Nat, k ≤ s.size ∧ i = .int .i64 k ∧ Hid (It.allN (fun i => It.okc false (It.by_ s i)) k = true)) (fun i => s.size - (intOf i).toNat)
  case atStart => exact ⟨0, by omega, rfl, Lib.hid rfl⟩
  case round =>
    obtain ⟨k, hk, rfl, HA⟩ := hrel
    by_cases hlt : k < s.size
    · have hby := It.by_at s hlt
      have HE : Hid ((fun i => It.okc false (It.by_ s i)) k = false → Hid (v = false)) := Lib.hid fun g => Lib.hid (by
        rw [← HV.out]; unfold It.prn; rw [It.allN_no hlt g]; simp)
      have HN : Hid ((fun i => It.okc false (It.by_ s i)) k = true → Hid (It.allN (fun i => It.okc false (It.by_ s i)) (k + 1) = true)) := Lib.hid fun g => Lib.hid (It.allN_next HA.out g)
      rcases (show ((s[k].toNat : Int) < 32) ∨ (32 ≤ (s[k].toNat : Int) ∧ 126 < (s[k].toNat : Int)) ∨ (32 ≤ (s[k].toNat : Int) ∧ (s[k].toNat : Int) ≤ 126) by omega) with h1 | ⟨h1, h2⟩ | ⟨h1, h2⟩
      · have HF := HE.out (by show It.okc false (It.by_ s k) = false; rw [hby]; unfold It.okc; simp; omega)
        clear hby
        go_wp2
        all_goals
          go_ret
          exact ⟨ret_bool HF.out.symm, rfl⟩
      · have HF := HE.out (by show It.okc false (It.by_ s k) = false; rw [hby]; unfold It.okc; simp; omega)
        clear hby
        go_wp2
        all_goals
          go_ret
          exact ⟨ret_bool HF.out.symm, rfl⟩
      · have HF := HN.out (by show It.okc false (It.by_ s k) = true; rw [hby]; unfold It.okc; simp; omega)
        clear hby
        go_wp2
        all_goals
          go_round
          case rel => exact ⟨k + 1, by omega, by go_num, HF⟩
          case measure => simp [intOf]; omega
    · obtain rfl : k = s.size := by omega
      have HF : Hid (v = true) := Lib.hid (by rw [← HV.out]; unfold It.prn; rw [HA.out, decide_eq_true hz1, decide_eq_true hz2]; rfl)
      go_wp2
      go_ret
      exact ⟨ret_bool HF.out.symm, rfl⟩


set_option maxRecDepth 100000 in
set_option maxHeartbeats 1600000 in
theorem rprintable_true_any (s : ByteArray) (most : Nat) (w : World) (hs : s.size ≤ 9223372036854775807) :
    Calls Tryz.prog 116 #[.string s, .int .i64 most, .bool true] w fun e w' => e = .returned (.bool (It.prn s most true)) ∧ w = w' := by
  obtain ⟨v, hv⟩ : ∃ v, It.prn s most true = v := ⟨_, rfl⟩
  have HV := Lib.hid hv
  rw [hv]
  clear hv
  have hno : ¬ (1 ≤ s.size ∧ s.size ≤ most) → Hid (v = false) := fun g => Lib.hid (by rw [← HV.out]; unfold It.prn; simp; omega)
  have HNO := Lib.hid hno
  clear hno
  by_cases hz1 : 1 ≤ s.size
  case neg =>
    have hz1' : s.size < 1 := by omega
    have HF := HNO.out (by omega)
    clear hz1
    go_enter Tryz.func116, Tryz.ntmps116
    go_wp2
    go_ret
    exact ⟨ret_bool HF.out.symm, rfl⟩
  by_cases hz2 : s.size ≤ most
  case neg =>
    have hz2' : most < s.size := by omega
    have HF := HNO.out (by omega)
    clear hz2
    go_enter Tryz.func116, Tryz.ntmps116
    go_wp2
    go_ret
    exact ⟨ret_bool HF.out.symm, rfl⟩
  go_enter Tryz.func116, Tryz.ntmps116
  go_wp2
  go_loop [7] (fun i => ∃ k : Nat, k ≤ s.size ∧ i = .int .i64 k ∧ Hid (It.allN (fun i => It.okc true (It.by_ s i)) k = true)) (fun i => s.size - (intOf i).toNat)
  case atStart => exact ⟨0, by omega, rfl, Lib.hid rfl⟩
  case round =>
    obtain ⟨k, hk, rfl, HA⟩ := hrel
    by_cases hlt : k < s.size
    · have hby := It.by_at s hlt
      have HE : Hid ((fun i => It.okc true (It.by_ s i)) k = false → Hid (v = false)) := Lib.hid fun g => Lib.hid (by
        rw [← HV.out]; unfold It.prn; rw [It.allN_no hlt g]; simp)
      have HN : Hid ((fun i => It.okc true (It.by_ s i)) k = true → Hid (It.allN (fun i => It.okc true (It.by_ s i)) (k + 1) = true)) := Lib.hid fun g => Lib.hid (It.allN_next HA.out g)
      rcases (show ((s[k].toNat : Int) < 32 ∧ ((s[k].toNat : Int) == 10) = false) ∨ ((s[k].toNat : Int) < 32 ∧ ((s[k].toNat : Int) == 10) = true) ∨ (32 ≤ (s[k].toNat : Int) ∧ 126 < (s[k].toNat : Int) ∧ ((s[k].toNat : Int) == 10) = false) ∨ (32 ≤ (s[k].toNat : Int) ∧ (s[k].toNat : Int) ≤ 126) by simp only [beq_iff_eq, beq_eq_false_iff_ne]; omega) with ⟨h1, h2⟩ | ⟨h1, h2⟩ | ⟨h1, h2, h3⟩ | ⟨h1, h2⟩
      · have HF := HE.out (by show It.okc true (It.by_ s k) = false; rw [hby]; rw [beq_eq_false_iff_ne] at h2; unfold It.okc; simp; omega)
        clear hby
        go_wp2
        all_goals
          go_ret
          exact ⟨ret_bool HF.out.symm, rfl⟩
      · have HF := HN.out (by show It.okc true (It.by_ s k) = true; rw [hby]; rw [beq_iff_eq] at h2; unfold It.okc; simp; omega)
        clear hby
        go_wp2
        all_goals
          go_round
          case rel => exact ⟨k + 1, by omega, by go_num, HF⟩
          case measure => simp [intOf]; omega
      · have HF := HE.out (by show It.okc true (It.by_ s k) = false; rw [hby]; rw [beq_eq_false_iff_ne] at h3; unfold It.okc; simp; omega)
        clear hby
        go_wp2
        all_goals
          go_ret
          exact ⟨ret_bool HF.out.symm, rfl⟩
      · have HF := HN.out (by show It.okc true (It.by_ s k) = true; rw [hby]; unfold It.okc; simp; omega)
        clear hby
        go_wp2
        all_goals
          go_round
          case rel => exact ⟨k + 1, by omega, by go_num, HF⟩
          case measure => simp [intOf]; omega
    · obtain rfl : k = s.size := by omega
      have HF : Hid (v = true) := Lib.hid (by rw [← HV.out]; unfold It.prn; rw [HA.out, decide_eq_true hz1, decide_eq_true hz2]; rfl)
      go_wp2
      go_ret
      exact ⟨ret_bool HF.out.symm, rfl⟩


namespace It
/-- Capital letters and digits. -/
def cap (x : Int) : Bool := (decide (65 ≤ x) && decide (x ≤ 90)) || (decide (48 ≤ x) && decide (x ≤ 57))
/-- A segment of a content code. -/
def seg (s : ByteArray) : Bool := decide (1 ≤ s.size) && decide (s.size ≤ 8) && allN (fun i => cap (by_ s i)) s.size
end It

set_option maxRecDepth 100000 in
set_option maxHeartbeats 1600000 in
theorem validSegment_any (s : ByteArray) (w : World) (hs : s.size ≤ 9223372036854775807) :
    Calls Tryz.prog 121 #[.string s] w fun e w' => e = .returned (.bool (It.seg s)) ∧ w = w' := by
  obtain ⟨v, hv⟩ : ∃ v, It.seg s = v := ⟨_, rfl⟩
  have HV := Lib.hid hv
  rw [hv]
  clear hv
  go_enter Tryz.func121, Tryz.ntmps121
  go_wp2
  go_loop [3] (fun i => ∃ k : Nat, k ≤ s.size ∧ i = .int .i64 k ∧ Hid (It.allN (fun i => It.cap (It.by_ s i)) k = true)) (fun i => s.size - (intOf i).toNat)
  case atStart => exact ⟨0, by omega, rfl, Lib.hid rfl⟩
  case round =>
    obtain ⟨k, hk, rfl, HA⟩ := hrel
    by_cases hlt : k < s.size
    · have hby := It.by_at s hlt
      have HE : Hid ((fun i => It.cap (It.by_ s i)) k = false → Hid (v = false)) := Lib.hid fun g => Lib.hid (by
        rw [← HV.out]; unfold It.seg; rw [It.allN_no hlt g]; simp)
      have HN : Hid ((fun i => It.cap (It.by_ s i)) k = true → Hid (It.allN (fun i => It.cap (It.by_ s i)) (k + 1) = true)) := Lib.hid fun g => Lib.hid (It.allN_next HA.out g)
      rcases (show ((s[k].toNat : Int) < 65 ∧ (s[k].toNat : Int) < 48) ∨ ((s[k].toNat : Int) < 65 ∧ 48 ≤ (s[k].toNat : Int) ∧ (s[k].toNat : Int) ≤ 57) ∨ ((s[k].toNat : Int) < 65 ∧ 48 ≤ (s[k].toNat : Int) ∧ 57 < (s[k].toNat : Int)) ∨ (65 ≤ (s[k].toNat : Int) ∧ (s[k].toNat : Int) ≤ 90) ∨ (65 ≤ (s[k].toNat : Int) ∧ 90 < (s[k].toNat : Int) ∧ 48 ≤ (s[k].toNat : Int) ∧ 57 < (s[k].toNat : Int)) by omega) with ⟨h1, h2⟩ | ⟨h1, h2, h3⟩ | ⟨h1, h2, h3⟩ | ⟨h1, h2⟩ | ⟨h1, h2, h3, h4⟩
      · have HF := HE.out (by show It.cap (It.by_ s k) = false; rw [hby]; unfold It.cap; simp; omega)
        clear hby
        go_wp2
        all_goals
          go_ret
          exact ⟨ret_bool HF.out.symm, rfl⟩
      · have HF := HN.out (by show It.cap (It.by_ s k) = true; rw [hby]; unfold It.cap; simp; omega)
        clear hby
        go_wp2
        all_goals
          go_round
          case rel => exact ⟨k + 1, by omega, by go_num, HF⟩
          case measure => simp [intOf]; omega
      · have HF := HE.out (by show It.cap (It.by_ s k) = false; rw [hby]; unfold It.cap; simp; omega)
        clear hby
        go_wp2
        all_goals
          go_ret
          exact ⟨ret_bool HF.out.symm, rfl⟩
      · have HF := HN.out (by show It.cap (It.by_ s k) = true; rw [hby]; unfold It.cap; simp; omega)
        clear hby
        go_wp2
        all_goals
          go_round
          case rel => exact ⟨k + 1, by omega, by go_num, HF⟩
          case measure => simp [intOf]; omega
      · have HF := HE.out (by show It.cap (It.by_ s k) = false; rw [hby]; unfold It.cap; simp; omega)
        clear hby
        go_wp2
        all_goals
          go_ret
          exact ⟨ret_bool HF.out.symm, rfl⟩
    · obtain rfl : k = s.size := by omega
      have HF : Hid (v = (decide (1 ≤ s.size) && decide (s.size ≤ 8))) := Lib.hid (by rw [← HV.out]; unfold It.seg; rw [HA.out, Bool.and_true])
      rcases (show (s.size < 1) ∨ (1 ≤ s.size ∧ 8 < s.size) ∨ (1 ≤ s.size ∧ s.size ≤ 8) by omega) with h1 | ⟨h1, h2⟩ | ⟨h1, h2⟩
      · have HF2 : Hid (v = false) := Lib.hid (by rw [HF.out, decide_eq_false (by omega)]; rfl)
        go_wp2
        go_ret
        exact ⟨ret_bool (by first | exact HF2.out.symm | (rw [HF2.out]; exact decide_eq_false (by omega)) | (rw [HF2.out]; exact decide_eq_true (by omega))), rfl⟩
      · have HF2 : Hid (v = false) := Lib.hid (by rw [HF.out, decide_eq_false (show ¬ s.size ≤ 8 by omega), Bool.and_false])
        go_wp2
        go_ret
        exact ⟨ret_bool (by first | exact HF2.out.symm | (rw [HF2.out]; exact decide_eq_false (by omega)) | (rw [HF2.out]; exact decide_eq_true (by omega))), rfl⟩
      · have HF2 : Hid (v = true) := Lib.hid (by rw [HF.out, decide_eq_true h1, decide_eq_true h2]; rfl)
        go_wp2
        go_ret
        exact ⟨ret_bool (by first | exact HF2.out.symm | (rw [HF2.out]; exact decide_eq_false (by omega)) | (rw [HF2.out]; exact decide_eq_true (by omega))), rfl⟩


set_option maxRecDepth 100000 in
set_option maxHeartbeats 1600000 in
theorem rnormalized_any (s : ByteArray) (w : World) (hs : s.size ≤ 9223372036854775807) :
    Calls Tryz.prog 118 #[.string s] w fun e w' => e = .returned (.bool (It.nrm s)) ∧ w = w' := by
  obtain ⟨v, hv⟩ : ∃ v, It.nrm s = v := ⟨_, rfl⟩
  have HV := Lib.hid hv
  rw [hv]
  clear hv
  go_enter Tryz.func118, Tryz.ntmps118
  go_wp2
  go_loop [3] (fun i => ∃ k : Nat, k ≤ s.size ∧ i = .int .i64 k ∧ Hid (It.allN (It.nrmA s) k = true)) (fun i => s.size - (intOf i).toNat)
  case atStart => exact ⟨0, by omega, rfl, Lib.hid rfl⟩
  case round =>
    obtain ⟨k, hk, rfl, HA⟩ := hrel
    by_cases hlt : k < s.size
    · have hby := It.by_at s hlt
      have HE : Hid ((It.nrmA s) k = false → Hid (v = false)) := Lib.hid fun g => Lib.hid (by
        rw [← HV.out]; unfold It.nrm; rw [It.allN_no hlt g]; simp)
      have HN : Hid ((It.nrmA s) k = true → Hid (It.allN (It.nrmA s) (k + 1) = true)) := Lib.hid fun g => Lib.hid (It.allN_next HA.out g)
      rcases (show (97 ≤ (s[k].toNat : Int) ∧ (s[k].toNat : Int) ≤ 122 ∧ ((s[k].toNat : Int) == 32) = false) ∨ ((s[k].toNat : Int) < 97 ∧ 48 ≤ (s[k].toNat : Int) ∧ (s[k].toNat : Int) ≤ 57 ∧ ((s[k].toNat : Int) == 32) = false) ∨ ((s[k].toNat : Int) < 97 ∧ (s[k].toNat : Int) < 48 ∧ ((s[k].toNat : Int) == 32) = false) ∨ ((s[k].toNat : Int) < 97 ∧ 48 ≤ (s[k].toNat : Int) ∧ 57 < (s[k].toNat : Int) ∧ ((s[k].toNat : Int) == 32) = false) ∨ (97 ≤ (s[k].toNat : Int) ∧ 122 < (s[k].toNat : Int) ∧ 48 ≤ (s[k].toNat : Int) ∧ 57 < (s[k].toNat : Int) ∧ ((s[k].toNat : Int) == 32) = false) ∨ ((s[k].toNat : Int) < 97 ∧ (s[k].toNat : Int) < 48 ∧ ((s[k].toNat : Int) == 32) = true) by simp only [beq_iff_eq, beq_eq_false_iff_ne]; omega) with ⟨h1, h2, h3⟩ | ⟨h1, h2, h3, h4⟩ | ⟨h1, h2, h3⟩ | ⟨h1, h2, h3, h4⟩ | ⟨h1, h2, h3, h4, h5⟩ | ⟨h1, h2, h3⟩
      · have hd122 : decide ((s[k].toNat : Int) ≤ 122) = true := decide_eq_true (by omega)
        have hne : ((s[k].toNat : Int) != 32) = true := by rw [bne, h3]; rfl
        have HF := HN.out (by rw [beq_eq_false_iff_ne] at h3; show It.nrmA s k = true; unfold It.nrmA It.ltr; rw [hby]; simp; omega)
        clear hby
        go_wp2
        all_goals
          go_round
          case rel => exact ⟨k + 1, by omega, by go_num, HF⟩
          case measure => simp [intOf]; omega
      · have hd57 : decide ((s[k].toNat : Int) ≤ 57) = true := decide_eq_true (by omega)
        have hne : ((s[k].toNat : Int) != 32) = true := by rw [bne, h4]; rfl
        have HF := HN.out (by rw [beq_eq_false_iff_ne] at h4; show It.nrmA s k = true; unfold It.nrmA It.ltr; rw [hby]; simp; omega)
        clear hby
        go_wp2
        all_goals
          go_round
          case rel => exact ⟨k + 1, by omega, by go_num, HF⟩
          case measure => simp [intOf]; omega
      · have hne : ((s[k].toNat : Int) != 32) = true := by rw [bne, h3]; rfl
        have HF := HE.out (by rw [beq_eq_false_iff_ne] at h3; show It.nrmA s k = false; unfold It.nrmA It.ltr; rw [hby]; simp; omega)
        clear hby
        go_wp2
        all_goals
          go_ret
          exact ⟨ret_bool HF.out.symm, rfl⟩
      · have hd57 : decide ((s[k].toNat : Int) ≤ 57) = false := decide_eq_false (by omega)
        have hne : ((s[k].toNat : Int) != 32) = true := by rw [bne, h4]; rfl
        have HF := HE.out (by rw [beq_eq_false_iff_ne] at h4; show It.nrmA s k = false; unfold It.nrmA It.ltr; rw [hby]; simp; omega)
        clear hby
        go_wp2
        all_goals
          go_ret
          exact ⟨ret_bool HF.out.symm, rfl⟩
      · have hd57 : decide ((s[k].toNat : Int) ≤ 57) = false := decide_eq_false (by omega)
        have hd122 : decide ((s[k].toNat : Int) ≤ 122) = false := decide_eq_false (by omega)
        have hne : ((s[k].toNat : Int) != 32) = true := by rw [bne, h5]; rfl
        have HF := HE.out (by rw [beq_eq_false_iff_ne] at h5; show It.nrmA s k = false; unfold It.nrmA It.ltr; rw [hby]; simp; omega)
        clear hby
        go_wp2
        all_goals
          go_ret
          exact ⟨ret_bool HF.out.symm, rfl⟩
      · have h32 : It.by_ s k = 32 := by rw [hby]; rw [beq_iff_eq] at h3; exact h3
        have H32 := Lib.hid h32
        have h3n : ((s[k].toNat : Int) != 32) = false := by rw [beq_iff_eq] at h3; rw [h3]; rfl
        clear h32
        rcases Nat.eq_zero_or_pos k with h0 | h0
        · have hb0 : ((k : Int) == 0) = true := by rw [h0]; rfl
          have HF := HE.out (by show It.nrmA s k = false; unfold It.nrmA; rw [H32.out, decide_eq_true h0]; simp)
          clear hby h0
          go_wp2
          go_ret
          exact ⟨ret_bool HF.out.symm, rfl⟩
        · have hb0 : ((k : Int) == 0) = false := by rw [beq_eq_false_iff_ne]; omega
          by_cases hl : k + 1 = s.size
          · have hb1 : ((k : Int) == (s.size : Int) - 1) = true := by rw [beq_iff_eq]; omega
            have HF := HE.out (by show It.nrmA s k = false; unfold It.nrmA; rw [H32.out, decide_eq_true hl]; simp)
            clear hby hl
            go_wp2
            go_ret
            exact ⟨ret_bool HF.out.symm, rfl⟩
          · obtain ⟨j, rfl⟩ : ∃ j, k = j + 1 := ⟨k - 1, by omega⟩
            have hb0' : ((j : Int) + 1 == 0) = false := by rw [beq_eq_false_iff_ne]; omega
            have hb1 : ((j : Int) + 1 == (s.size : Int) - 1) = false := by rw [beq_eq_false_iff_ne]; omega
            clear hb0
            have hj : j < s.size := by omega
            have hbj := It.by_at s hj
            by_cases hp : (s[j].toNat : Int) = 32
            · have hb2 : ((s[j].toNat : Int) == 32) = true := by rw [beq_iff_eq]; exact hp
              have HF := HE.out (by show It.nrmA s (j + 1) = false; unfold It.nrmA; rw [H32.out, Nat.add_sub_cancel, hbj, hp]; simp)
              clear hby hl hbj hp
              go_wp2
              go_ret
              exact ⟨ret_bool HF.out.symm, rfl⟩
            · have hb2 : ((s[j].toNat : Int) == 32) = false := by rw [beq_eq_false_iff_ne]; exact hp
              have HF := HN.out (by show It.nrmA s (j + 1) = true; unfold It.nrmA; rw [H32.out, Nat.add_sub_cancel, hbj]; simp; omega)
              clear hby hl hbj hp
              go_wp2
              go_round
              case rel => exact ⟨j + 1 + 1, by omega, by go_num, HF⟩
              case measure => simp [intOf]; omega
    · obtain rfl : k = s.size := by omega
      have HF : Hid (v = decide (0 < s.size)) := Lib.hid (by rw [← HV.out]; unfold It.nrm; rw [HA.out, Bool.true_and])
      rcases Nat.eq_zero_or_pos s.size with h1 | h1
      · have h1' : s.size < 1 := by omega
        have HF2 : Hid (v = false) := Lib.hid (by rw [HF.out]; exact decide_eq_false (by omega))
        clear h1
        go_wp2
        all_goals
          go_ret
          exact ⟨ret_bool (by first | exact HF2.out.symm | (rw [HF2.out]; exact decide_eq_false (by omega)) | (rw [HF2.out]; exact decide_eq_true (by omega))), rfl⟩
      · have HF2 : Hid (v = true) := Lib.hid (by rw [HF.out]; exact decide_eq_true (by omega))
        go_wp2
        all_goals
          go_ret
          exact ⟨ret_bool (by first | exact HF2.out.symm | (rw [HF2.out]; exact decide_eq_false (by omega)) | (rw [HF2.out]; exact decide_eq_true (by omega))), rfl⟩

end Go.Proofs.YtgaepmddbjdhfaaGreatDoor
namespace Go.Proofs.YtgaepmddbjdhfaaGreatDoor
open Go.RowKit

namespace It
def eqI (xs ys : List Int) : Bool := decide (xs = ys)
def eqS (xs ys : List ByteArray) : Bool := decide (xs = ys)
def eqB (a b : ByteArray) : Bool := decide (a = b)
theorem neqB (a b : ByteArray) : (a.toList != b.toList) = !eqB a b := by
  unfold eqB
  by_cases h : a = b
  · subst h; simp
  · have : ¬ (a.toList = b.toList) := fun e => h (by
      rw [ByteArray.toList_eq, ByteArray.toList_eq] at e
      cases a; cases b; simp at e; rw [e])
    simp [h, this]
theorem beqB (a b : ByteArray) : (a.toList == b.toList) = eqB a b := by
  have := neqB a b
  rw [bne] at this
  cases h : (a.toList == b.toList) <;> cases g : eqB a b <;> simp_all
theorem eq_at {α : Type} {xs ys : List α} (hl : xs.length = ys.length) (h : ∀ i, i < xs.length → xs[i]? = ys[i]?) : xs = ys := by
  apply List.ext_getElem?
  intro i
  by_cases hi : i < xs.length
  · exact h i hi
  · rw [List.getElem?_eq_none (by omega), List.getElem?_eq_none (by omega)]
def addL (xs : List ByteArray) (d : Bool) (name : ByteArray) : List ByteArray := if d then xs ++ [name] else xs
def foldN (ps : List (Bool × ByteArray)) : List ByteArray := ps.foldl (fun xs p => addL xs p.1 p.2) []
theorem foldN_snoc {ps : List (Bool × ByteArray)} {k : Nat} {p : Bool × ByteArray} (h : ps[k]? = some p) : foldN (ps.take (k + 1)) = addL (foldN (ps.take k)) p.1 p.2 := by
  unfold foldN; rw [List.take_add_one, h, List.foldl_append]; rfl
theorem addL_len (xs : List ByteArray) (d : Bool) (name : ByteArray) : (addL xs d name).length ≤ xs.length + 1 := by unfold addL; split <;> simp
theorem addL_no (xs : List ByteArray) (name : ByteArray) : addL xs false name = xs := rfl
theorem addL_yes (xs : List ByteArray) (name : ByteArray) : addL xs true name = xs ++ [name] := rfl
/-- The fields' names, each with whether two items differ there. -/
def pairs (a b : Item) : List (Bool × ByteArray) := [(a.id != b.id, ⟨#[73, 100]⟩), (a.ver != b.ver, ⟨#[86, 101, 114, 115, 105, 111, 110]⟩), (a.kind != b.kind, ⟨#[75, 105, 110, 100]⟩), (!eqB a.stem b.stem, ⟨#[83, 116, 101, 109]⟩), (!eqS a.opts b.opts, ⟨#[79, 112, 116, 105, 111, 110, 115]⟩), (!eqI a.chs b.chs, ⟨#[67, 104, 111, 105, 99, 101, 115]⟩), (a.value != b.value, ⟨#[86, 97, 108, 117, 101]⟩), (a.tol != b.tol, ⟨#[84, 111, 108]⟩), (!eqS a.texts b.texts, ⟨#[84, 101, 120, 116, 115]⟩), (a.pts != b.pts, ⟨#[80, 111, 105, 110, 116, 115]⟩), (!eqB a.cont b.cont, ⟨#[67, 111, 110, 116, 101, 110, 116]⟩), (a.fam != b.fam, ⟨#[70, 97, 109, 105, 108, 121]⟩), (a.set_ != b.set_, ⟨#[83, 101, 116]⟩), (a.wrd != b.wrd, ⟨#[87, 111, 114, 100, 115]⟩), (a.sec != b.sec, ⟨#[83, 101, 99, 111, 110, 100, 115]⟩), (!eqI a.assets b.assets, ⟨#[65, 115, 115, 101, 116, 115]⟩), (a.rub != b.rub, ⟨#[82, 117, 98, 114, 105, 99]⟩)]
/-- The names of the fields in which two items differ. -/
def diff (a b : Item) : List ByteArray := foldN (pairs a b)
theorem foldN_le : ∀ (ps : List (Bool × ByteArray)), (foldN ps).length ≤ ps.length := by
  intro ps
  suffices h : ∀ (ps : List (Bool × ByteArray)) (xs : List ByteArray), (ps.foldl (fun xs p => addL xs p.1 p.2) xs).length ≤ xs.length + ps.length by have := h ps []; simpa [foldN] using this
  intro ps
  induction ps with
  | nil => intro xs; simp
  | cons p ps ih => intro xs; rw [List.foldl_cons]; have := ih (addL xs p.1 p.2); have := addL_len xs p.1 p.2; simp only [List.length_cons]; omega
theorem diff_le (a b : Item) : (diff a b).length ≤ 17 := foldN_le (pairs a b)
end It
theorem hne_of (a b : ByteArray) (h : a ≠ b) : (a.toList != b.toList) = true := by rw [It.neqB]; simp [It.eqB, h]
theorem hbeq_of (a b : ByteArray) (h : a ≠ b) : (a.toList == b.toList) = false := by rw [It.beqB]; simp [It.eqB, h]
theorem heq_of (a b : ByteArray) (h : a = b) : (a.toList != b.toList) = false := by rw [It.neqB]; simp [It.eqB, h]


set_option maxRecDepth 100000 in
set_option maxHeartbeats 3200000 in
theorem rsameInts_any (X : Option Addr) (xc : Nat) (Y : Option Addr) (yc : Nat) (xs ys : List Int) (w : World) (ha : SlI w X xs) (hb : SlI w Y ys) (hl1 : xs.length ≤ 9223372036854775807) (hl2 : ys.length ≤ 9223372036854775807) :
    Calls Tryz.prog 108 #[.slice X xs.length xc, .slice Y ys.length yc] w fun e w' => e = .returned (.bool (It.eqI xs ys)) ∧ Ext w w' := by
  have HA := Lib.hid ha
  have HB := Lib.hid hb
  clear ha hb
  by_cases hln : xs.length = ys.length
  case neg =>
    have HF : Hid (It.eqI xs ys = false) := Lib.hid (decide_eq_false (fun e => hln (by rw [e])))
    have hne : ((xs.length : Int) != (ys.length : Int)) = true := by rw [bne_iff_ne]; omega
    clear hln
    go_enter Tryz.func108, Tryz.ntmps108
    go_wp2
    go_ret
    exact ⟨ret_bool HF.out.symm, Ext.refl _⟩
  have HL := Lib.hid hln
  have hne : ((xs.length : Int) != (ys.length : Int)) = false := by rw [bne_eq_false_iff_eq]; omega
  have hle : xs.length ≤ ys.length := by omega
  clear hln
  go_enter Tryz.func108, Tryz.ntmps108
  go_wp2
  go_loopw [13] (fun i wr => ∃ k : Nat, k ≤ xs.length ∧ i = .int .i64 k ∧ Hid (∀ i, i < k → xs[i]? = ys[i]?) ∧ Ext w wr) (fun i _ => xs.length - (intOf i).toNat)
  case atStart => exact ⟨0, by omega, rfl, Lib.hid (fun i hi => by omega), Ext.refl _⟩
  case round =>
    obtain ⟨k, hk, rfl, HP, he⟩ := hrel
    by_cases hlt : k < xs.length
    · have hlt2 : k < ys.length := by omega
      obtain ⟨gb, go, x, rfl, hgb, hx, x0⟩ := (HA.out.ext he).at_ hlt
      obtain ⟨fb, fo, y, rfl, hfb, hy, y0⟩ := (HB.out.ext he).at_ hlt2
      have ki0 : (0 : Int) ≤ (k : Int) := by omega
      have ki1 : (k : Int) < (xs.length : Int) := by omega
      have ki2 : (k : Int) < (ys.length : Int) := by omega
      have HX := Lib.hid hx
      have HY := Lib.hid hy
      clear hx hy
      by_cases hxy : x = y
      · have HN : Hid (∀ i, i < k + 1 → xs[i]? = ys[i]?) := Lib.hid fun i hi => by
          rcases Nat.lt_or_ge i k with g | g
          · exact HP.out i g
          · obtain rfl : i = k := by omega
            rw [HX.out, HY.out, hxy]
        subst hxy
        have hq : (x != x) = false := by simp
        go_wp2
        go_quiet (fail)
        go_wp2
        go_roundw
        case rel => exact ⟨k + 1, by omega, by go_num, HN, he.drewN _⟩
        case measure => simp [intOf]; omega
      · have HF : Hid (It.eqI xs ys = false) := Lib.hid (decide_eq_false (fun e => hxy (by
          have h1 := HX.out
          rw [e, HY.out] at h1
          exact (Option.some.inj h1).symm)))
        have hq : ((x != y) = true) := by rw [bne_iff_ne]; exact hxy
        clear hxy
        go_wp2
        go_quiet (fail)
        go_wp2
        go_ret
        exact ⟨ret_bool HF.out.symm, he.drewN _⟩
    · have HF : Hid (It.eqI xs ys = true) := Lib.hid (decide_eq_true (It.eq_at HL.out (fun i hi => HP.out i (by omega))))
      go_wp2
      go_ret
      exact ⟨ret_bool HF.out.symm, he⟩


set_option maxRecDepth 100000 in
set_option maxHeartbeats 3200000 in
theorem rsameStrings_any (X : Option Addr) (xc : Nat) (Y : Option Addr) (yc : Nat) (xs ys : List ByteArray) (w : World) (ha : SlS w X xs) (hb : SlS w Y ys) (hl1 : xs.length ≤ 9223372036854775807) (hl2 : ys.length ≤ 9223372036854775807) :
    Calls Tryz.prog 107 #[.slice X xs.length xc, .slice Y ys.length yc] w fun e w' => e = .returned (.bool (It.eqS xs ys)) ∧ Ext w w' := by
  have HA := Lib.hid ha
  have HB := Lib.hid hb
  clear ha hb
  by_cases hln : xs.length = ys.length
  case neg =>
    have HF : Hid (It.eqS xs ys = false) := Lib.hid (decide_eq_false (fun e => hln (by rw [e])))
    have hne : ((xs.length : Int) != (ys.length : Int)) = true := by rw [bne_iff_ne]; omega
    clear hln
    go_enter Tryz.func107, Tryz.ntmps107
    go_wp2
    go_ret
    exact ⟨ret_bool HF.out.symm, Ext.refl _⟩
  have HL := Lib.hid hln
  have hne : ((xs.length : Int) != (ys.length : Int)) = false := by rw [bne_eq_false_iff_eq]; omega
  have hle : xs.length ≤ ys.length := by omega
  clear hln
  go_enter Tryz.func107, Tryz.ntmps107
  go_wp2
  go_loopw [13] (fun i wr => ∃ k : Nat, k ≤ xs.length ∧ i = .int .i64 k ∧ Hid (∀ i, i < k → xs[i]? = ys[i]?) ∧ Ext w wr) (fun i _ => xs.length - (intOf i).toNat)
  case atStart => exact ⟨0, by omega, rfl, Lib.hid (fun i hi => by omega), Ext.refl _⟩
  case round =>
    obtain ⟨k, hk, rfl, HP, he⟩ := hrel
    by_cases hlt : k < xs.length
    · have hlt2 : k < ys.length := by omega
      obtain ⟨gb, go, rfl, hgb, x0⟩ := (HA.out.ext he).at_ hlt
      obtain ⟨fb, fo, rfl, hfb, y0⟩ := (HB.out.ext he).at_ hlt2
      obtain ⟨x, hx'⟩ : ∃ x, xs[k] = x := ⟨_, rfl⟩
      obtain ⟨y, hy'⟩ : ∃ y, ys[k] = y := ⟨_, rfl⟩
      have hx : xs[k]? = some x := by rw [List.getElem?_eq_getElem hlt, hx']
      have hy : ys[k]? = some y := by rw [List.getElem?_eq_getElem hlt2, hy']
      rw [hx'] at x0
      rw [hy'] at y0
      clear hx' hy'
      have ki0 : (0 : Int) ≤ (k : Int) := by omega
      have ki1 : (k : Int) < (xs.length : Int) := by omega
      have ki2 : (k : Int) < (ys.length : Int) := by omega
      have HX := Lib.hid hx
      have HY := Lib.hid hy
      clear hx hy
      by_cases hxy : x = y
      · have HN : Hid (∀ i, i < k + 1 → xs[i]? = ys[i]?) := Lib.hid fun i hi => by
          rcases Nat.lt_or_ge i k with g | g
          · exact HP.out i g
          · obtain rfl : i = k := by omega
            rw [HX.out, HY.out, hxy]
        subst hxy
        have hq : (x.toList == x.toList) = true := by simp
        go_wp2
        go_quiet (fail)
        go_wp2
        go_roundw
        case rel => exact ⟨k + 1, by omega, by go_num, HN, he.drewN _⟩
        case measure => simp [intOf]; omega
      · have HF : Hid (It.eqS xs ys = false) := Lib.hid (decide_eq_false (fun e => hxy (by
          have h1 := HX.out
          rw [e, HY.out] at h1
          exact (Option.some.inj h1).symm)))
        have hq : ((x.toList == y.toList) = false) := by exact hbeq_of _ _ hxy
        clear hxy
        go_wp2
        go_quiet (fail)
        go_wp2
        go_ret
        exact ⟨ret_bool HF.out.symm, he.drewN _⟩
    · have HF : Hid (It.eqS xs ys = true) := Lib.hid (decide_eq_true (It.eq_at HL.out (fun i hi => HP.out i (by omega))))
      go_wp2
      go_ret
      exact ⟨ret_bool HF.out.symm, he⟩


theorem Tryz.infoStr : (Tryz.prog.info? 9).map (fun i => (i.zero, i.size, i.bytes)) = some (some (.string ⟨#[]⟩), 1, 16) := by kernel_rfl
/-- A row of names that the call owns. -/
def RowS (base : Nat) (xs : List ByteArray) (w : World) (v : Value) : Prop := w.ownsRow base 9 1 v xs.length (xs.map Value.string)
theorem RowS.sl {base : Nat} {xs : List ByteArray} {w : World} {v : Value} (h : RowS base xs w v) : ∃ A c, v = .slice A xs.length c ∧ xs.length ≤ c ∧ c ≤ maxLen ∧ SlS w A xs := by
  have h' : w.ownsRow base 9 1 v xs.length (xs.map fun s => [Value.string s]).flatten := by
    have e : (xs.map fun s => [Value.string s]).flatten = xs.map Value.string := by clear h; induction xs with | nil => rfl | cons x xs ih => simp only [List.map_cons, List.flatten_cons, ih]; rfl
    rw [e]; exact h
  obtain ⟨A, c, h1, h2, h3, h4⟩ := Sl.of_own (xs := xs.map fun s => [Value.string s]) (fun c hc => by obtain ⟨s, _, rfl⟩ := List.mem_map.1 hc; rfl) (by simp) h'
  rw [List.length_map] at h1 h2
  exact ⟨A, c, h1, h2, h3, h4⟩
set_option maxRecDepth 100000 in
set_option maxHeartbeats 1600000 in
theorem add_any (W0 : World) (base : Nat) (hB : W0.heap.size ≤ base) (v : Value) (xs : List ByteArray) (d : Bool) (name : ByteArray) (w : World) (hX : Ext W0 w) (hb : base ≤ w.heap.size) (hn : xs.length ≤ 1000) (h : RowS base xs w v) :
    Calls Tryz.prog 106 #[v, .bool d, .string name] w fun e w' => ∃ v', e = .returned v' ∧ RowS base (It.addL xs d name) w' v' ∧ Ext W0 w' := by
  cases d with
  | false =>
    go_enter Tryz.func106, Tryz.ntmps106
    go_wp2
    go_ret
    exact ⟨v, rfl, h, hX⟩
  | true =>
    obtain ⟨i0, hi0, hz0, hz1, hz2⟩ := info_parts Tryz.infoStr
    obtain ⟨A, c, rfl⟩ := own_form h
    have HO := Lib.hid h
    clear h
    obtain ⟨n, hxn⟩ : ∃ n, xs.length = n := ⟨_, rfl⟩
    have HN := Lib.hid hxn
    have HO2 : Hid (w.ownsRow base 9 1 (.slice A n c) n (xs.map Value.string)) := Lib.hid (by rw [← hxn]; exact HO.out)
    rw [hxn] at hn ⊢
    clear hxn HO
    go_enter Tryz.func106, Tryz.ntmps106
    go_wp2_with (at_builtin; refine wpList_append_lies _ rfl _ _ 53 rfl base 9 i0 (.string ⟨#[]⟩) 1 16 Tryz.underlying53 hi0 hz0 hz1 hz2 rfl (by decide) _ _ _ rfl (HO2.out.alloc _) ⟨w.heap.size, 0, none⟩ 1 1 [.string name] rfl rfl (cell_one_new _ _ _) (by simp [Value.oneCell']) (by decide) (by unfold maxLen; omega) (by omega) (by simp; omega) (w.heap.size + 1) (by simp) ?_; intro gg cap w2 hown2 hgrow2 hat hlt2)
    have HO3 := Lib.hid hown2
    have he2 : Ext W0 w2 := (hX.alloc _).grown hgrow2 (fun q hq => Nat.le_trans hB (own_ge HO2.out q hq))
    clear hown2
    go_wp2
    go_ret
    refine ⟨_, rfl, ?_, he2⟩
    unfold RowS
    rw [It.addL_yes, List.length_append, List.map_append, HN.out]
    exact HO3.out
theorem add_to (W0 : World) (base : Nat) (hB : W0.heap.size ≤ base) (v : Value) {xs : List ByteArray} (d : Bool) (name : ByteArray) {ys : List ByteArray} (hy : It.addL xs d name = ys) (w : World) (hX : Ext W0 w) (hb : base ≤ w.heap.size) (hn : xs.length ≤ 1000) (h : RowS base xs w v) :
    Calls Tryz.prog 106 #[v, .bool d, .string name] w fun e w' => ∃ v', e = .returned v' ∧ RowS base ys w' v' ∧ Ext W0 w' := by
  subst hy; exact add_any W0 base hB v xs d name w hX hb hn h
end Go.Proofs.YtgaepmddbjdhfaaGreatDoor
namespace Go.Proofs.YtgaepmddbjdhfaaGreatDoor
open Go.RowKit
namespace Rs
/-- Where an answer's choices lie. -/
abbrev ALoc := Option Addr × Nat
def Ans.cells (a : Ans) (M : ALoc) : List Value := [.int .i64 a.item, .slice M.1 a.chs.length M.2, .int .i64 a.val, .string a.text, .bool a.om]
def Ans.agg (a : Ans) (M : ALoc) : Value := .agg #[.int .i64 a.item, .slice M.1 a.chs.length M.2, .int .i64 a.val, .string a.text, .bool a.om]
/-- The bounds of what an answer holds. -/
structure Ans.Ok (a : Ans) : Prop where
  item : In64 a.item
  val : In64 a.val
  chs : ∀ x ∈ a.chs, In64 x
  text : a.text.size ≤ 140737488351232
  cl : a.chs.length ≤ 17592186043904
/-- The answer's parts lie in the world. -/
structure Ans.In (w : World) (a : Ans) (M : ALoc) : Prop where
  ok : a.Ok
  c : SlI w M.1 a.chs
  cc : a.chs.length ≤ M.2 ∧ M.2 ≤ maxLen
theorem Ans.In.ext {w w' : World} {a : Ans} {M : ALoc} (h : a.In w M) (he : Ext w w') : a.In w' M := ⟨h.ok, h.c.ext he, h.cc⟩
theorem Ans.packed (a : Ans) (M : ALoc) : ∃ CS : Array Value, a.agg M = .agg CS ∧ CS.size = 5 ∧ CS.all (·.oneCell') = true ∧ (a.cells M).toArray = CS :=
  ⟨_, rfl, rfl, by simp [Value.oneCell'], rfl⟩
end Rs
set_option maxHeartbeats 400000 in
theorem hasChoices_any (k : Int) (w : World) : Calls Tryz.prog 84 #[.int .i64 k] w fun e w' => e = .returned (.bool (Rs.hasC k)) ∧ w = w' := by
  go_enter Tryz.func84, Tryz.ntmps84
  go_wp2
  all_goals
    go_ret
    exact ⟨ret_bool (by unfold Rs.hasC; first | (simp [*]; done) | (simp_all; done) | (rw [Bool.eq_iff_iff]; simp; done) | (rw [Bool.eq_iff_iff]; simp; omega)), rfl⟩
set_option maxHeartbeats 400000 in
theorem hasText_any (k : Int) (w : World) : Calls Tryz.prog 85 #[.int .i64 k] w fun e w' => e = .returned (.bool (Rs.hasT k)) ∧ w = w' := by
  go_enter Tryz.func85, Tryz.ntmps85
  go_wp2
  all_goals
    go_ret
    exact ⟨ret_bool (by unfold Rs.hasT; first | (simp [*]; done) | (simp_all; done) | (rw [Bool.eq_iff_iff]; simp; done) | (rw [Bool.eq_iff_iff]; simp; omega)), rfl⟩
set_option maxHeartbeats 400000 in
theorem chosen_any (k : Int) (w : World) : Calls Tryz.prog 96 #[.int .i64 k] w fun e w' => e = .returned (.bool (Rs.hasC k)) ∧ w = w' := by
  go_enter Tryz.func96, Tryz.ntmps96
  go_wp2
  all_goals
    go_ret
    exact ⟨ret_bool (by unfold Rs.hasC; first | (simp [*]; done) | (simp_all; done) | (rw [Bool.eq_iff_iff]; simp; done) | (rw [Bool.eq_iff_iff]; simp; omega)), rfl⟩
set_option maxHeartbeats 400000 in
theorem written_any (k : Int) (w : World) : Calls Tryz.prog 119 #[.int .i64 k] w fun e w' => e = .returned (.bool (Rs.hasT k)) ∧ w = w' := by
  go_enter Tryz.func119, Tryz.ntmps119
  go_wp2
  all_goals
    go_ret
    exact ⟨ret_bool (by unfold Rs.hasT; first | (simp [*]; done) | (simp_all; done) | (rw [Bool.eq_iff_iff]; simp; done) | (rw [Bool.eq_iff_iff]; simp; omega)), rfl⟩
theorem hasChoices_to (k : Int) {v : Bool} (hv : Rs.hasC k = v) (w : World) : Calls Tryz.prog 84 #[.int .i64 k] w fun e w' => e = .returned (.bool v) ∧ w = w' := by subst hv; exact hasChoices_any k w
theorem hasText_to (k : Int) {v : Bool} (hv : Rs.hasT k = v) (w : World) : Calls Tryz.prog 85 #[.int .i64 k] w fun e w' => e = .returned (.bool v) ∧ w = w' := by subst hv; exact hasText_any k w
theorem chosen_to (k : Int) {v : Bool} (hv : Rs.hasC k = v) (w : World) : Calls Tryz.prog 96 #[.int .i64 k] w fun e w' => e = .returned (.bool v) ∧ w = w' := by subst hv; exact chosen_any k w
theorem written_to (k : Int) {v : Bool} (hv : Rs.hasT k = v) (w : World) : Calls Tryz.prog 119 #[.int .i64 k] w fun e w' => e = .returned (.bool v) ∧ w = w' := by subst hv; exact written_any k w
set_option maxRecDepth 100000 in
set_option maxHeartbeats 1600000 in
theorem krising_any (A : Option Addr) (c : Nat) (l : List Int) {n : Nat} (hn : l.length = n) {v : Bool} (hv : Rs.inc l = v) (w : World) (h : SlI w A l) (hl : n ≤ 9223372036854775807) :
    Calls Tryz.prog 114 #[.slice A n c] w fun e w' => e = .returned (.bool v) ∧ Ext w w' := by
  have H := Lib.hid h
  have HV := Lib.hid hv
  have HN := Lib.hid hn
  clear h hv hn
  go_enter Tryz.func114, Tryz.ntmps114
  go_wp2
  go_loopw [3] (fun i wr => ∃ k : Nat, (k + 1 ≤ n ∨ k = 0) ∧ i = .int .i64 (k + 1) ∧ Hid (It.allN (Rs.incA l) (k + 1) = true) ∧ Hid (Ext w wr)) (fun i _ => n + 1 - (intOf i).toNat)
  case atStart => exact ⟨0, by omega, rfl, Lib.hid rfl, Lib.hid (Ext.refl _)⟩
  case round =>
    obtain ⟨k, hk, rfl, HA, HE⟩ := hrel
    by_cases hlt : k + 1 < n
    · obtain ⟨b, off, x, rfl, hb, hx, hc⟩ := (H.out.ext HE.out).at_ (i := k + 1) (by rw [HN.out]; exact hlt)
      obtain ⟨b', off', y, e', hb', hy, hc'⟩ := (H.out.ext HE.out).at_ (i := k) (by rw [HN.out]; omega)
      obtain ⟨rfl, rfl⟩ : b = b' ∧ off = off' := by cases e'; exact ⟨rfl, rfl⟩
      have hra : Rs.incA l (k + 1) = decide (y < x) := by
        unfold Rs.incA
        rw [Nat.add_sub_cancel, List.getD_eq_getElem?_getD, List.getD_eq_getElem?_getD, hx, hy]
        simp
      have HR := Lib.hid hra
      have ki0 : (0 : Int) ≤ (k : Int) := by omega
      have ki1 : (k : Int) + 1 < (n : Int) := by omega
      clear hra hx hy e'
      by_cases hxy : x ≤ y
      · have HF : Hid (v = false) := Lib.hid (by rw [← HV.out]; exact It.allN_no (k := k + 1) (by rw [HN.out]; exact hlt) (by rw [HR.out]; simp; omega))
        go_wp2_with fail
        go_quiet (fail)
        go_wp2
        go_ret
        exact ⟨ret_bool HF.out.symm, HE.out.drewN _⟩
      · have HF : Hid (It.allN (Rs.incA l) (k + 1 + 1) = true) := Lib.hid (It.allN_next HA.out (by rw [HR.out]; simp; omega))
        have hxy' : y < x := by omega
        clear hxy
        go_wp2_with fail
        go_quiet (fail)
        go_wp2
        go_roundw
        case rel => exact ⟨k + 1, by omega, by go_num, HF, Lib.hid (HE.out.drewN _)⟩
        case measure => simp [intOf]; omega
    · have HF : Hid (v = true) := Lib.hid (by
        rw [← HV.out]
        unfold Rs.inc
        rw [HN.out]
        rcases Nat.eq_zero_or_pos n with h0 | h0
        · rw [h0]; rfl
        · rw [show n = k + 1 by omega]; exact HA.out)
      go_wp2
      go_ret
      exact ⟨ret_bool HF.out.symm, HE.out⟩
end Go.Proofs.YtgaepmddbjdhfaaGreatDoor
namespace Go.Proofs.YtgaepmddbjdhfaaGreatDoor
open Go.RowKit
namespace Rs
theorem ix_at {key : List Int} {x : Int} {k : Nat} (h : key[k]? = some x) (hn : ∀ j, j < k → key[j]? ≠ some x) : ix key x = (k : Int) := by
  have hm := List.mem_of_getElem? h
  unfold ix
  rw [if_pos hm]
  obtain ⟨hk, hx⟩ := List.getElem?_eq_some_iff.1 h
  have h1 : List.idxOf x key < key.length := List.idxOf_lt_length_of_mem hm
  have h2 : key[List.idxOf x key] = x := List.getElem_idxOf h1
  have h3 : List.idxOf x key = k := by
    rcases Nat.lt_trichotomy (List.idxOf x key) k with g | g | g
    · exact absurd (by rw [List.getElem?_eq_getElem h1, h2]) (hn _ g)
    · exact g
    · have g' : k < List.findIdx (fun y => y == x) key := g
      have := List.not_of_lt_findIdx g'
      rw [hx] at this
      simp at this
  rw [h3]
theorem ix_no {key : List Int} {x : Int} (hn : ∀ j, j < key.length → key[j]? ≠ some x) : ix key x = -1 := by
  unfold ix
  rw [if_neg]
  intro hm
  obtain ⟨j, hj, rfl⟩ := List.mem_iff_getElem.1 hm
  exact hn j hj (List.getElem?_eq_getElem hj)
theorem ix_mem {key : List Int} {x : Int} : (0 ≤ ix key x) = (x ∈ key) := by
  unfold ix
  by_cases h : x ∈ key
  · rw [if_pos h]; simp [h]
  · rw [if_neg h]; simp [h]
theorem count_take {l : List Int} {k : Nat} {x y : Int} (h : l[k]? = some x) : (l.take (k + 1)).count y = (l.take k).count y + if x = y then 1 else 0 := by
  rw [List.take_add_one, h, List.count_append]
  simp [List.count_cons]
end Rs
set_option maxRecDepth 100000 in
set_option maxHeartbeats 1600000 in
theorem kindex_any (X : Option Addr) (xc : Nat) (xs : List Int) (v : Int) {n : Nat} (hn : xs.length = n) {r : Int} (hr : Rs.ix xs v = r) (w : World) (h : SlI w X xs) (hl : n ≤ 9223372036854775807) :
    Calls Tryz.prog 88 #[.slice X n xc, .int .i64 v] w fun e w' => e = .returned (.int .i64 r) ∧ w = w' := by
  have H := Lib.hid h
  have HR := Lib.hid hr
  have HN := Lib.hid hn
  clear h hr hn
  go_enter Tryz.func88, Tryz.ntmps88
  go_wp2
  go_loop [8] (fun i => ∃ k : Nat, k ≤ n ∧ i = .int .i64 k ∧ Hid (∀ j, j < k → xs[j]? ≠ some v)) (fun i => n - (intOf i).toNat)
  case atStart => exact ⟨0, by omega, rfl, Lib.hid (fun j hj => absurd hj (by omega))⟩
  case round =>
    obtain ⟨k, hk, rfl, HNO⟩ := hrel
    by_cases hlt : k < n
    · obtain ⟨b, off, x, rfl, hb, hx, cx⟩ := H.out.at_ (i := k) (by rw [HN.out]; exact hlt)
      by_cases hxv : v = x
      · subst hxv
        have HF : Hid (r = (k : Int)) := Lib.hid (by rw [← HR.out]; exact Rs.ix_at hx HNO.out)
        clear hx
        go_wp2
        go_ret
        exact ⟨ret_int HF.out.symm, rfl⟩
      · have hxv' : (v == x) = false := by rw [beq_eq_false_iff_ne]; exact hxv
        have HF : Hid (∀ j, j < k + 1 → xs[j]? ≠ some v) := Lib.hid (fun j hj e => by
          rcases Nat.lt_or_ge j k with g | g
          · exact HNO.out j g e
          · obtain rfl : j = k := by omega
            rw [hx] at e
            injection e with e
            exact hxv e.symm)
        clear hxv hx
        go_wp2
        go_round
        case rel => exact ⟨k + 1, by omega, by go_num, HF⟩
        case measure => simp [intOf]; omega
    · have HF : Hid (r = -1) := Lib.hid (by rw [← HR.out]; exact Rs.ix_no (fun j hj => HNO.out j (by rw [HN.out] at hj; omega)))
      go_wp2
      go_ret
      exact ⟨ret_int HF.out.symm, rfl⟩
set_option maxRecDepth 100000 in
set_option maxHeartbeats 1600000 in
theorem rplace_any (X : Option Addr) (xc : Nat) (xs : List Int) (v : Int) {n : Nat} (hn : xs.length = n) {r : Int} (hr : Rs.ix xs v = r) (w : World) (h : SlI w X xs) (hl : n ≤ 9223372036854775807) :
    Calls Tryz.prog 99 #[.slice X n xc, .int .i64 v] w fun e w' => e = .returned (.int .i64 r) ∧ w = w' := by
  have H := Lib.hid h
  have HR := Lib.hid hr
  have HN := Lib.hid hn
  clear h hr hn
  go_enter Tryz.func99, Tryz.ntmps99
  go_wp2
  go_loop [9] (fun i => ∃ k : Nat, k ≤ n ∧ i = .int .i64 k ∧ Hid (∀ j, j < k → xs[j]? ≠ some v)) (fun i => n - (intOf i).toNat)
  case atStart => exact ⟨0, by omega, rfl, Lib.hid (fun j hj => absurd hj (by omega))⟩
  case round =>
    obtain ⟨k, hk, rfl, HNO⟩ := hrel
    by_cases hlt : k < n
    · obtain ⟨b, off, x, rfl, hb, hx, cx⟩ := H.out.at_ (i := k) (by rw [HN.out]; exact hlt)
      by_cases hxv : x = v
      · subst hxv
        have HF : Hid (r = (k : Int)) := Lib.hid (by rw [← HR.out]; exact Rs.ix_at hx HNO.out)
        clear hx
        go_wp2
        go_ret
        exact ⟨ret_int HF.out.symm, rfl⟩
      · have hxv' : (x == v) = false := by rw [beq_eq_false_iff_ne]; exact hxv
        have HF : Hid (∀ j, j < k + 1 → xs[j]? ≠ some v) := Lib.hid (fun j hj e => by
          rcases Nat.lt_or_ge j k with g | g
          · exact HNO.out j g e
          · obtain rfl : j = k := by omega
            rw [hx] at e
            injection e with e
            exact hxv e)
        clear hxv hx
        go_wp2
        go_round
        case rel => exact ⟨k + 1, by omega, by go_num, HF⟩
        case measure => simp [intOf]; omega
    · have HF : Hid (r = -1) := Lib.hid (by rw [← HR.out]; exact Rs.ix_no (fun j hj => HNO.out j (by rw [HN.out] at hj; omega)))
      go_wp2
      go_ret
      exact ⟨ret_int HF.out.symm, rfl⟩
set_option maxRecDepth 100000 in
set_option maxHeartbeats 1600000 in
theorem kcontains_any (X : Option Addr) (xc : Nat) (xs : List Int) (v : Int) {n : Nat} (hn : xs.length = n) {q : Bool} (hq : decide (v ∈ xs) = q) (w : World) (h : SlI w X xs) (hl : n ≤ 9223372036854775807) :
    Calls Tryz.prog 87 #[.slice X n xc, .int .i64 v] w fun e w' => e = .returned (.bool q) ∧ w = w' := by
  have H := Lib.hid h
  have HQ := Lib.hid hq
  have HN := Lib.hid hn
  clear h hq hn
  obtain ⟨r, hr⟩ : ∃ r, Rs.ix xs v = r := ⟨_, rfl⟩
  have HF : Hid (decide (0 ≤ r) = q) := Lib.hid (by rw [← hr, ← HQ.out, decide_eq_decide, Rs.ix_mem])
  have HR := Lib.hid hr
  clear hr
  go_enter Tryz.func87, Tryz.ntmps87
  go_wp2_with (go_at_call 88; refine (kindex_any X xc xs v HN.out HR.out _ H.out hl).mono ?_; rintro e w1 ⟨rfl, rfl⟩)
  go_ret
  exact ⟨ret_bool HF.out, rfl⟩
set_option maxRecDepth 100000 in
set_option maxHeartbeats 1600000 in
theorem rcount_any (A : Option Addr) (c : Nat) (l : List Int) (x : Int) {n : Nat} (hn : l.length = n) {r : Nat} (hr : It.times l x = r) (w : World) (h : SlI w A l) (hl : n ≤ 9223372036854775807) :
    Calls Tryz.prog 98 #[.slice A n c, .int .i64 x] w fun e w' => e = .returned (.int .i64 r) ∧ w = w' := by
  have H := Lib.hid h
  have HR := Lib.hid hr
  have HN := Lib.hid hn
  clear h hr hn
  go_enter Tryz.func98, Tryz.ntmps98
  go_wp2
  go_loop [5, 10] (fun t j => ∃ m c : Nat, m ≤ n ∧ j = .int .i64 m ∧ t = .int .i64 c ∧ c ≤ m ∧ Hid ((l.take m).count x = c)) (fun _ j => n - (intOf j).toNat)
  case atStart => exact ⟨0, 0, by omega, rfl, rfl, by omega, Lib.hid rfl⟩
  case round =>
    obtain ⟨m, c, hm, rfl, rfl, hcm, HC⟩ := hrel
    by_cases hlm : m < n
    · obtain ⟨b, off, y, rfl, hb, hx, hc⟩ := H.out.at_ (i := m) (by rw [HN.out]; exact hlm)
      have HT := Lib.hid (Rs.count_take (y := x) hx)
      clear hx
      by_cases hxk : y = x
      · have e2 : (y == x) = true := by rw [beq_iff_eq]; exact hxk
        have HX : Hid ((l.take (m + 1)).count x = c + 1) := Lib.hid (by rw [HT.out, HC.out, if_pos hxk])
        clear hxk
        go_wp2
        go_round
        case rel => exact ⟨m + 1, c + 1, by omega, by go_num, by go_num, by omega, HX⟩
        case measure => simp [intOf]; omega
      · have e2 : (y == x) = false := by rw [beq_eq_false_iff_ne]; exact hxk
        have HX : Hid ((l.take (m + 1)).count x = c) := Lib.hid (by rw [HT.out, HC.out, if_neg hxk]; rfl)
        clear hxk
        go_wp2
        go_round
        case rel => exact ⟨m + 1, c, by omega, by go_num, by go_num, by omega, HX⟩
        case measure => simp [intOf]; omega
    · have HF : Hid ((c : Int) = (r : Int)) := Lib.hid (by
        have h1 := HC.out
        rw [show m = l.length by rw [HN.out]; omega, List.take_length] at h1
        rw [← HR.out, ← h1]
        rfl)
      go_wp2
      go_ret
      exact ⟨ret_int HF.out, rfl⟩
end Go.Proofs.YtgaepmddbjdhfaaGreatDoor
namespace Go.Proofs.YtgaepmddbjdhfaaGreatDoor
open Go.RowKit
namespace Rs
theorem mul_small {a b : Int} (h1 : 0 ≤ a) (h2 : a ≤ 100) (h3 : 1 ≤ b) (h4 : b ≤ 5) : 0 ≤ a * b ∧ a * b ≤ 500 := by
  have h := Int.mul_nonneg h1 (show 0 ≤ b by omega)
  have h' : a * b ≤ 100 * 5 := Int.mul_le_mul h2 h4 (by omega) (by omega)
  omega
end Rs
theorem rs_packed (it : It.Item) (L : It.Loc) : ∃ CS : Array Value, It.agg it L = .agg CS ∧ CS.size = 17 ∧ CS.all (·.oneCell') = true ∧ (It.cells it L).toArray = CS :=
  ⟨_, rfl, rfl, by simp [Value.oneCell'], rfl⟩
set_option maxRecDepth 100000 in
set_option maxHeartbeats 6400000 in
theorem scoreMulti_any (it : It.Item) (L : It.Loc) (A : Option Addr) (c : Nat) (l : List Int) {n m : Nat} (hn : l.length = n) (hm : it.chs.length = m) (hb1 : n ≤ 10) (hb2 : 1 ≤ m) (hb3 : m ≤ 10) (hp : 1 ≤ it.pts ∧ it.pts ≤ 5) {v : Int} (hv : Rs.pts (Rs.rgtM it.chs l) n it.pts m = v)
    (w : World) (hc : SlI w L.cA it.chs) (h : SlI w A l) :
    Calls Tryz.prog 51 #[It.agg it L, .slice A n c] w fun e w' => e = .returned (.int .i64 v) ∧ Ext w w' := by
  obtain ⟨CA, hca, hna, -, hka⟩ := rs_packed it L
  rw [hca]
  have ja5 : CA[5]? = some (.slice L.cA m L.cc) := by rw [← hka, ← hm]; rfl
  have ja9 : CA[9]? = some (.int .i64 it.pts) := by rw [← hka]; rfl
  have J := Lib.hid (And.intro ja5 ja9)
  have H := Lib.hid h
  have HC := Lib.hid hc
  have HN := Lib.hid hn
  have HM := Lib.hid hm
  have HV := Lib.hid hv
  obtain ⟨hp1, hp2⟩ := hp
  clear hca hna hka ja5 ja9 h hc hn hm hv
  go_enter Tryz.func51, Tryz.ntmps51
  go_wp2
  go_loopw [10, 5] (fun i t wr => ∃ k : Nat, k ≤ n ∧ i = .int .i64 k ∧ ∃ s : Int, t = .int .i64 s ∧ -(k : Int) ≤ s ∧ s ≤ (k : Int) ∧ Hid (s = 2 * (Rs.rgtM it.chs (l.take k) : Int) - (k : Int)) ∧ Hid (Ext (w.alloc (.cells CA 55)) wr)) (fun i _ _ => n - (intOf i).toNat)
  case atStart => exact ⟨0, by omega, rfl, 0, rfl, by omega, by omega, Lib.hid rfl, Lib.hid (Ext.refl _)⟩
  case round =>
    obtain ⟨k, hk, rfl, s, rfl, hs1, hs2, HS, HE⟩ := hrel
    have B1 := HE.out.blockAt (heap_alloc_new w (.cells CA 55))
    have a5 : wr.cell? ⟨w.heap.size, 5, none⟩ = some (.slice L.cA m L.cc) := (cell_of_row _ _ 5 _ _ _ B1).trans J.out.1
    have a9 : wr.cell? ⟨w.heap.size, 9, none⟩ = some (.int .i64 it.pts) := (cell_of_row _ _ 9 _ _ _ B1).trans J.out.2
    have X1 : Hid (Ext w wr) := Lib.hid (((Ext.refl w).alloc _).trans HE.out)
    clear B1
    by_cases hlt : k < n
    · obtain ⟨b, off, x, rfl, hb, hx, cx⟩ := (H.out.ext X1.out).at_ (i := k) (by rw [HN.out]; exact hlt)
      obtain ⟨q, hq⟩ : ∃ q, decide (x ∈ it.chs) = q := ⟨_, rfl⟩
      have HT := Lib.hid (Rs.rgtM_next (key := it.chs) hx)
      have HQ := Lib.hid hq
      have ki : (k : Int) < (n : Int) := by omega
      clear hx hq
      cases q with
      | true =>
        have HX : Hid (s + 1 = 2 * (Rs.rgtM it.chs (l.take (k + 1)) : Int) - ((k + 1 : Nat) : Int)) := Lib.hid (by
          rw [HT.out, if_pos (by simpa using HQ.out), HS.out]; omega)
        go_wp2_with (go_at_call 87; refine (kcontains_any L.cA L.cc it.chs x HM.out HQ.out _ (HC.out.ext X1.out) (by omega)).mono ?_; rintro e w1 ⟨rfl, rfl⟩)
        go_roundw
        case rel => exact ⟨k + 1, by omega, by go_num, s + 1, by go_num, by omega, by omega, HX, HE⟩
        case measure => simp [intOf]; omega
      | false =>
        have HX : Hid (s - 1 = 2 * (Rs.rgtM it.chs (l.take (k + 1)) : Int) - ((k + 1 : Nat) : Int)) := Lib.hid (by
          rw [HT.out, if_neg (by simpa using HQ.out), HS.out]; omega)
        go_wp2_with (go_at_call 87; refine (kcontains_any L.cA L.cc it.chs x HM.out HQ.out _ (HC.out.ext X1.out) (by omega)).mono ?_; rintro e w1 ⟨rfl, rfl⟩)
        go_roundw
        case rel => exact ⟨k + 1, by omega, by go_num, s - 1, by go_num, by omega, by omega, HX, HE⟩
        case measure => simp [intOf]; omega
    · obtain rfl : k = n := by omega
      have hz : ¬ (m : Int) = 0 := by omega
      by_cases h0 : s < 0
      · have HF : Hid (v = 0) := Lib.hid (by
          rw [← HV.out]
          have h1 := HS.out
          rw [← HN.out, List.take_length] at h1
          unfold Rs.pts
          rw [if_pos (by rw [← HN.out]; omega)]
          simp)
        go_wp2
        go_ret
        exact ⟨ret_int (by rw [HF.out]), X1.out⟩
      · have HF : Hid (v = s * it.pts / (m : Int)) := Lib.hid (by
          rw [← HV.out]
          have h1 := HS.out
          rw [← HN.out, List.take_length] at h1
          unfold Rs.pts
          rw [if_neg (by rw [← HN.out]; omega), ← HN.out, ← h1])
        obtain ⟨hm1, hm2⟩ := Rs.mul_small (a := s) (b := it.pts) (by omega) (by omega) hp1 hp2
        go_wp2
        go_ret
        exact ⟨ret_int (by rw [HF.out]), X1.out⟩
set_option maxRecDepth 100000 in
set_option maxHeartbeats 6400000 in
theorem rmulti_any (it : It.Item) (L : It.Loc) (A : Option Addr) (c : Nat) (l : List Int) {n m : Nat} (hn : l.length = n) (hm : it.chs.length = m) (hb1 : n ≤ 10) (hb2 : 1 ≤ m) (hb3 : m ≤ 10) (hp : 1 ≤ it.pts ∧ it.pts ≤ 5) (hnd : it.chs.Nodup) {v : Int} (hv : Rs.pts (Rs.rgtM it.chs l) n it.pts m = v)
    (w : World) (hc : SlI w L.cA it.chs) (h : SlI w A l) :
    Calls Tryz.prog 58 #[It.agg it L, .slice A n c] w fun e w' => e = .returned (.int .i64 v) ∧ Ext w w' := by
  obtain ⟨CA, hca, hna, -, hka⟩ := rs_packed it L
  rw [hca]
  have ja5 : CA[5]? = some (.slice L.cA m L.cc) := by rw [← hka, ← hm]; rfl
  have ja9 : CA[9]? = some (.int .i64 it.pts) := by rw [← hka]; rfl
  have J := Lib.hid (And.intro ja5 ja9)
  have H := Lib.hid h
  have HC := Lib.hid hc
  have HN := Lib.hid hn
  have HM := Lib.hid hm
  have HV := Lib.hid hv
  obtain ⟨hp1, hp2⟩ := hp
  clear hca hna hka ja5 ja9 h hc hn hm hv
  have HD := Lib.hid hnd
  clear hnd
  go_enter Tryz.func58, Tryz.ntmps58
  go_wp2
  go_loopw [11, 5] (fun i t wr => ∃ k s : Nat, k ≤ n ∧ i = .int .i64 k ∧ t = .int .i64 s ∧ s ≤ k ∧ Hid (Rs.sumC it.chs (l.take k) = s) ∧ Hid (Ext (w.alloc (.cells CA 55)) wr)) (fun i _ _ => n - (intOf i).toNat)
  case atStart => exact ⟨0, 0, by omega, rfl, rfl, by omega, Lib.hid rfl, Lib.hid (Ext.refl _)⟩
  case round =>
    obtain ⟨k, s, hk, rfl, rfl, hs, HS, HE⟩ := hrel
    have B1 := HE.out.blockAt (heap_alloc_new w (.cells CA 55))
    have a5 : wr.cell? ⟨w.heap.size, 5, none⟩ = some (.slice L.cA m L.cc) := (cell_of_row _ _ 5 _ _ _ B1).trans J.out.1
    have a9 : wr.cell? ⟨w.heap.size, 9, none⟩ = some (.int .i64 it.pts) := (cell_of_row _ _ 9 _ _ _ B1).trans J.out.2
    have X1 : Hid (Ext w wr) := Lib.hid (((Ext.refl w).alloc _).trans HE.out)
    clear B1
    by_cases hlt : k < n
    · obtain ⟨b, off, x, rfl, hb, hx, cx⟩ := (H.out.ext X1.out).at_ (i := k) (by rw [HN.out]; exact hlt)
      obtain ⟨q, hq⟩ : ∃ q, It.times it.chs x = q := ⟨_, rfl⟩
      have hq1 : q ≤ 1 := by rw [← hq]; exact List.nodup_iff_count.1 HD.out x
      have HT : Hid (Rs.sumC it.chs (l.take (k + 1)) = s + q) := Lib.hid (by rw [Rs.sumC_next hx, HS.out, hq])
      have HQ := Lib.hid hq
      have ki : (k : Int) < (n : Int) := by omega
      clear hx hq
      go_wp2_with (go_at_call 98; refine (rcount_any L.cA L.cc it.chs x HM.out HQ.out _ (HC.out.ext X1.out) (by omega)).mono ?_; rintro e w1 ⟨rfl, rfl⟩)
      go_roundw
      case rel => exact ⟨k + 1, s + q, by omega, by go_num, by go_num, by omega, HT, HE⟩
      case measure => simp [intOf]; omega
    · obtain rfl : k = n := by omega
      have hz : ¬ (m : Int) = 0 := by omega
      have HR : Hid (Rs.rgtM it.chs l = s) := Lib.hid (by
        have h1 := HS.out
        rw [← HN.out, List.take_length, Rs.sumC_eq HD.out] at h1
        exact h1)
      by_cases h0 : (s : Int) < (k : Int) - (s : Int)
      · have HF : Hid (v = 0) := Lib.hid (by
          rw [← HV.out, HR.out]
          unfold Rs.pts
          rw [if_pos (by omega)]
          simp)
        go_wp2
        go_ret
        exact ⟨ret_int (by rw [HF.out]), X1.out⟩
      · have HF : Hid (v = ((s : Int) - ((k : Int) - (s : Int))) * it.pts / (m : Int)) := Lib.hid (by
          rw [← HV.out, HR.out]
          unfold Rs.pts
          rw [if_neg (by omega)]
          congr 2
          omega)
        obtain ⟨hm1, hm2⟩ := Rs.mul_small (a := (s : Int) - ((k : Int) - (s : Int))) (b := it.pts) (by omega) (by omega) hp1 hp2
        go_wp2
        go_ret
        exact ⟨ret_int (by rw [HF.out]), X1.out⟩
theorem kindex_q (X : Option Addr) (xc : Nat) (xs : List Int) (v : Int) {n : Nat} (hn : xs.length = n) {r : Int} (hr : Rs.ix xs v = r) (w : World) (h : SlI w X xs) (hl : n ≤ 9223372036854775807) :
    Calls Tryz.prog 88 #[.slice X n xc, .int .i64 v] w fun e w' => e = .returned (.int .i64 r) ∧ w' = w := (kindex_any X xc xs v hn hr w h hl).mono fun _ _ h => ⟨h.1, h.2.symm⟩
theorem rplace_q (X : Option Addr) (xc : Nat) (xs : List Int) (v : Int) {n : Nat} (hn : xs.length = n) {r : Int} (hr : Rs.ix xs v = r) (w : World) (h : SlI w X xs) (hl : n ≤ 9223372036854775807) :
    Calls Tryz.prog 99 #[.slice X n xc, .int .i64 v] w fun e w' => e = .returned (.int .i64 r) ∧ w' = w := (rplace_any X xc xs v hn hr w h hl).mono fun _ _ h => ⟨h.1, h.2.symm⟩
theorem SlI.drop {w : World} {b off : Nat} {l : List Int} (h : SlI w (some ⟨b, off, none⟩) l) (m : Nat) : SlI w (some ⟨b, off + m, none⟩) (l.drop m) := by
  rcases h with h | ⟨b', off', hA, hb, hc⟩
  · refine Or.inl ?_
    simp at h
    simp [h]
  · obtain ⟨rfl, rfl⟩ : b = b' ∧ off = off' := by cases hA; exact ⟨rfl, rfl⟩
    refine Or.inr ⟨b, off + m, rfl, hb, fun i cs hi j v hv => ?_⟩
    rw [List.getElem?_map, List.getElem?_drop, ← List.getElem?_map] at hi
    have := hc (m + i) cs hi j v hv
    rwa [show off + m + (i * 1 + j) = off + ((m + i) * 1 + j) by omega]
set_option maxRecDepth 100000 in
set_option maxHeartbeats 6400000 in
theorem scoreOrder_any (it : It.Item) (L : It.Loc) (A : Option Addr) (c : Nat) (l : List Int) {n m : Nat} (hn : l.length = n) (hm : it.chs.length = m) (hb1 : n ≤ 10) (hb2 : 2 ≤ n) (hb3 : m ≤ 10) (hcap : n ≤ c) (hcm : c ≤ 9223372036854775807) (hp : 1 ≤ it.pts ∧ it.pts ≤ 5) {v : Int} (hv : Rs.pts (Rs.rgtO it.chs l) (Rs.prs l) it.pts (Rs.prs l) = v)
    (w : World) (hc : SlI w L.cA it.chs) (h : SlI w A l) :
    Calls Tryz.prog 52 #[It.agg it L, .slice A n c] w fun e w' => e = .returned (.int .i64 v) ∧ Ext w w' := by
  obtain ⟨CA, hca, hna, -, hka⟩ := rs_packed it L
  rw [hca]
  have ja5 : CA[5]? = some (.slice L.cA m L.cc) := by rw [← hka, ← hm]; rfl
  have ja9 : CA[9]? = some (.int .i64 it.pts) := by rw [← hka]; rfl
  have J := Lib.hid (And.intro ja5 ja9)
  have H := Lib.hid h
  have HC := Lib.hid hc
  have HN := Lib.hid hn
  have HM := Lib.hid hm
  have HV := Lib.hid hv
  obtain ⟨hp1, hp2⟩ := hp
  clear hca hna hka ja5 ja9 h hc hn hm hv
  obtain ⟨N, hN⟩ : ∃ N, Rs.prs l = N := ⟨_, rfl⟩
  have hN1 : N ≤ 100 := by
    have h1 := Rs.prs_le l
    have h2 : l.length * l.length ≤ 10 * 10 := Nat.mul_le_mul (by rw [HN.out]; exact hb1) (by rw [HN.out]; exact hb1)
    omega
  have hN2 : 1 ≤ N := by
    rw [← hN]
    have h2 := HN.out
    match l, h2 with
    | [], h2 => simp at h2; omega
    | [x], h2 => simp at h2; omega
    | x :: y :: l, h2 => show 1 ≤ (y :: l).length + _; simp; omega
  have HP := Lib.hid hN
  rw [hN] at HV
  clear hN
  go_enter Tryz.func52, Tryz.ntmps52
  go_wp2
  go_loopw [13, 5, 6] (fun i t p wr => ∃ k g q : Nat, k ≤ n ∧ i = .int .i64 k ∧ t = .int .i64 (2 * g - q) ∧ p = .int .i64 q ∧ g ≤ q ∧ q ≤ 100 ∧ Hid (Rs.rgtO it.chs l = g + Rs.rgtO it.chs (l.drop k)) ∧ Hid (N = q + Rs.prs (l.drop k)) ∧ Hid (Ext (w.alloc (.cells CA 55)) wr)) (fun i _ _ _ => n - (intOf i).toNat)
  case atStart => exact ⟨0, 0, 0, by omega, rfl, rfl, rfl, by omega, by omega, Lib.hid (by simp), Lib.hid (by rw [List.drop_zero, HP.out]; simp), Lib.hid (Ext.refl _)⟩
  case round =>
    obtain ⟨k, g, q, hk, rfl, rfl, rfl, hg, hq, HG, HQ, HE⟩ := hrel
    have B1 := HE.out.blockAt (heap_alloc_new w (.cells CA 55))
    have a5 : wr.cell? ⟨w.heap.size, 5, none⟩ = some (.slice L.cA m L.cc) := (cell_of_row _ _ 5 _ _ _ B1).trans J.out.1
    have a9 : wr.cell? ⟨w.heap.size, 9, none⟩ = some (.int .i64 it.pts) := (cell_of_row _ _ 9 _ _ _ B1).trans J.out.2
    have X1 : Hid (Ext w wr) := Lib.hid (((Ext.refl w).alloc _).trans HE.out)
    clear B1
    by_cases hlt : k < n
    · obtain ⟨b, off, x, rfl, hb, hx, cx⟩ := (H.out.ext X1.out).at_ (i := k) (by rw [HN.out]; exact hlt)
      have HD := Lib.hid (Rs.drop_cons hx)
      have HSD : Hid (SlI w (some ⟨b, off + (k + 1), none⟩) (l.drop (k + 1))) := Lib.hid (H.out.drop (k + 1))
      have HLD : Hid ((l.drop (k + 1)).length = n - (k + 1)) := Lib.hid (by rw [List.length_drop, HN.out])
      have ki : (k : Int) < (n : Int) := by omega
      obtain ⟨r, hr⟩ : ∃ r, Rs.ix it.chs x = r := ⟨_, rfl⟩
      have HR := Lib.hid hr
      clear hx hr
      obtain ⟨l', hl'⟩ : ∃ l', l.drop (k + 1) = l' := ⟨_, rfl⟩
      rw [hl'] at HD HSD HLD
      have HDE := Lib.hid hl'
      clear hl'
      have HQ' : Hid (N = q + ((n - (k + 1)) + Rs.prs l')) := Lib.hid (by rw [HQ.out, HD.out]; show _ = q + (_ + _); rw [← HLD.out]; rfl)
      have hq' : q + (n - (k + 1)) ≤ 100 := by have := HQ'.out; omega
      obtain ⟨wo, rfl⟩ : ∃ wo : World, wo = wr := ⟨_, rfl⟩
      by_cases hck : c = k + 1
      · have HCK := Lib.hid hck
        go_wp2
        go_loopw [23, 5, 6] (fun i t p wr => ∃ j g' : Nat, j ≤ n - (k + 1) ∧ i = .int .i64 j ∧ t = .int .i64 (2 * ((g + g' : Nat) : Int) - ((q + j : Nat) : Int)) ∧ p = .int .i64 ((q + j : Nat) : Int) ∧ g' ≤ j ∧ Hid ((l'.take j).countP (fun y => decide (Rs.ix it.chs x < Rs.ix it.chs y)) = g') ∧ Hid (Ext wo wr)) (fun i _ _ _ => n - (k + 1) - (intOf i).toNat)
        case atStart => exact ⟨0, 0, by omega, rfl, rfl, rfl, by omega, Lib.hid rfl, Lib.hid (Ext.refl _)⟩
        case round =>
          obtain ⟨j, g', hj, rfl, rfl, rfl, hg', HC2, HE2⟩ := hrel
          have XT := Lib.hid (HE.out.trans HE2.out)
          have B1 := XT.out.blockAt (heap_alloc_new w (.cells CA 55))
          have a5 : wr.cell? ⟨w.heap.size, 5, none⟩ = some (.slice L.cA m L.cc) := (cell_of_row _ _ 5 _ _ _ B1).trans J.out.1
          have a9 : wr.cell? ⟨w.heap.size, 9, none⟩ = some (.int .i64 it.pts) := (cell_of_row _ _ 9 _ _ _ B1).trans J.out.2
          have X2 : Hid (Ext w wr) := Lib.hid (((Ext.refl w).alloc _).trans XT.out)
          clear B1
          by_cases hjl : j < n - (k + 1)
          · omega
          · obtain rfl : j = n - (k + 1) := by omega
            have HG' : Hid (Rs.rgtO it.chs l = ((g + g' : Nat)) + Rs.rgtO it.chs l') := Lib.hid (by
              rw [HG.out, HD.out]
              show g + (l'.countP _ + _) = _
              have h1 := HC2.out
              rw [← HLD.out, List.take_length] at h1
              rw [h1]; omega)
            have HQ2 : Hid (N = (q + (n - (k + 1)) : Nat) + Rs.prs l') := Lib.hid (by rw [HQ'.out]; omega)
            go_wp2
            go_roundw
            case rel => exact ⟨k + 1, g + g', q + (n - (k + 1)), by omega, by go_num, by go_num, by go_num, by omega, by omega, by rw [HDE.out]; exact HG', by rw [HDE.out]; exact HQ2, XT⟩
            case measure => simp [intOf]; omega
      · have HCK := Lib.hid hck
        go_wp2
        go_loopw [23, 5, 6] (fun i t p wr => ∃ j g' : Nat, j ≤ n - (k + 1) ∧ i = .int .i64 j ∧ t = .int .i64 (2 * ((g + g' : Nat) : Int) - ((q + j : Nat) : Int)) ∧ p = .int .i64 ((q + j : Nat) : Int) ∧ g' ≤ j ∧ Hid ((l'.take j).countP (fun y => decide (Rs.ix it.chs x < Rs.ix it.chs y)) = g') ∧ Hid (Ext wo wr)) (fun i _ _ _ => n - (k + 1) - (intOf i).toNat)
        case atStart => exact ⟨0, 0, by omega, rfl, rfl, rfl, by omega, Lib.hid rfl, Lib.hid (Ext.refl _)⟩
        case round =>
          obtain ⟨j, g', hj, rfl, rfl, rfl, hg', HC2, HE2⟩ := hrel
          have XT := Lib.hid (HE.out.trans HE2.out)
          have B1 := XT.out.blockAt (heap_alloc_new w (.cells CA 55))
          have a5 : wr.cell? ⟨w.heap.size, 5, none⟩ = some (.slice L.cA m L.cc) := (cell_of_row _ _ 5 _ _ _ B1).trans J.out.1
          have a9 : wr.cell? ⟨w.heap.size, 9, none⟩ = some (.int .i64 it.pts) := (cell_of_row _ _ 9 _ _ _ B1).trans J.out.2
          have X2 : Hid (Ext w wr) := Lib.hid (((Ext.refl w).alloc _).trans XT.out)
          clear B1
          by_cases hjl : j < n - (k + 1)
          · obtain ⟨b2, off2, y, hA2, hb2', hy, cy⟩ := (HSD.out.ext X2.out).at_ (i := j) (by rw [HLD.out]; exact hjl)
            obtain ⟨rfl, rfl⟩ : b = b2 ∧ off + (k + 1) = off2 := by cases hA2; exact ⟨rfl, rfl⟩
            have hj1 : (j : Int) < ((n - (k + 1) : Nat) : Int) := by omega
            obtain ⟨r2, hr2⟩ : ∃ r, Rs.ix it.chs y = r := ⟨_, rfl⟩
            have HR2 := Lib.hid hr2
            have HNX := Lib.hid (Rs.cnt_next (p := fun y => decide (Rs.ix it.chs x < Rs.ix it.chs y)) hy)
            clear hy hr2 hA2
            by_cases hlt2 : r < r2
            · have HX : Hid ((l'.take (j + 1)).countP (fun y => decide (Rs.ix it.chs x < Rs.ix it.chs y)) = g' + 1) := Lib.hid (by
                rw [HNX.out, HC2.out, if_pos (by rw [HR.out, HR2.out]; exact decide_eq_true hlt2)])
              go_wp2_with fail
              go_quiet ((go_at_call 88; first
                | with_reducible exact Calls.quiet_of_same (kindex_q L.cA L.cc it.chs x HM.out HR.out _ (HC.out.ext (X2.out.drewN _)) (by omega))
                | with_reducible exact Calls.quiet_of_same (kindex_q L.cA L.cc it.chs y HM.out HR2.out _ (HC.out.ext (X2.out.drewN _)) (by omega))))
              go_wp2
              go_roundw
              case rel => exact ⟨j + 1, g' + 1, by omega, by go_num, by go_num, by go_num, by omega, HX, Lib.hid (HE2.out.drewN _)⟩
              case measure => simp [intOf]; omega
            · have HX : Hid ((l'.take (j + 1)).countP (fun y => decide (Rs.ix it.chs x < Rs.ix it.chs y)) = g') := Lib.hid (by
                rw [HNX.out, HC2.out, if_neg (by rw [HR.out, HR2.out]; simpa using hlt2)]; rfl)
              go_wp2_with fail
              go_quiet ((go_at_call 88; first
                | with_reducible exact Calls.quiet_of_same (kindex_q L.cA L.cc it.chs x HM.out HR.out _ (HC.out.ext (X2.out.drewN _)) (by omega))
                | with_reducible exact Calls.quiet_of_same (kindex_q L.cA L.cc it.chs y HM.out HR2.out _ (HC.out.ext (X2.out.drewN _)) (by omega))))
              go_wp2
              go_roundw
              case rel => exact ⟨j + 1, g', by omega, by go_num, by go_num, by go_num, by omega, HX, Lib.hid (HE2.out.drewN _)⟩
              case measure => simp [intOf]; omega
          · obtain rfl : j = n - (k + 1) := by omega
            have HG' : Hid (Rs.rgtO it.chs l = ((g + g' : Nat)) + Rs.rgtO it.chs l') := Lib.hid (by
              rw [HG.out, HD.out]
              show g + (l'.countP _ + _) = _
              have h1 := HC2.out
              rw [← HLD.out, List.take_length] at h1
              rw [h1]; omega)
            have HQ2 : Hid (N = (q + (n - (k + 1)) : Nat) + Rs.prs l') := Lib.hid (by rw [HQ'.out]; omega)
            go_wp2
            go_roundw
            case rel => exact ⟨k + 1, g + g', q + (n - (k + 1)), by omega, by go_num, by go_num, by go_num, by omega, by omega, by rw [HDE.out]; exact HG', by rw [HDE.out]; exact HQ2, XT⟩
            case measure => simp [intOf]; omega
    · obtain rfl : k = n := by omega
      have hNq : Hid (N = q) := Lib.hid (by rw [HQ.out, List.drop_eq_nil_of_le (by rw [HN.out]; exact Nat.le_refl _)]; rfl)
      have hGg : Hid (Rs.rgtO it.chs l = g) := Lib.hid (by rw [HG.out, List.drop_eq_nil_of_le (by rw [HN.out]; exact Nat.le_refl _)]; rfl)
      have hq1 : 1 ≤ q := by have := hNq.out; omega
      have hz : ¬ (q : Int) = 0 := by omega
      by_cases h0 : 2 * (g : Int) - (q : Int) < 0
      · have HF : Hid (v = 0) := Lib.hid (by
          rw [← HV.out, hGg.out, hNq.out]
          unfold Rs.pts
          rw [if_pos (by omega)]
          simp)
        go_wp2
        go_ret
        exact ⟨ret_int (by rw [HF.out]), X1.out⟩
      · have HF : Hid (v = (2 * (g : Int) - (q : Int)) * it.pts / (q : Int)) := Lib.hid (by
          rw [← HV.out, hGg.out, hNq.out]
          unfold Rs.pts
          rw [if_neg (by omega)])
        obtain ⟨hm1, hm2⟩ := Rs.mul_small (a := 2 * (g : Int) - (q : Int)) (b := it.pts) (by omega) (by omega) hp1 hp2
        go_wp2
        go_ret
        exact ⟨ret_int (by rw [HF.out]), X1.out⟩
set_option maxRecDepth 100000 in
set_option maxHeartbeats 6400000 in
theorem rorder_any (it : It.Item) (L : It.Loc) (A : Option Addr) (c : Nat) (l : List Int) {n m : Nat} (hn : l.length = n) (hm : it.chs.length = m) (hb1 : n ≤ 10) (hb2 : 2 ≤ n) (hb3 : m ≤ 10) (hp : 1 ≤ it.pts ∧ it.pts ≤ 5) {v : Int} (hv : Rs.pts (Rs.rgtO it.chs l) (Rs.prs l) it.pts (Rs.prs l) = v)
    (w : World) (hc : SlI w L.cA it.chs) (h : SlI w A l) :
    Calls Tryz.prog 59 #[It.agg it L, .slice A n c] w fun e w' => e = .returned (.int .i64 v) ∧ Ext w w' := by
  obtain ⟨CA, hca, hna, -, hka⟩ := rs_packed it L
  rw [hca]
  have ja5 : CA[5]? = some (.slice L.cA m L.cc) := by rw [← hka, ← hm]; rfl
  have ja9 : CA[9]? = some (.int .i64 it.pts) := by rw [← hka]; rfl
  have J := Lib.hid (And.intro ja5 ja9)
  have H := Lib.hid h
  have HC := Lib.hid hc
  have HN := Lib.hid hn
  have HM := Lib.hid hm
  have HV := Lib.hid hv
  obtain ⟨hp1, hp2⟩ := hp
  clear hca hna hka ja5 ja9 h hc hn hm hv
  obtain ⟨N, hN⟩ : ∃ N, Rs.prs l = N := ⟨_, rfl⟩
  have hN1 : N ≤ 100 := by
    have h1 := Rs.prs_le l
    have h2 : l.length * l.length ≤ 10 * 10 := Nat.mul_le_mul (by rw [HN.out]; exact hb1) (by rw [HN.out]; exact hb1)
    omega
  have hN2 : 1 ≤ N := by
    rw [← hN]
    have h2 := HN.out
    match l, h2 with
    | [], h2 => simp at h2; omega
    | [x], h2 => simp at h2; omega
    | x :: y :: l, h2 => show 1 ≤ (y :: l).length + _; simp; omega
  have HP := Lib.hid hN
  rw [hN] at HV
  clear hN
  go_enter Tryz.func59, Tryz.ntmps59
  go_wp2
  go_loopw [7, 5, 6] (fun i t p wr => ∃ k g q : Nat, k ≤ n ∧ i = .int .i64 k ∧ t = .int .i64 g ∧ p = .int .i64 q ∧ g ≤ q ∧ q ≤ 100 ∧ Hid (Rs.rgtO it.chs l = g + Rs.rgtO it.chs (l.drop k)) ∧ Hid (N = q + Rs.prs (l.drop k)) ∧ Hid (Ext (w.alloc (.cells CA 55)) wr)) (fun i _ _ _ => n - (intOf i).toNat)
  case atStart => exact ⟨0, 0, 0, by omega, rfl, rfl, rfl, by omega, by omega, Lib.hid (by simp), Lib.hid (by rw [List.drop_zero, HP.out]; simp), Lib.hid (Ext.refl _)⟩
  case round =>
    obtain ⟨k, g, q, hk, rfl, rfl, rfl, hg, hq, HG, HQ, HE⟩ := hrel
    have B1 := HE.out.blockAt (heap_alloc_new w (.cells CA 55))
    have a5 : wr.cell? ⟨w.heap.size, 5, none⟩ = some (.slice L.cA m L.cc) := (cell_of_row _ _ 5 _ _ _ B1).trans J.out.1
    have a9 : wr.cell? ⟨w.heap.size, 9, none⟩ = some (.int .i64 it.pts) := (cell_of_row _ _ 9 _ _ _ B1).trans J.out.2
    have X1 : Hid (Ext w wr) := Lib.hid (((Ext.refl w).alloc _).trans HE.out)
    clear B1
    by_cases hlt : k < n
    · obtain ⟨b, off, x, rfl, hb, hx, cx⟩ := (H.out.ext X1.out).at_ (i := k) (by rw [HN.out]; exact hlt)
      have HD := Lib.hid (Rs.drop_cons hx)
      have HSD : Hid (SlI w (some ⟨b, off + (k + 1), none⟩) (l.drop (k + 1))) := Lib.hid (H.out.drop (k + 1))
      have HLD : Hid ((l.drop (k + 1)).length = n - (k + 1)) := Lib.hid (by rw [List.length_drop, HN.out])
      have ki : (k : Int) < (n : Int) := by omega
      obtain ⟨r, hr⟩ : ∃ r, Rs.ix it.chs x = r := ⟨_, rfl⟩
      have HR := Lib.hid hr
      clear hx hr
      obtain ⟨l', hl'⟩ : ∃ l', l.drop (k + 1) = l' := ⟨_, rfl⟩
      rw [hl'] at HD HSD HLD
      have HDE := Lib.hid hl'
      clear hl'
      have HQ' : Hid (N = q + ((n - (k + 1)) + Rs.prs l')) := Lib.hid (by rw [HQ.out, HD.out]; show _ = q + (_ + _); rw [← HLD.out]; rfl)
      have hq' : q + (n - (k + 1)) ≤ 100 := by have := HQ'.out; omega
      obtain ⟨wo, rfl⟩ : ∃ wo : World, wo = wr := ⟨_, rfl⟩
      go_wp2
      go_loopw [8, 5, 6] (fun i t p wr => ∃ j g' : Nat, j ≤ n - (k + 1) ∧ i = .int .i64 ((k + 1 + j : Nat) : Int) ∧ t = .int .i64 ((g + g' : Nat) : Int) ∧ p = .int .i64 ((q + j : Nat) : Int) ∧ g' ≤ j ∧ Hid ((l'.take j).countP (fun y => decide (Rs.ix it.chs x < Rs.ix it.chs y)) = g') ∧ Hid (Ext wo wr)) (fun i _ _ _ => n - (intOf i).toNat)
      case atStart => exact ⟨0, 0, by omega, by go_num, by go_num, by go_num, by omega, Lib.hid rfl, Lib.hid (Ext.refl _)⟩
      case round =>
        obtain ⟨j, g', hj, rfl, rfl, rfl, hg', HC2, HE2⟩ := hrel
        have XT := Lib.hid (HE.out.trans HE2.out)
        have B1 := XT.out.blockAt (heap_alloc_new w (.cells CA 55))
        have a5 : wr.cell? ⟨w.heap.size, 5, none⟩ = some (.slice L.cA m L.cc) := (cell_of_row _ _ 5 _ _ _ B1).trans J.out.1
        have a9 : wr.cell? ⟨w.heap.size, 9, none⟩ = some (.int .i64 it.pts) := (cell_of_row _ _ 9 _ _ _ B1).trans J.out.2
        have X2 : Hid (Ext w wr) := Lib.hid (((Ext.refl w).alloc _).trans XT.out)
        clear B1
        by_cases hjl : j < n - (k + 1)
        · obtain ⟨b2, off2, y, hA2, hb2', hy, cy⟩ := (HSD.out.ext X2.out).at_ (i := j) (by rw [HLD.out]; exact hjl)
          obtain ⟨rfl, rfl⟩ : b = b2 ∧ off + (k + 1) = off2 := by cases hA2; exact ⟨rfl, rfl⟩
          have hj1 : (k : Int) + 1 + (j : Int) < (n : Int) := by omega
          have hj2 : (0 : Int) ≤ (k : Int) + 1 + (j : Int) := by omega
          have cx2 : wr.cell? ⟨b, off + k, none⟩ = some (.int .i64 x) := HE2.out.keep cx
          have cy2 : wr.cell? ⟨b, off + (k + 1 + j), none⟩ = some (.int .i64 y) := by rw [← cy]; congr 2; omega
          clear cy
          obtain ⟨r2, hr2⟩ : ∃ r, Rs.ix it.chs y = r := ⟨_, rfl⟩
          have HR2 := Lib.hid hr2
          have HNX := Lib.hid (Rs.cnt_next (p := fun y => decide (Rs.ix it.chs x < Rs.ix it.chs y)) hy)
          clear hy hr2 hA2
          by_cases hlt2 : r < r2
          · have HX : Hid ((l'.take (j + 1)).countP (fun y => decide (Rs.ix it.chs x < Rs.ix it.chs y)) = g' + 1) := Lib.hid (by
              rw [HNX.out, HC2.out, if_pos (by rw [HR.out, HR2.out]; exact decide_eq_true hlt2)])
            go_wp2_with fail
            go_quiet ((go_at_call 99; first
              | with_reducible exact Calls.quiet_of_same (rplace_q L.cA L.cc it.chs x HM.out HR.out _ (HC.out.ext (X2.out.drewN _)) (by omega))
              | with_reducible exact Calls.quiet_of_same (rplace_q L.cA L.cc it.chs y HM.out HR2.out _ (HC.out.ext (X2.out.drewN _)) (by omega))))
            go_wp2
            go_roundw
            case rel => exact ⟨j + 1, g' + 1, by omega, by go_num, by go_num, by go_num, by omega, HX, Lib.hid (HE2.out.drewN _)⟩
            case measure => simp [intOf]; omega
          · have HX : Hid ((l'.take (j + 1)).countP (fun y => decide (Rs.ix it.chs x < Rs.ix it.chs y)) = g') := Lib.hid (by
              rw [HNX.out, HC2.out, if_neg (by rw [HR.out, HR2.out]; simpa using hlt2)]; rfl)
            go_wp2_with fail
            go_quiet ((go_at_call 99; first
              | with_reducible exact Calls.quiet_of_same (rplace_q L.cA L.cc it.chs x HM.out HR.out _ (HC.out.ext (X2.out.drewN _)) (by omega))
              | with_reducible exact Calls.quiet_of_same (rplace_q L.cA L.cc it.chs y HM.out HR2.out _ (HC.out.ext (X2.out.drewN _)) (by omega))))
            go_wp2
            go_roundw
            case rel => exact ⟨j + 1, g', by omega, by go_num, by go_num, by go_num, by omega, HX, Lib.hid (HE2.out.drewN _)⟩
            case measure => simp [intOf]; omega
        · obtain rfl : j = n - (k + 1) := by omega
          have HG' : Hid (Rs.rgtO it.chs l = ((g + g' : Nat)) + Rs.rgtO it.chs l') := Lib.hid (by
            rw [HG.out, HD.out]
            show g + (l'.countP _ + _) = _
            have h1 := HC2.out
            rw [← HLD.out, List.take_length] at h1
            rw [h1]; omega)
          have HQ2 : Hid (N = (q + (n - (k + 1)) : Nat) + Rs.prs l') := Lib.hid (by rw [HQ'.out]; omega)
          go_wp2
          go_roundw
          case rel => exact ⟨k + 1, g + g', q + (n - (k + 1)), by omega, by go_num, by go_num, by go_num, by omega, by omega, by rw [HDE.out]; exact HG', by rw [HDE.out]; exact HQ2, XT⟩
          case measure => simp [intOf]; omega
    · obtain rfl : k = n := by omega
      have hNq : Hid (N = q) := Lib.hid (by rw [HQ.out, List.drop_eq_nil_of_le (by rw [HN.out]; exact Nat.le_refl _)]; rfl)
      have hGg : Hid (Rs.rgtO it.chs l = g) := Lib.hid (by rw [HG.out, List.drop_eq_nil_of_le (by rw [HN.out]; exact Nat.le_refl _)]; rfl)
      have hq1 : 1 ≤ q := by have := hNq.out; omega
      have hz : ¬ (q : Int) = 0 := by omega
      by_cases h0 : 2 * (g : Int) < (q : Int)
      · have HF : Hid (v = 0) := Lib.hid (by
          rw [← HV.out, hGg.out, hNq.out]
          unfold Rs.pts
          rw [if_pos (by omega)]
          simp)
        go_wp2
        go_ret
        exact ⟨ret_int (by rw [HF.out]), X1.out⟩
      · have HF : Hid (v = it.pts * (2 * (g : Int) - (q : Int)) / (q : Int)) := Lib.hid (by
          rw [← HV.out, hGg.out, hNq.out]
          unfold Rs.pts
          rw [if_neg (by omega), Int.mul_comm])
        obtain ⟨hm1, hm2⟩ := Rs.mul_small (a := 2 * (g : Int) - (q : Int)) (b := it.pts) (by omega) (by omega) hp1 hp2
        rw [Int.mul_comm] at hm1 hm2
        go_wp2
        go_ret
        exact ⟨ret_int (by rw [HF.out]), X1.out⟩
end Go.Proofs.YtgaepmddbjdhfaaGreatDoor
namespace Go.Proofs.YtgaepmddbjdhfaaGreatDoor
open Go.ChangeShapes Go.WideShapes Go.ChangeAt Go.RowKit
theorem Tryz.infoU8 : (Tryz.prog.info? 5).map (fun i => (i.zero, i.size, i.bytes)) = some (some (.int .u8 0), 1, 1) := by kernel_rfl
namespace Rs
def bI (l : List UInt8) : List Int := l.map fun c => (c.toNat : Int)
theorem bI_len (l : List UInt8) : (bI l).length = l.length := by simp [bI]
theorem bI_snoc (l : List UInt8) (c : UInt8) : bI (l ++ [c]) = bI l ++ [(c.toNat : Int)] := by simp [bI]
/-- The steps, by the byte as a number. -/
theorem nst_blank {st : List UInt8 × Bool} {c : UInt8} (h : (c.toNat : Int) = 32) : nst st c = (st.1, decide (st.1 ≠ [])) := by
  have : c = 32 := by apply UInt8.toNat_inj.1; simp; omega
  unfold nst; rw [if_pos this]
theorem ne32 {c : UInt8} (h : (c.toNat : Int) ≠ 32) : c ≠ 32 := fun e => h (by rw [e]; rfl)
theorem nst_out {st : List UInt8 × Bool} {c : UInt8} (h : (c.toNat : Int) ≠ 32) (hu : ¬ (65 ≤ (c.toNat : Int) ∧ (c.toNat : Int) ≤ 90)) (hl : ¬ (97 ≤ (c.toNat : Int) ∧ (c.toNat : Int) ≤ 122)) (hd : ¬ (48 ≤ (c.toNat : Int) ∧ (c.toNat : Int) ≤ 57)) : nst st c = st := by
  have h1 : isU c = false := by unfold isU; simp; omega
  have h2 : isL c = false := by unfold isL; simp; omega
  unfold nst; rw [if_neg (ne32 h), h1, h2]; simp
theorem nst_in {st : List UInt8 × Bool} {c : UInt8} (h : (65 ≤ (c.toNat : Int) ∧ (c.toNat : Int) ≤ 90) ∨ (97 ≤ (c.toNat : Int) ∧ (c.toNat : Int) ≤ 122) ∨ (48 ≤ (c.toNat : Int) ∧ (c.toNat : Int) ≤ 57)) : nst st c = (st.1 ++ (if st.2 = true then [32] else []) ++ [low c], false) := by
  have h1 : (isU c || isL c) = true := by unfold isU isL; simp; omega
  unfold nst; rw [if_neg (ne32 (by omega)), if_pos h1]
theorem low_up {c : UInt8} (h : 65 ≤ (c.toNat : Int) ∧ (c.toNat : Int) ≤ 90) : ((low c).toNat : Int) = (c.toNat : Int) + 32 := by
  have h1 : isU c = true := by unfold isU; simp; omega
  unfold low; rw [if_pos h1, UInt8.toNat_add]
  show (((c.toNat + 32) % 256 : Nat) : Int) = _
  omega
theorem low_not {c : UInt8} (h : ¬ (65 ≤ (c.toNat : Int) ∧ (c.toNat : Int) ≤ 90)) : low c = c := by
  have h1 : isU c = false := by unfold isU; simp; omega
  unfold low; rw [h1]; simp
end Rs
/-- A row of bytes of the function's own. -/
def RowB (base : Nat) (l : List UInt8) (w : World) (v : Value) : Prop := w.ownsRow base 5 1 v l.length ((Rs.bI l).map (Value.int .u8))
theorem RowB.cells {base : Nat} {l : List UInt8} {w : World} {v : Value} (h : RowB base l w v) : ∃ A c, v = .slice A l.length c ∧ (A = none ∧ l = [] ∨ ∃ g, A = some ⟨g, 0, none⟩ ∧ ∀ j (hj : j < l.length), w.cell? ⟨g, j, none⟩ = some (.int .u8 (l[j].toNat : Int))) := by
  rcases h.2 with ⟨rfl, hz⟩ | ⟨g, cap, cur, rfl, hbase, hg, r1, r2, r3, r4⟩
  · have : l = [] := List.eq_nil_of_length_eq_zero hz
    subst this
    exact ⟨none, 0, rfl, Or.inl ⟨rfl, rfl⟩⟩
  · refine ⟨_, cap, rfl, Or.inr ⟨g, rfl, fun j hj => ?_⟩⟩
    have h6 := cell_of_row w g j cur 5 (0, 0) hg
    rw [h6]
    have h7 : (cur.toList.take (l.length * 1))[j]? = ((Rs.bI l).map (Value.int .u8))[j]? := by rw [r4]
    rw [List.getElem?_take_of_lt (by omega)] at h7
    have h8 : cur.toList[j]? = cur[j]? := by simp
    rw [← h8, h7]
    unfold Rs.bI
    rw [List.getElem?_map, List.getElem?_map, List.getElem?_eq_getElem hj]
    rfl
theorem conv_nil (w : World) : (convert 113 9 (.slice none 0 0)).run Tryz.prog w = .ok (.string ⟨#[]⟩) w := by
  rw [run_convert_bytes_string w 113 9 5 none 0 0 Tryz.underlying113 Tryz.underlying5 Tryz.underlying9]
  rfl
theorem conv_row {base : Nat} {l : List UInt8} {w : World} {v : Value} (h : RowB base l w v) : (convert 113 9 v).run Tryz.prog w = .ok (.string ⟨l.toArray⟩) w := by
  obtain ⟨A, c, rfl, h | ⟨g, rfl, hc⟩⟩ := h.cells
  · obtain ⟨rfl, rfl⟩ := h
    rw [run_convert_bytes_string w 113 9 5 none _ c Tryz.underlying113 Tryz.underlying5 Tryz.underlying9]
    rfl
  · refine run_convert_bytes_back _ _ _ 5 _ _ _ Tryz.underlying113 Tryz.underlying5 Tryz.underlying9 (fun j hj => ?_)
    rw [add_plain, Nat.zero_add]
    exact hc j hj
set_option maxRecDepth 100000 in
set_option maxHeartbeats 6400000 in
theorem normal_any (s : ByteArray) (w : World) (hs : s.size ≤ 200) :
    Calls Tryz.prog 54 #[.string s] w fun e w' => e = .returned (.string ⟨(Rs.norm s).toArray⟩) ∧ Ext w w' := by
  obtain ⟨i0, hi0, hz0, hz1, hz2⟩ := info_parts Tryz.infoU8
  obtain ⟨B, hB⟩ : ∃ B, s.data.toList = B := ⟨_, rfl⟩
  have hBl : B.length = s.size := by rw [← hB]; rfl
  have HV : Hid (Rs.norm s = (Rs.nfold B).1) := Lib.hid (by unfold Rs.norm; rw [hB])
  obtain ⟨v, hv⟩ : ∃ v, Rs.norm s = v := ⟨_, rfl⟩
  rw [hv] at HV ⊢
  have HB := Lib.hid hB
  have HBL := Lib.hid hBl
  clear hB hBl hv
  go_enter Tryz.func54, Tryz.ntmps54
  go_wp2
  go_loopw [9, 3, 4] (fun i b q wr => ∃ (k : Nat) (st : List UInt8 × Bool), k ≤ s.size ∧ i = .int .i64 k ∧ q = .bool st.2 ∧ Hid (Rs.nfold (B.take k) = st) ∧ Hid (RowB w.heap.size st.1 wr b) ∧ Hid (Ext w wr)) (fun i _ _ _ => s.size - (intOf i).toNat)
  case atStart => exact ⟨0, ([], false), by omega, rfl, rfl, Lib.hid rfl, Lib.hid (own_nil _ _ _ _), Lib.hid (Ext.refl _)⟩
  case round =>
    obtain ⟨k, ⟨ys, q⟩, hk, rfl, rfl, HS, HR, HE⟩ := hrel
    dsimp only at HR ⊢
    have hyl : ys.length ≤ 400 := by
      have h1 := Rs.nfold_len (B.take k)
      rw [HS.out] at h1
      have h2 : (B.take k).length ≤ s.size := by rw [List.length_take, HBL.out]; omega
      dsimp only at h1
      omega
    by_cases hlt : k < s.size
    · have hx : B[k]? = some s[k] := by rw [← HB.out]; exact List.getElem?_eq_getElem (by simpa using hlt)
      have HN := Lib.hid (Rs.nfold_next hx)
      obtain ⟨x, hxx⟩ : ∃ x, s[k] = x := ⟨_, rfl⟩
      rw [hxx] at HN
      have HX := Lib.hid hxx
      rw [HS.out] at HN
      obtain ⟨y, hy⟩ : ∃ y : Int, (x.toNat : Int) = y := ⟨_, rfl⟩
      have hy0 : 0 ≤ y ∧ y ≤ 255 := by have := x.toNat_lt; omega
      have hsk : (s[k].toNat : Int) = y := by rw [hxx, hy]
      have HY := Lib.hid hy
      clear hx hxx hy
      obtain ⟨A, c, rfl⟩ := own_form HR.out
      obtain ⟨n, hn⟩ : ∃ n, ys.length = n := ⟨_, rfl⟩
      have HO : Hid (wr.ownsRow w.heap.size 5 1 (.slice A n c) n ((Rs.bI ys).map (Value.int .u8))) := Lib.hid (by rw [← hn]; exact HR.out)
      have hbs : w.heap.size ≤ wr.heap.size := HE.out.size
      rw [hn] at hyl HR ⊢
      have HNN := Lib.hid hn
      clear hn
      rcases (show y = 32 ∨ (65 ≤ y ∧ y ≤ 90) ∨ (97 ≤ y ∧ y ≤ 122) ∨ (48 ≤ y ∧ y ≤ 57) ∨ (y ≠ 32 ∧ (y < 48 ∨ (57 < y ∧ y < 65) ∨ (90 < y ∧ y < 97) ∨ 122 < y)) by omega) with h1 | ⟨h1, h2⟩ | ⟨h1, h2⟩ | ⟨h1, h2⟩ | ⟨h1, h2⟩
      · have HS2 : Hid (Rs.nfold (B.take (k + 1)) = (ys, decide (ys ≠ []))) := Lib.hid (by rw [HN.out, Rs.nst_blank (by rw [HY.out]; exact h1)])
        have HQ : Hid (decide (0 < n) = decide (ys ≠ [])) := Lib.hid (by rw [decide_eq_decide, ← HNN.out]; exact List.length_pos_iff)
        go_wp2
        go_roundw
        case rel => exact ⟨k + 1, (ys, decide (ys ≠ [])), by omega, by go_num, by first | rfl | exact congrArg Value.bool HQ.out, HS2, by show Hid (RowB _ ys _ _); exact HR, HE⟩
        case measure => simp [intOf]; omega
      · have HL : Hid (((Rs.low x).toNat : Int) = (y + 32)) := Lib.hid (by rw [Rs.low_up (by rw [HY.out]; omega), HY.out])
        have hw8 : (y + 32) % 256 = y + 32 := by omega
        cases q with
        | false =>
          have HS2 : Hid (Rs.nfold (B.take (k + 1)) = (ys ++ [Rs.low x], false)) := Lib.hid (by rw [HN.out, Rs.nst_in (by rw [HY.out]; omega)]; simp)
          go_wp2_with (at_builtin; refine wpList_append_lies _ rfl _ _ 113 rfl w.heap.size 5 i0 (.int .u8 0) 1 1 Tryz.underlying113 hi0 hz0 hz1 hz2 rfl (by decide) _ _ _ rfl (HO.out.alloc _) ⟨wr.heap.size, 0, none⟩ 1 1 [.int .u8 (y + 32)] rfl rfl (cell_one_new _ _ _) (by simp [Value.oneCell']) (by decide) (by unfold maxLen; omega) (by omega) (by simp; omega) (wr.heap.size + 1) (by simp) ?_; intro gg cap w2 hown2 hgrow2 hat hlt2)
          have HR2 : Hid (RowB w.heap.size (ys ++ [Rs.low x]) w2 (.slice (some ⟨gg, 0, none⟩) (n + 1) cap)) := Lib.hid (by unfold RowB; rw [Rs.bI_snoc, HL.out, List.length_append, HNN.out, List.map_append]; exact hown2)
          have HE2 := Lib.hid ((HE.out.alloc (.cells #[.int .u8 (y + 32)] 5)).grown hgrow2 (fun q hq => own_ge HO.out q hq))
          clear hown2 hgrow2 hat
          go_wp2
          go_roundw
          case rel => exact ⟨k + 1, (ys ++ [Rs.low x], false), by omega, by go_num, rfl, HS2, HR2, HE2⟩
          case measure => simp [intOf]; omega
        | true =>
          have HS2 : Hid (Rs.nfold (B.take (k + 1)) = (ys ++ [32] ++ [Rs.low x], false)) := Lib.hid (by rw [HN.out, Rs.nst_in (by rw [HY.out]; omega)]; simp)
          go_wp2_with (at_builtin; first
            | (refine wpList_append_lies _ rfl _ _ 113 rfl w.heap.size 5 i0 (.int .u8 0) 1 1 Tryz.underlying113 hi0 hz0 hz1 hz2 rfl (by decide) _ _ _ rfl (HO2.out.alloc _) ⟨w2.heap.size, 0, none⟩ 1 1 [.int .u8 (y + 32)] rfl rfl (cell_one_new _ _ _) (by simp [Value.oneCell']) (by decide) (by unfold maxLen; omega) (by omega) (by simp; omega) (w2.heap.size + 1) (by simp) ?_; intro gg3 cap3 w3 hown3 hgrow3 hat3 hlt3)
            | (refine wpList_append_lies _ rfl _ _ 113 rfl w.heap.size 5 i0 (.int .u8 0) 1 1 Tryz.underlying113 hi0 hz0 hz1 hz2 rfl (by decide) _ _ _ rfl (HO.out.alloc _) ⟨wr.heap.size, 0, none⟩ 1 1 [.int .u8 32] rfl rfl (cell_one_new _ _ _) (by simp [Value.oneCell']) (by decide) (by unfold maxLen; omega) (by omega) (by simp; omega) (wr.heap.size + 1) (by simp) ?_; intro gg cap w2 hown2 hgrow2 hat hlt2; have HO2 : Hid (w2.ownsRow w.heap.size 5 1 (.slice (some ⟨gg, 0, none⟩) (n + 1) cap) (n + 1) ((Rs.bI (ys ++ [32])).map (Value.int .u8))) := Lib.hid (by rw [Rs.bI_snoc, List.map_append]; exact hown2); have HE2 := Lib.hid ((HE.out.alloc (.cells #[.int .u8 32] 5)).grown hgrow2 (fun q hq => own_ge HO.out q hq)); clear hown2 hgrow2 hat; have hb2 := HE2.out.size))
          have HR3 : Hid (RowB w.heap.size (ys ++ [32] ++ [Rs.low x]) w3 (.slice (some ⟨gg3, 0, none⟩) (n + 1 + 1) cap3)) := Lib.hid (by unfold RowB; rw [Rs.bI_snoc, HL.out, List.length_append, List.length_append, HNN.out, List.map_append]; exact hown3)
          have HE3 := Lib.hid ((HE2.out.alloc (.cells #[.int .u8 (y + 32)] 5)).grown hgrow3 (fun q hq => own_ge HO2.out q hq))
          clear hown3 hgrow3 hat3
          go_wp2
          go_roundw
          case rel => exact ⟨k + 1, (ys ++ [32] ++ [Rs.low x], false), by omega, by go_num, rfl, HS2, HR3, HE3⟩
          case measure => simp [intOf]; omega
      · have HL : Hid (((Rs.low x).toNat : Int) = y) := Lib.hid (by rw [Rs.low_not (by rw [HY.out]; omega), HY.out])
        cases q with
        | false =>
          have HS2 : Hid (Rs.nfold (B.take (k + 1)) = (ys ++ [Rs.low x], false)) := Lib.hid (by rw [HN.out, Rs.nst_in (by rw [HY.out]; omega)]; simp)
          go_wp2_with (at_builtin; refine wpList_append_lies _ rfl _ _ 113 rfl w.heap.size 5 i0 (.int .u8 0) 1 1 Tryz.underlying113 hi0 hz0 hz1 hz2 rfl (by decide) _ _ _ rfl (HO.out.alloc _) ⟨wr.heap.size, 0, none⟩ 1 1 [.int .u8 y] rfl rfl (cell_one_new _ _ _) (by simp [Value.oneCell']) (by decide) (by unfold maxLen; omega) (by omega) (by simp; omega) (wr.heap.size + 1) (by simp) ?_; intro gg cap w2 hown2 hgrow2 hat hlt2)
          have HR2 : Hid (RowB w.heap.size (ys ++ [Rs.low x]) w2 (.slice (some ⟨gg, 0, none⟩) (n + 1) cap)) := Lib.hid (by unfold RowB; rw [Rs.bI_snoc, HL.out, List.length_append, HNN.out, List.map_append]; exact hown2)
          have HE2 := Lib.hid ((HE.out.alloc (.cells #[.int .u8 y] 5)).grown hgrow2 (fun q hq => own_ge HO.out q hq))
          clear hown2 hgrow2 hat
          go_wp2
          go_roundw
          case rel => exact ⟨k + 1, (ys ++ [Rs.low x], false), by omega, by go_num, rfl, HS2, HR2, HE2⟩
          case measure => simp [intOf]; omega
        | true =>
          have HS2 : Hid (Rs.nfold (B.take (k + 1)) = (ys ++ [32] ++ [Rs.low x], false)) := Lib.hid (by rw [HN.out, Rs.nst_in (by rw [HY.out]; omega)]; simp)
          go_wp2_with (at_builtin; first
            | (refine wpList_append_lies _ rfl _ _ 113 rfl w.heap.size 5 i0 (.int .u8 0) 1 1 Tryz.underlying113 hi0 hz0 hz1 hz2 rfl (by decide) _ _ _ rfl (HO2.out.alloc _) ⟨w2.heap.size, 0, none⟩ 1 1 [.int .u8 y] rfl rfl (cell_one_new _ _ _) (by simp [Value.oneCell']) (by decide) (by unfold maxLen; omega) (by omega) (by simp; omega) (w2.heap.size + 1) (by simp) ?_; intro gg3 cap3 w3 hown3 hgrow3 hat3 hlt3)
            | (refine wpList_append_lies _ rfl _ _ 113 rfl w.heap.size 5 i0 (.int .u8 0) 1 1 Tryz.underlying113 hi0 hz0 hz1 hz2 rfl (by decide) _ _ _ rfl (HO.out.alloc _) ⟨wr.heap.size, 0, none⟩ 1 1 [.int .u8 32] rfl rfl (cell_one_new _ _ _) (by simp [Value.oneCell']) (by decide) (by unfold maxLen; omega) (by omega) (by simp; omega) (wr.heap.size + 1) (by simp) ?_; intro gg cap w2 hown2 hgrow2 hat hlt2; have HO2 : Hid (w2.ownsRow w.heap.size 5 1 (.slice (some ⟨gg, 0, none⟩) (n + 1) cap) (n + 1) ((Rs.bI (ys ++ [32])).map (Value.int .u8))) := Lib.hid (by rw [Rs.bI_snoc, List.map_append]; exact hown2); have HE2 := Lib.hid ((HE.out.alloc (.cells #[.int .u8 32] 5)).grown hgrow2 (fun q hq => own_ge HO.out q hq)); clear hown2 hgrow2 hat; have hb2 := HE2.out.size))
          have HR3 : Hid (RowB w.heap.size (ys ++ [32] ++ [Rs.low x]) w3 (.slice (some ⟨gg3, 0, none⟩) (n + 1 + 1) cap3)) := Lib.hid (by unfold RowB; rw [Rs.bI_snoc, HL.out, List.length_append, List.length_append, HNN.out, List.map_append]; exact hown3)
          have HE3 := Lib.hid ((HE2.out.alloc (.cells #[.int .u8 y] 5)).grown hgrow3 (fun q hq => own_ge HO2.out q hq))
          clear hown3 hgrow3 hat3
          go_wp2
          go_roundw
          case rel => exact ⟨k + 1, (ys ++ [32] ++ [Rs.low x], false), by omega, by go_num, rfl, HS2, HR3, HE3⟩
          case measure => simp [intOf]; omega
      · have HL : Hid (((Rs.low x).toNat : Int) = y) := Lib.hid (by rw [Rs.low_not (by rw [HY.out]; omega), HY.out])
        cases q with
        | false =>
          have HS2 : Hid (Rs.nfold (B.take (k + 1)) = (ys ++ [Rs.low x], false)) := Lib.hid (by rw [HN.out, Rs.nst_in (by rw [HY.out]; omega)]; simp)
          go_wp2_with (at_builtin; refine wpList_append_lies _ rfl _ _ 113 rfl w.heap.size 5 i0 (.int .u8 0) 1 1 Tryz.underlying113 hi0 hz0 hz1 hz2 rfl (by decide) _ _ _ rfl (HO.out.alloc _) ⟨wr.heap.size, 0, none⟩ 1 1 [.int .u8 y] rfl rfl (cell_one_new _ _ _) (by simp [Value.oneCell']) (by decide) (by unfold maxLen; omega) (by omega) (by simp; omega) (wr.heap.size + 1) (by simp) ?_; intro gg cap w2 hown2 hgrow2 hat hlt2)
          have HR2 : Hid (RowB w.heap.size (ys ++ [Rs.low x]) w2 (.slice (some ⟨gg, 0, none⟩) (n + 1) cap)) := Lib.hid (by unfold RowB; rw [Rs.bI_snoc, HL.out, List.length_append, HNN.out, List.map_append]; exact hown2)
          have HE2 := Lib.hid ((HE.out.alloc (.cells #[.int .u8 y] 5)).grown hgrow2 (fun q hq => own_ge HO.out q hq))
          clear hown2 hgrow2 hat
          go_wp2
          go_roundw
          case rel => exact ⟨k + 1, (ys ++ [Rs.low x], false), by omega, by go_num, rfl, HS2, HR2, HE2⟩
          case measure => simp [intOf]; omega
        | true =>
          have HS2 : Hid (Rs.nfold (B.take (k + 1)) = (ys ++ [32] ++ [Rs.low x], false)) := Lib.hid (by rw [HN.out, Rs.nst_in (by rw [HY.out]; omega)]; simp)
          go_wp2_with (at_builtin; first
            | (refine wpList_append_lies _ rfl _ _ 113 rfl w.heap.size 5 i0 (.int .u8 0) 1 1 Tryz.underlying113 hi0 hz0 hz1 hz2 rfl (by decide) _ _ _ rfl (HO2.out.alloc _) ⟨w2.heap.size, 0, none⟩ 1 1 [.int .u8 y] rfl rfl (cell_one_new _ _ _) (by simp [Value.oneCell']) (by decide) (by unfold maxLen; omega) (by omega) (by simp; omega) (w2.heap.size + 1) (by simp) ?_; intro gg3 cap3 w3 hown3 hgrow3 hat3 hlt3)
            | (refine wpList_append_lies _ rfl _ _ 113 rfl w.heap.size 5 i0 (.int .u8 0) 1 1 Tryz.underlying113 hi0 hz0 hz1 hz2 rfl (by decide) _ _ _ rfl (HO.out.alloc _) ⟨wr.heap.size, 0, none⟩ 1 1 [.int .u8 32] rfl rfl (cell_one_new _ _ _) (by simp [Value.oneCell']) (by decide) (by unfold maxLen; omega) (by omega) (by simp; omega) (wr.heap.size + 1) (by simp) ?_; intro gg cap w2 hown2 hgrow2 hat hlt2; have HO2 : Hid (w2.ownsRow w.heap.size 5 1 (.slice (some ⟨gg, 0, none⟩) (n + 1) cap) (n + 1) ((Rs.bI (ys ++ [32])).map (Value.int .u8))) := Lib.hid (by rw [Rs.bI_snoc, List.map_append]; exact hown2); have HE2 := Lib.hid ((HE.out.alloc (.cells #[.int .u8 32] 5)).grown hgrow2 (fun q hq => own_ge HO.out q hq)); clear hown2 hgrow2 hat; have hb2 := HE2.out.size))
          have HR3 : Hid (RowB w.heap.size (ys ++ [32] ++ [Rs.low x]) w3 (.slice (some ⟨gg3, 0, none⟩) (n + 1 + 1) cap3)) := Lib.hid (by unfold RowB; rw [Rs.bI_snoc, HL.out, List.length_append, List.length_append, HNN.out, List.map_append]; exact hown3)
          have HE3 := Lib.hid ((HE2.out.alloc (.cells #[.int .u8 y] 5)).grown hgrow3 (fun q hq => own_ge HO2.out q hq))
          clear hown3 hgrow3 hat3
          go_wp2
          go_roundw
          case rel => exact ⟨k + 1, (ys ++ [32] ++ [Rs.low x], false), by omega, by go_num, rfl, HS2, HR3, HE3⟩
          case measure => simp [intOf]; omega
      · have HS2 : Hid (Rs.nfold (B.take (k + 1)) = (ys, q)) := Lib.hid (by rw [HN.out, Rs.nst_out (by rw [HY.out]; omega) (by rw [HY.out]; omega) (by rw [HY.out]; omega) (by rw [HY.out]; omega)])
        rcases h2 with h2 | ⟨h2, h3⟩ | ⟨h2, h3⟩ | h2
        all_goals
          go_wp2
          go_roundw
          case rel => exact ⟨k + 1, (ys, q), by omega, by go_num, rfl, HS2, HR, HE⟩
          case measure => simp [intOf]; omega
    · obtain rfl : k = s.size := by omega
      have HF : Hid (ys = v) := Lib.hid (by
        rw [HV.out]
        have h1 := HS.out
        rw [← HBL.out, List.take_length] at h1
        rw [h1])
      have hconv := conv_row HR.out
      rw [HF.out] at hconv
      go_wp2
      go_ret
      exact ⟨rfl, HE.out⟩
end Go.Proofs.YtgaepmddbjdhfaaGreatDoor
namespace Go.Proofs.YtgaepmddbjdhfaaGreatDoor
open Go.ChangeShapes Go.WideShapes Go.ChangeAt Go.RowKit
theorem conv1 (c : UInt8) {y : Int} (hy : (c.toNat : Int) = y) (w : World) : (convert 113 9 (.slice (some ⟨w.heap.size, 0, none⟩) 1 1)).run Tryz.prog (w.alloc (.cells #[.int .u8 y] 5)) = .ok (.string ⟨#[c]⟩) (w.alloc (.cells #[.int .u8 y] 5)) := by
  refine run_convert_bytes_back (l := [c]) _ _ _ 5 _ _ Tryz.underlying113 Tryz.underlying5 Tryz.underlying9 (fun j hj => ?_)
  obtain rfl : j = 0 := by simp at hj; omega
  rw [add_plain]
  rw [World.cell?_alloc_new]
  simp [hy]
namespace Rs
theorem app_list (a b : ByteArray) : (a ++ b).data.toList = a.data.toList ++ b.data.toList := by
  rw [ByteArray.data_append, Array.toList_append]
theorem size_list (a : ByteArray) : a.size = a.data.toList.length := rfl
theorem empty_list {a : ByteArray} (h : a.data.toList = []) : a.toList = [] := str_empty (by rw [size_list, h]; rfl)
theorem some_list {a : ByteArray} (h : a.data.toList ≠ []) : a.toList.isEmpty = false ∧ ¬ a.toList = [] := str_some (by rw [size_list]; exact List.length_pos_iff.2 h)
end Rs
set_option maxRecDepth 100000 in
set_option maxHeartbeats 6400000 in
theorem rnormal_any (s : ByteArray) (w : World) (hs : s.size ≤ 200) :
    Calls Tryz.prog 60 #[.string s] w fun e w' => (∃ o : ByteArray, e = .returned (.string o) ∧ o.data.toList = Rs.norm s) ∧ Ext w w' := by
  obtain ⟨B, hB⟩ : ∃ B, s.data.toList = B := ⟨_, rfl⟩
  have hBl : B.length = s.size := by rw [← hB]; rfl
  have HV : Hid (Rs.norm s = (Rs.nfold B).1) := Lib.hid (by unfold Rs.norm; rw [hB])
  obtain ⟨v, hv⟩ : ∃ v, Rs.norm s = v := ⟨_, rfl⟩
  rw [hv] at HV ⊢
  have HB := Lib.hid hB
  have HBL := Lib.hid hBl
  clear hB hBl hv
  go_enter Tryz.func60, Tryz.ntmps60
  go_wp2
  go_loopw [5, 3, 4] (fun i b q wr => ∃ (k : Nat) (o : ByteArray) (r : Bool), k ≤ s.size ∧ i = .int .i64 k ∧ b = .string o ∧ q = .bool r ∧ o.size ≤ 400 ∧ Hid (Rs.nfold (B.take k) = (o.data.toList, r && decide (o.data.toList ≠ []))) ∧ Hid (Ext w wr)) (fun i _ _ _ => s.size - (intOf i).toNat)
  case atStart => exact ⟨0, ⟨#[]⟩, false, by omega, rfl, rfl, rfl, by decide, Lib.hid rfl, Lib.hid (Ext.refl _)⟩
  case round =>
    obtain ⟨k, o, r, hk, rfl, rfl, rfl, hos, HS, HE⟩ := hrel
    by_cases hlt : k < s.size
    · have hx : B[k]? = some s[k] := by rw [← HB.out]; exact List.getElem?_eq_getElem (by simpa using hlt)
      have HN := Lib.hid (Rs.nfold_next hx)
      obtain ⟨x, hxx⟩ : ∃ x, s[k] = x := ⟨_, rfl⟩
      rw [hxx] at HN
      rw [HS.out] at HN
      obtain ⟨y, hy⟩ : ∃ y : Int, (x.toNat : Int) = y := ⟨_, rfl⟩
      have hy0 : 0 ≤ y ∧ y ≤ 255 := by have := x.toNat_lt; omega
      have hsk : (s[k].toNat : Int) = y := by rw [hxx, hy]
      have hyl : ∀ o' : ByteArray, Rs.nfold (B.take (k + 1)) = (o'.data.toList, false) → o'.size ≤ 400 := fun o' h => by
        have h1 := Rs.nfold_len (B.take (k + 1))
        rw [h] at h1
        have h2 : (B.take (k + 1)).length ≤ s.size := by rw [List.length_take, HBL.out]; omega
        rw [Rs.size_list]
        dsimp only at h1
        omega
      have HY := Lib.hid hy
      have HYL := Lib.hid hyl
      clear hx hxx hy hyl
      rcases (show y = 32 ∨ (65 ≤ y ∧ y ≤ 90) ∨ (97 ≤ y ∧ y ≤ 122) ∨ (48 ≤ y ∧ y ≤ 57) ∨ (y ≠ 32 ∧ (y < 48 ∨ (57 < y ∧ y < 65) ∨ (90 < y ∧ y < 97) ∨ 122 < y)) by omega) with h1 | ⟨h1, h2⟩ | ⟨h1, h2⟩ | ⟨h1, h2⟩ | ⟨h1, h2⟩
      · have HS2 : Hid (Rs.nfold (B.take (k + 1)) = (o.data.toList, true && decide (o.data.toList ≠ []))) := Lib.hid (by rw [HN.out, Rs.nst_blank (by rw [HY.out]; exact h1)]; rfl)
        go_wp2
        go_roundw
        case rel => exact ⟨k + 1, o, true, by omega, by go_num, rfl, rfl, hos, HS2, HE⟩
        case measure => simp [intOf]; omega
      · obtain ⟨z, hz⟩ : ∃ z, Rs.low x = z := ⟨_, rfl⟩
        have hzy : (z.toNat : Int) = (y + 32) := by rw [← hz]; exact (by rw [Rs.low_up (by rw [HY.out]; omega), HY.out])
        have HNI : Hid (Rs.nfold (B.take (k + 1)) = (o.data.toList ++ (if (r && decide (o.data.toList ≠ [])) = true then [32] else []) ++ [z], false)) := Lib.hid (by rw [HN.out, Rs.nst_in (by rw [HY.out]; omega), hz])
        have hconv := conv1 z hzy wr
        have HZ := Lib.hid hz
        clear hz hzy
        have hw8 : (y + 32) % 256 = y + 32 := by omega
        cases r with
        | false =>
          have HS2 : Hid (Rs.nfold (B.take (k + 1)) = ((o ++ ⟨#[z]⟩ : ByteArray).data.toList, false && decide ((o ++ ⟨#[z]⟩ : ByteArray).data.toList ≠ []))) := Lib.hid (by rw [HNI.out, Rs.app_list]; simp)
          have hos2 := HYL.out (o ++ ⟨#[z]⟩) HS2.out
          have hs1 : ¬ 9223372036854775807 < o.size + 1 := by omega
          go_wp2
          go_roundw
          case rel => exact ⟨k + 1, o ++ ⟨#[z]⟩, false, by omega, by go_num, by first | rfl | go_num, rfl, hos2, HS2, Lib.hid (HE.out.alloc _)⟩
          case measure => simp [intOf]; omega
        | true =>
          by_cases hne : o.data.toList = []
          · have ht1 := Rs.empty_list hne
            have HS2 : Hid (Rs.nfold (B.take (k + 1)) = ((o ++ ⟨#[z]⟩ : ByteArray).data.toList, false && decide ((o ++ ⟨#[z]⟩ : ByteArray).data.toList ≠ []))) := Lib.hid (by rw [HNI.out, Rs.app_list]; rw [hne]; rfl)
            have hos2 := HYL.out (o ++ ⟨#[z]⟩) HS2.out
            have hs1 : ¬ 9223372036854775807 < o.size + 1 := by omega
            go_wp2
            go_roundw
            case rel => exact ⟨k + 1, o ++ ⟨#[z]⟩, false, by omega, by go_num, by first | rfl | go_num, rfl, hos2, HS2, Lib.hid (HE.out.alloc _)⟩
            case measure => simp [intOf]; omega
          · obtain ⟨ht1, ht2⟩ := Rs.some_list hne
            have HS2 : Hid (Rs.nfold (B.take (k + 1)) = ((o ++ ⟨#[32]⟩ ++ ⟨#[z]⟩ : ByteArray).data.toList, false && decide ((o ++ ⟨#[32]⟩ ++ ⟨#[z]⟩ : ByteArray).data.toList ≠ []))) := Lib.hid (by rw [HNI.out, Rs.app_list, Rs.app_list, if_pos (by simpa using hne)]; rfl)
            have hos2 := HYL.out (o ++ ⟨#[32]⟩ ++ ⟨#[z]⟩) HS2.out
            have hs1 : ¬ 9223372036854775807 < o.size + 1 := by omega
            have hs2 : ¬ 9223372036854775807 < (o ++ ⟨#[32]⟩ : ByteArray).size + 1 := by rw [ByteArray.size_append]; show ¬ _ < o.size + 1 + 1; omega
            have hs3 : ¬ 9223372036854775807 < o.size + 1 + 1 := by omega
            go_wp2
            go_roundw
            case rel => exact ⟨k + 1, o ++ ⟨#[32]⟩ ++ ⟨#[z]⟩, false, by omega, by go_num, by first | rfl | go_num, rfl, hos2, HS2, Lib.hid (HE.out.alloc _)⟩
            case measure => simp [intOf]; omega
      · obtain ⟨z, hz⟩ : ∃ z, Rs.low x = z := ⟨_, rfl⟩
        have hzy : (z.toNat : Int) = y := by rw [← hz]; exact (by rw [Rs.low_not (by rw [HY.out]; omega), HY.out])
        have HNI : Hid (Rs.nfold (B.take (k + 1)) = (o.data.toList ++ (if (r && decide (o.data.toList ≠ [])) = true then [32] else []) ++ [z], false)) := Lib.hid (by rw [HN.out, Rs.nst_in (by rw [HY.out]; omega), hz])
        have hconv := conv1 z hzy wr
        have HZ := Lib.hid hz
        clear hz hzy
        cases r with
        | false =>
          have HS2 : Hid (Rs.nfold (B.take (k + 1)) = ((o ++ ⟨#[z]⟩ : ByteArray).data.toList, false && decide ((o ++ ⟨#[z]⟩ : ByteArray).data.toList ≠ []))) := Lib.hid (by rw [HNI.out, Rs.app_list]; simp)
          have hos2 := HYL.out (o ++ ⟨#[z]⟩) HS2.out
          have hs1 : ¬ 9223372036854775807 < o.size + 1 := by omega
          go_wp2
          go_roundw
          case rel => exact ⟨k + 1, o ++ ⟨#[z]⟩, false, by omega, by go_num, by first | rfl | go_num, rfl, hos2, HS2, Lib.hid (HE.out.alloc _)⟩
          case measure => simp [intOf]; omega
        | true =>
          by_cases hne : o.data.toList = []
          · have ht1 := Rs.empty_list hne
            have HS2 : Hid (Rs.nfold (B.take (k + 1)) = ((o ++ ⟨#[z]⟩ : ByteArray).data.toList, false && decide ((o ++ ⟨#[z]⟩ : ByteArray).data.toList ≠ []))) := Lib.hid (by rw [HNI.out, Rs.app_list]; rw [hne]; rfl)
            have hos2 := HYL.out (o ++ ⟨#[z]⟩) HS2.out
            have hs1 : ¬ 9223372036854775807 < o.size + 1 := by omega
            go_wp2
            go_roundw
            case rel => exact ⟨k + 1, o ++ ⟨#[z]⟩, false, by omega, by go_num, by first | rfl | go_num, rfl, hos2, HS2, Lib.hid (HE.out.alloc _)⟩
            case measure => simp [intOf]; omega
          · obtain ⟨ht1, ht2⟩ := Rs.some_list hne
            have HS2 : Hid (Rs.nfold (B.take (k + 1)) = ((o ++ ⟨#[32]⟩ ++ ⟨#[z]⟩ : ByteArray).data.toList, false && decide ((o ++ ⟨#[32]⟩ ++ ⟨#[z]⟩ : ByteArray).data.toList ≠ []))) := Lib.hid (by rw [HNI.out, Rs.app_list, Rs.app_list, if_pos (by simpa using hne)]; rfl)
            have hos2 := HYL.out (o ++ ⟨#[32]⟩ ++ ⟨#[z]⟩) HS2.out
            have hs1 : ¬ 9223372036854775807 < o.size + 1 := by omega
            have hs2 : ¬ 9223372036854775807 < (o ++ ⟨#[32]⟩ : ByteArray).size + 1 := by rw [ByteArray.size_append]; show ¬ _ < o.size + 1 + 1; omega
            have hs3 : ¬ 9223372036854775807 < o.size + 1 + 1 := by omega
            go_wp2
            go_roundw
            case rel => exact ⟨k + 1, o ++ ⟨#[32]⟩ ++ ⟨#[z]⟩, false, by omega, by go_num, by first | rfl | go_num, rfl, hos2, HS2, Lib.hid (HE.out.alloc _)⟩
            case measure => simp [intOf]; omega
      · obtain ⟨z, hz⟩ : ∃ z, Rs.low x = z := ⟨_, rfl⟩
        have hzy : (z.toNat : Int) = y := by rw [← hz]; exact (by rw [Rs.low_not (by rw [HY.out]; omega), HY.out])
        have HNI : Hid (Rs.nfold (B.take (k + 1)) = (o.data.toList ++ (if (r && decide (o.data.toList ≠ [])) = true then [32] else []) ++ [z], false)) := Lib.hid (by rw [HN.out, Rs.nst_in (by rw [HY.out]; omega), hz])
        have hconv := conv1 z hzy wr
        have HZ := Lib.hid hz
        clear hz hzy
        cases r with
        | false =>
          have HS2 : Hid (Rs.nfold (B.take (k + 1)) = ((o ++ ⟨#[z]⟩ : ByteArray).data.toList, false && decide ((o ++ ⟨#[z]⟩ : ByteArray).data.toList ≠ []))) := Lib.hid (by rw [HNI.out, Rs.app_list]; simp)
          have hos2 := HYL.out (o ++ ⟨#[z]⟩) HS2.out
          have hs1 : ¬ 9223372036854775807 < o.size + 1 := by omega
          go_wp2
          go_roundw
          case rel => exact ⟨k + 1, o ++ ⟨#[z]⟩, false, by omega, by go_num, by first | rfl | go_num, rfl, hos2, HS2, Lib.hid (HE.out.alloc _)⟩
          case measure => simp [intOf]; omega
        | true =>
          by_cases hne : o.data.toList = []
          · have ht1 := Rs.empty_list hne
            have HS2 : Hid (Rs.nfold (B.take (k + 1)) = ((o ++ ⟨#[z]⟩ : ByteArray).data.toList, false && decide ((o ++ ⟨#[z]⟩ : ByteArray).data.toList ≠ []))) := Lib.hid (by rw [HNI.out, Rs.app_list]; rw [hne]; rfl)
            have hos2 := HYL.out (o ++ ⟨#[z]⟩) HS2.out
            have hs1 : ¬ 9223372036854775807 < o.size + 1 := by omega
            go_wp2
            go_roundw
            case rel => exact ⟨k + 1, o ++ ⟨#[z]⟩, false, by omega, by go_num, by first | rfl | go_num, rfl, hos2, HS2, Lib.hid (HE.out.alloc _)⟩
            case measure => simp [intOf]; omega
          · obtain ⟨ht1, ht2⟩ := Rs.some_list hne
            have HS2 : Hid (Rs.nfold (B.take (k + 1)) = ((o ++ ⟨#[32]⟩ ++ ⟨#[z]⟩ : ByteArray).data.toList, false && decide ((o ++ ⟨#[32]⟩ ++ ⟨#[z]⟩ : ByteArray).data.toList ≠ []))) := Lib.hid (by rw [HNI.out, Rs.app_list, Rs.app_list, if_pos (by simpa using hne)]; rfl)
            have hos2 := HYL.out (o ++ ⟨#[32]⟩ ++ ⟨#[z]⟩) HS2.out
            have hs1 : ¬ 9223372036854775807 < o.size + 1 := by omega
            have hs2 : ¬ 9223372036854775807 < (o ++ ⟨#[32]⟩ : ByteArray).size + 1 := by rw [ByteArray.size_append]; show ¬ _ < o.size + 1 + 1; omega
            have hs3 : ¬ 9223372036854775807 < o.size + 1 + 1 := by omega
            go_wp2
            go_roundw
            case rel => exact ⟨k + 1, o ++ ⟨#[32]⟩ ++ ⟨#[z]⟩, false, by omega, by go_num, by first | rfl | go_num, rfl, hos2, HS2, Lib.hid (HE.out.alloc _)⟩
            case measure => simp [intOf]; omega
      · have HS2 : Hid (Rs.nfold (B.take (k + 1)) = (o.data.toList, r && decide (o.data.toList ≠ []))) := Lib.hid (by rw [HN.out, Rs.nst_out (by rw [HY.out]; omega) (by rw [HY.out]; omega) (by rw [HY.out]; omega) (by rw [HY.out]; omega)])
        rcases h2 with h2 | ⟨h2, h3⟩ | ⟨h2, h3⟩ | h2
        all_goals
          go_wp2
          go_roundw
          case rel => exact ⟨k + 1, o, r, by omega, by go_num, rfl, rfl, hos, HS2, HE⟩
          case measure => simp [intOf]; omega
    · obtain rfl : k = s.size := by omega
      have HF : Hid (o.data.toList = v) := Lib.hid (by
        rw [HV.out]
        have h1 := HS.out
        rw [← HBL.out, List.take_length] at h1
        rw [h1])
      go_wp2
      go_ret
      exact ⟨⟨o, rfl, HF.out⟩, HE.out⟩
end Go.Proofs.YtgaepmddbjdhfaaGreatDoor
namespace Go.Proofs.YtgaepmddbjdhfaaGreatDoor
open Go.RowKit

/-- What a node says. -/
inductive Nd where
  | mk (tag kind n : Int) (s : ByteArray) (kids : List Nd) : Nd
instance : Inhabited Nd := ⟨.mk 0 0 0 ⟨#[]⟩ []⟩
def Nd.tag : Nd → Int | .mk t _ _ _ _ => t
def Nd.kind : Nd → Int | .mk _ k _ _ _ => k
def Nd.n : Nd → Int | .mk _ _ n _ _ => n
def Nd.s : Nd → ByteArray | .mk _ _ _ s _ => s
def Nd.kids : Nd → List Nd | .mk _ _ _ _ l => l
/-- A node's cells; its children lie at L. -/
def ndc (x : Nd) (L : Option Addr × Nat) : List Value := [.int .i64 x.tag, .int .i64 x.kind, .int .i64 x.n, .string x.s, .slice L.1 x.kids.length L.2]
/-- A node as a value. -/
def nda (x : Nd) (L : Option Addr × Nat) : Value := .agg #[.int .i64 x.tag, .int .i64 x.kind, .int .i64 x.n, .string x.s, .slice L.1 x.kids.length L.2]
/-- Children ks, d levels deep at most, lie at L, in blocks from lo on; no list is longer than B. -/
def KidsAt (B lo : Nat) : Nat → World → Option Addr × Nat → List Nd → Prop
  | 0, _, L, ks => ks = [] ∧ L.2 ≤ maxLen
  | d + 1, w, L, ks => ks.length ≤ B ∧ ks.length ≤ L.2 ∧ L.2 ≤ maxLen ∧ (ks = [] ∨ ∃ (b off : Nat) (Ls : List (Option Addr × Nat)), L.1 = some ⟨b, off, none⟩ ∧ lo ≤ b ∧ b < w.heap.size ∧ Ls.length = ks.length ∧
      ∀ i x M, ks[i]? = some x → Ls[i]? = some M → (∀ j v, (ndc x M)[j]? = some v → w.cell? ⟨b, off + (i * 5 + j), none⟩ = some v) ∧ KidsAt B lo d w M x.kids)
theorem KidsAt.ext {B lo : Nat} : ∀ {d : Nat} {w w' : World} {L : Option Addr × Nat} {ks : List Nd}, KidsAt B lo d w L ks → Ext w w' → KidsAt B lo d w' L ks
  | 0, _, _, _, _, h, _ => h
  | d + 1, w, w', L, ks, ⟨h1, h2, h3, h⟩, he => by
    refine ⟨h1, h2, h3, ?_⟩
    rcases h with h | ⟨b, off, Ls, e, hl, hb, hL, hc⟩
    · exact Or.inl h
    · exact Or.inr ⟨b, off, Ls, e, hl, Nat.lt_of_lt_of_le hb he.size, hL, fun i x M hx hM => ⟨fun j v hv => he.keep ((hc i x M hx hM).1 j v hv), (hc i x M hx hM).2.ext he⟩⟩
theorem KidsAt.setCell {B lo : Nat} : ∀ {d : Nat} {w : World} {L : Option Addr × Nat} {ks : List Nd} {p : Addr} {v : Value}, KidsAt B lo d w L ks → p.block < lo → KidsAt B lo d (w.setCell p v) L ks
  | 0, _, _, _, _, _, h, _ => h
  | d + 1, w, L, ks, p, v, ⟨h1, h2, h3, h⟩, hp => by
    refine ⟨h1, h2, h3, ?_⟩
    rcases h with h | ⟨b, off, Ls, e, hl, hb, hL, hc⟩
    · exact Or.inl h
    · refine Or.inr ⟨b, off, Ls, e, hl, by simpa using hb, hL, fun i x M hx hM => ⟨fun j u hu => ?_, (hc i x M hx hM).2.setCell hp⟩⟩
      rw [World.cell?_of_block (w := w) (w' := w.setCell p v) (Below.heap_setCell _ _ _ _ (show b ≠ p.block by omega))]
      exact (hc i x M hx hM).1 j u hu
theorem KidsAt.lower {B lo lo' : Nat} (hlo : lo' ≤ lo) : ∀ {d : Nat} {w : World} {L : Option Addr × Nat} {ks : List Nd}, KidsAt B lo d w L ks → KidsAt B lo' d w L ks
  | 0, _, _, _, h => h
  | d + 1, w, L, ks, ⟨h1, h2, h3, h⟩ => by
    refine ⟨h1, h2, h3, ?_⟩
    rcases h with h | ⟨b, off, Ls, e, hl, hb, hL, hc⟩
    · exact Or.inl h
    · exact Or.inr ⟨b, off, Ls, e, Nat.le_trans hlo hl, hb, hL, fun i x M hx hM => ⟨(hc i x M hx hM).1, (hc i x M hx hM).2.lower hlo⟩⟩
theorem KidsAt.deeper {B lo : Nat} : ∀ {d : Nat} {w : World} {L : Option Addr × Nat} {ks : List Nd}, KidsAt B lo d w L ks → KidsAt B lo (d + 1) w L ks
  | 0, _, L, ks, ⟨h, hm⟩ => by subst h; exact ⟨Nat.zero_le _, Nat.zero_le _, hm, Or.inl rfl⟩
  | d + 1, w, L, ks, ⟨h1, h2, h3, h⟩ => by
    refine ⟨h1, h2, h3, ?_⟩
    rcases h with h | ⟨b, off, Ls, e, hl, hb, hL, hc⟩
    · exact Or.inl h
    · exact Or.inr ⟨b, off, Ls, e, hl, hb, hL, fun i x M hx hM => ⟨(hc i x M hx hM).1, (hc i x M hx hM).2.deeper⟩⟩
theorem KidsAt.nil (B lo d : Nat) (w : World) (A : Option Addr) : KidsAt B lo d w (A, 0) [] := by
  cases d with
  | zero => exact ⟨rfl, Nat.zero_le _⟩
  | succ d => exact ⟨Nat.zero_le _, Nat.zero_le _, Nat.zero_le _, Or.inl rfl⟩
theorem KidsAt.few {B lo d : Nat} {w : World} {L : Option Addr × Nat} {ks : List Nd} (h : KidsAt B lo d w L ks) : ks.length ≤ B := by
  cases d with
  | zero => obtain ⟨rfl, _⟩ := h; exact Nat.zero_le _
  | succ d => exact h.1
theorem KidsAt.at_ {B lo d : Nat} {w : World} {L : Option Addr × Nat} {ks : List Nd} (h : KidsAt B lo (d + 1) w L ks) {i : Nat} {x : Nd} (hi : ks[i]? = some x) :
    ∃ (b off : Nat) (M : Option Addr × Nat), L.1 = some ⟨b, off, none⟩ ∧ b < w.heap.size ∧ w.cell? ⟨b, off + i * 5, none⟩ = some (.int .i64 x.tag) ∧ w.cell? ⟨b, off + i * 5 + 1, none⟩ = some (.int .i64 x.kind) ∧ w.cell? ⟨b, off + i * 5 + 1 + 1, none⟩ = some (.int .i64 x.n) ∧
      w.cell? ⟨b, off + i * 5 + 1 + 1 + 1, none⟩ = some (.string x.s) ∧ w.cell? ⟨b, off + i * 5 + 1 + 1 + 1 + 1, none⟩ = some (.slice M.1 x.kids.length M.2) ∧ KidsAt B lo d w M x.kids := by
  obtain ⟨_, _, _, h⟩ := h
  rcases h with h | ⟨b, off, Ls, e, hl, hb, hL, hc⟩
  · subst h; simp at hi
  · have hlt : i < ks.length := by
      rcases Nat.lt_or_ge i ks.length with g | g
      · exact g
      · rw [List.getElem?_eq_none g] at hi; cases hi
    have hM : Ls[i]? = some (Ls[i]'(by omega)) := List.getElem?_eq_getElem (by omega)
    obtain ⟨h1, h2⟩ := hc i x _ hi hM
    exact ⟨b, off, _, e, hb, h1 0 _ rfl, h1 1 _ rfl, h1 2 _ rfl, h1 3 _ rfl, h1 4 _ rfl, h2⟩
end Go.Proofs.YtgaepmddbjdhfaaGreatDoor
namespace Go.Proofs.YtgaepmddbjdhfaaGreatDoor
open Go.RowKit

/-- The post of a function that returns a list of children. -/
def RetKids (B lo d : Nat) (ks : List Nd) (e : Ending) (w' : World) : Prop := ∃ M : Option Addr × Nat, e = .returned (.slice M.1 ks.length M.2) ∧ KidsAt B lo d w' M ks
/-- The post of a function that returns a node. -/
def RetNd (B lo d : Nat) (x : Nd) (e : Ending) (w' : World) : Prop := ∃ M : Option Addr × Nat, e = .returned (nda x M) ∧ KidsAt B lo d w' M x.kids
theorem ext_put5 {w wr : World} (he : Ext w wr) (o0 o1 o2 o3 o4 : Nat) (v0 v1 v2 v3 v4 : Value) (Z : Obj) :
    Ext w ((((((wr.setCell ⟨w.heap.size, o0, none⟩ v0).setCell ⟨w.heap.size, o1, none⟩ v1).setCell ⟨w.heap.size, o2, none⟩ v2).setCell ⟨w.heap.size, o3, none⟩ v3).setCell ⟨w.heap.size, o4, none⟩ v4).alloc Z) :=
  (((((he.setCell (Nat.le_refl _) _).setCell (Nat.le_refl _) _).setCell (Nat.le_refl _) _).setCell (Nat.le_refl _) _).setCell (Nat.le_refl _) _).alloc _
theorem ext_cells5 {w wr : World} (he : Ext w wr) (o0 o1 o2 o3 o4 : Nat) (v0 v1 v2 v3 v4 : Value) (g : Nat) (hg : w.heap.size ≤ g) :
    Ext w (((((wr.setCell ⟨g, o0, none⟩ v0).setCell ⟨g, o1, none⟩ v1).setCell ⟨g, o2, none⟩ v2).setCell ⟨g, o3, none⟩ v3).setCell ⟨g, o4, none⟩ v4) :=
  ((((he.setCell hg _).setCell hg _).setCell hg _).setCell hg _).setCell hg _
theorem kids_cells5 {B lo d : Nat} {w : World} {L : Option Addr × Nat} {ks : List Nd} (h : KidsAt B lo d w L ks) (o0 o1 o2 o3 o4 : Nat) (v0 v1 v2 v3 v4 : Value) {g : Nat} (hg : g < lo) :
    KidsAt B lo d (((((w.setCell ⟨g, o0, none⟩ v0).setCell ⟨g, o1, none⟩ v1).setCell ⟨g, o2, none⟩ v2).setCell ⟨g, o3, none⟩ v3).setCell ⟨g, o4, none⟩ v4) L ks :=
  ((((h.setCell hg).setCell hg).setCell hg).setCell hg).setCell hg
/-- A new block of five cells, seen later. -/
theorem block5 {w w' : World} {c0 c1 c2 c3 c4 : Value} {T : TypeId} (he : Ext (w.alloc (.cells #[c0, c1, c2, c3, c4] T)) w') :
    (w'.cell? ⟨w.heap.size, 0, none⟩ = some c0 ∧ w'.cell? ⟨w.heap.size, 1, none⟩ = some c1 ∧ w'.cell? ⟨w.heap.size, 2, none⟩ = some c2 ∧ w'.cell? ⟨w.heap.size, 3, none⟩ = some c3 ∧ w'.cell? ⟨w.heap.size, 4, none⟩ = some c4) ∧ (∀ i, w'.frozen? ⟨w.heap.size, i, none⟩ = false) ∧ w.heap.size < w'.heap.size := by
  have hb : w'.heap[w.heap.size]? = some (.cells #[c0, c1, c2, c3, c4] T (0, 0)) := he.blockAt (heap_alloc_new w _)
  refine ⟨⟨he.keep ?_, he.keep ?_, he.keep ?_, he.keep ?_, he.keep ?_⟩, fun i => by simp [World.frozen?, hb], ?_⟩
  · rw [World.cell?_alloc_new]; rfl
  · rw [World.cell?_alloc_new]; rfl
  · rw [World.cell?_alloc_new]; rfl
  · rw [World.cell?_alloc_new]; rfl
  · rw [World.cell?_alloc_new]; rfl
  · have := he.size; simp at this; omega
/-- What five stores leave, each seen behind it. -/
theorem seen5 {w : World} {g : Nat} {c0 c1 c2 c3 c4 : Value} (k0 : w.cell? ⟨g, 0, none⟩ = some c0) (k1 : w.cell? ⟨g, 1, none⟩ = some c1) (k2 : w.cell? ⟨g, 2, none⟩ = some c2) (k3 : w.cell? ⟨g, 3, none⟩ = some c3) (k4 : w.cell? ⟨g, 4, none⟩ = some c4) (v0 v1 v2 v3 v4 : Value) :
    (w.setCell ⟨g, 0, none⟩ v0).cell? ⟨g, 0, none⟩ = some v0 ∧ ((w.setCell ⟨g, 0, none⟩ v0).setCell ⟨g, 1, none⟩ v1).cell? ⟨g, 1, none⟩ = some v1 ∧ (((w.setCell ⟨g, 0, none⟩ v0).setCell ⟨g, 1, none⟩ v1).setCell ⟨g, 2, none⟩ v2).cell? ⟨g, 2, none⟩ = some v2 ∧
    ((((w.setCell ⟨g, 0, none⟩ v0).setCell ⟨g, 1, none⟩ v1).setCell ⟨g, 2, none⟩ v2).setCell ⟨g, 3, none⟩ v3).cell? ⟨g, 3, none⟩ = some v3 ∧ (((((w.setCell ⟨g, 0, none⟩ v0).setCell ⟨g, 1, none⟩ v1).setCell ⟨g, 2, none⟩ v2).setCell ⟨g, 3, none⟩ v3).setCell ⟨g, 4, none⟩ v4).cell? ⟨g, 4, none⟩ = some v4 := by
  refine ⟨World.cell?_setCell_same' _ _ _ (by rw [k0]; rfl), World.cell?_setCell_same' _ _ _ ?_, World.cell?_setCell_same' _ _ _ ?_, World.cell?_setCell_same' _ _ _ ?_, World.cell?_setCell_same' _ _ _ ?_⟩
  · rw [World.cell?_setCell_other _ _ _ _ (by simp), k1]; rfl
  · rw [World.cell?_setCell_other _ _ _ _ (by simp), World.cell?_setCell_other _ _ _ _ (by simp), k2]; rfl
  · rw [World.cell?_setCell_other _ _ _ _ (by simp), World.cell?_setCell_other _ _ _ _ (by simp), World.cell?_setCell_other _ _ _ _ (by simp), k3]; rfl
  · rw [World.cell?_setCell_other _ _ _ _ (by simp), World.cell?_setCell_other _ _ _ _ (by simp), World.cell?_setCell_other _ _ _ _ (by simp), World.cell?_setCell_other _ _ _ _ (by simp), k4]; rfl
end Go.Proofs.YtgaepmddbjdhfaaGreatDoor
namespace Go.Proofs.YtgaepmddbjdhfaaGreatDoor
open Go.RowKit

/-- A node has this tag and this kind, and nothing that the kind does not use. -/
def isNd (x : Nd) (tag kind : Int) : Bool := decide (x.tag = tag) && decide (x.kind = kind) && (decide (kind = 1) || decide (x.n = 0)) && (decide (kind = 2) || decide (x.s.size = 0)) && (decide (kind = 3) || decide (x.kids.length = 0))


end Go.Proofs.YtgaepmddbjdhfaaGreatDoor
namespace Go.Proofs.YtgaepmddbjdhfaaGreatDoor
open Go.RowKit

def leafI (x : Int) : Nd := .mk 0 1 x ⟨#[]⟩ []
def leafS (s : ByteArray) : Nd := .mk 0 2 0 s []
end Go.Proofs.YtgaepmddbjdhfaaGreatDoor
namespace Go.Proofs.YtgaepmddbjdhfaaGreatDoor
open Go.RowKit

/-- A node's strings and lists are of a size that an int holds, d levels deep. -/
def SzOk : Nat → Nd → Prop
  | 0, x => x.s.size ≤ 140737488351232 ∧ x.kids.length ≤ 140737488351232
  | d + 1, x => (x.s.size ≤ 140737488351232 ∧ x.kids.length ≤ 140737488351232) ∧ ∀ k ∈ x.kids, SzOk d k
theorem SzOk.top {d : Nat} {x : Nd} (h : SzOk d x) : x.s.size ≤ 140737488351232 ∧ x.kids.length ≤ 140737488351232 := by
  cases d with
  | zero => exact h
  | succ d => exact h.1
/-- The block at A is of a type. -/
def TyB (w : World) (A : Option Addr) (t : TypeId) : Prop := ∀ a, A = some a → ∃ cur, w.heap[a.block]? = some (.cells cur t (0, 0))
theorem TyB.ext {w w' : World} {A : Option Addr} {t : TypeId} (h : TyB w A t) (he : Ext w w') : TyB w' A t := fun a ha => by obtain ⟨cur, h1⟩ := h a ha; exact ⟨cur, he.blockAt h1⟩
theorem TyB.own {w : World} {base : Nat} {t : TypeId} {size n c m : Nat} {A : Option Addr} {xs : List Value} (h : w.ownsRow base t size (.slice A m c) n xs) : TyB w A t := by
  rintro a rfl
  exact own_block h a.block rfl
def isLst (x : Nd) (tag kind : Int) : Bool := x.kids.all (fun k => isNd k 0 kind) && isNd x tag 3
theorem nds_no {p : Nd → Bool} {l : List Nd} {k : Nat} {x : Nd} (hx : l[k]? = some x) (hb : p x = false) : l.all p = false := by
  rw [List.all_eq_false]
  exact ⟨x, List.mem_of_getElem? hx, by rw [hb]; simp⟩
theorem nds_next {p : Nd → Bool} {l : List Nd} {k : Nat} {x : Nd} (hx : l[k]? = some x) (h : (l.take k).all p = true) (hb : p x = true) : (l.take (k + 1)).all p = true := by
  rw [List.take_add_one, hx, List.all_append, h]
  simp [hb]

end Go.Proofs.YtgaepmddbjdhfaaGreatDoor
namespace Go.Proofs.YtgaepmddbjdhfaaGreatDoor
open Go.RowKit

def fldOk : Nat → Nd → Bool
  | 0, x => isNd x 1 1
  | 1, x => isNd x 2 1
  | 2, x => isNd x 3 1
  | 3, x => isNd x 4 2
  | 4, x => isLst x 5 2
  | 5, x => isLst x 6 1
  | 6, x => isNd x 7 1
  | 7, x => isNd x 8 1
  | 8, x => isLst x 9 2
  | 9, x => isNd x 10 1
  | 10, x => isNd x 11 2
  | 11, x => isNd x 12 1
  | 12, x => isNd x 13 1
  | 13, x => isNd x 14 1
  | 14, x => isNd x 15 1
  | 15, x => isLst x 16 1
  | 16, x => isNd x 17 1
  | _, _ => false
/-- A node has the form of the tree of an item. -/
def isTr (x : Nd) : Bool := isNd x 14 3 && (decide (x.kids.length = 17) && It.allN (fun i => fldOk i (x.kids.getD i default)) 17)
end Go.Proofs.YtgaepmddbjdhfaaGreatDoor
