/- Whether a change of items affects an answer, in the package: a contract. Conditions: those of each theorem. The law's named of a list that names the item: a contract. Conditions: those of each theorem. Parts of a slice as slices; a row's start; steps turned round. Conditions: those of each theorem. -/
import Derived.Test.YtgaepmddbjdhfaaGreatDoorP32
import Derived.Test.YtgaepmddbjdhfaaGreatDoorP26
namespace Go.Proofs.YtgaepmddbjdhfaaGreatDoor
open Go.ChangeShapes Go.WideShapes Go.ChangeAt Go.RowKit
namespace Rt
def idsE (xs ys : List ItL) : Bool := decide ((its xs).map (·.id) = (its ys).map (·.id))
theorem idsE_len {xs ys : List ItL} (h : xs.length ≠ ys.length) : idsE xs ys = false := by
  unfold idsE
  rw [decide_eq_false_iff_not]
  intro e
  have := congrArg List.length e
  rw [List.length_map, List.length_map, its_len, its_len] at this
  exact h this
theorem idsE_no {xs ys : List ItL} {k : Nat} {x y : ItL} (hx : xs[k]? = some x) (hy : ys[k]? = some y) (h : x.1.id ≠ y.1.id) : idsE xs ys = false := by
  unfold idsE
  rw [decide_eq_false_iff_not]
  intro e
  have h1 : ((its xs).map (·.id))[k]? = some x.1.id := by rw [List.getElem?_map, its_at hx]; rfl
  rw [e, List.getElem?_map, its_at hy] at h1
  exact h (by simpa using h1.symm)
theorem idsE_yes {xs ys : List ItL} (hl : xs.length = ys.length) (h : ∀ (i : Nat) (x y : ItL), xs[i]? = some x → ys[i]? = some y → x.1.id = y.1.id) : idsE xs ys = true := by
  unfold idsE
  rw [decide_eq_true_eq]
  apply List.ext_getElem?
  intro i
  rw [List.getElem?_map, List.getElem?_map]
  unfold its
  rw [List.getElem?_map, List.getElem?_map]
  rcases Nat.lt_or_ge i xs.length with g | g
  · rw [List.getElem?_eq_getElem g, List.getElem?_eq_getElem (by omega : i < ys.length)]
    exact congrArg some (h i _ _ (List.getElem?_eq_getElem g) (List.getElem?_eq_getElem (by omega)))
  · rw [List.getElem?_eq_none g, List.getElem?_eq_none (by omega)]
theorem afE_b {b c : List It.Item} (h : Rs.chkI b ≠ 0) : Rs.afE b c = Rs.chkI b := by unfold Rs.afE; rw [if_pos h]
theorem afE_c {b c : List It.Item} (h : Rs.chkI b = 0) (g : Rs.chkI c ≠ 0) : Rs.afE b c = Rs.chkI c := by unfold Rs.afE; rw [if_neg (by simpa using h), if_pos g]
theorem afE_ids {xs ys : List ItL} (h : Rs.chkI (its xs) = 0) (g : Rs.chkI (its ys) = 0) : Rs.afE (its xs) (its ys) = if idsE xs ys = true then 0 else 1 := by
  unfold Rs.afE idsE
  rw [if_neg (by simpa using h), if_neg (by simpa using g)]
  simp only [decide_eq_true_eq]
theorem afV_bad {b c : List It.Item} {an : List Rs.Ans} (h : Rs.afE b c ≠ 0) : Rs.afV b c an = false := by unfold Rs.afV; rw [if_pos h]
theorem afV_ok {b c : List It.Item} {an : List Rs.Ans} (h : Rs.afE b c = 0) : Rs.afV b c an = an.any (Rs.afA b c) := by unfold Rs.afV; rw [if_neg (by simpa using h)]
theorem any_hit {an : List Rs.Ans} {p : Rs.Ans → Bool} {k : Nat} {a : Rs.Ans} (h : an[k]? = some a) (hp : p a = true) : an.any p = true := List.any_eq_true.2 ⟨a, List.mem_of_getElem? h, hp⟩
theorem any_next {an : List Rs.Ans} {p : Rs.Ans → Bool} {k : Nat} {a : Rs.Ans} (h : an[k]? = some a) (h0 : (an.take k).any p = false) (hp : p a = false) : (an.take (k + 1)).any p = false := by
  rw [List.take_add_one, h, List.any_append, h0]
  simp [hp]
end Rt
theorem ret_be {a b : Bool} {c d : Int} (h : a = b) (g : c = d) : Ending.returned (.tuple #[.bool a, .int .i64 c]) = .returned (.tuple #[.bool b, .int .i64 d]) := by rw [h, g]
set_option maxRecDepth 100000 in
set_option maxHeartbeats 3200000 in
theorem clos2_any (a b : It.Item) (La Lb : It.Loc) {v : Bool} (hv : (a.id == b.id) = v) (w : World) :
    Calls Tryz.prog 44 #[It.agg a La, It.agg b Lb] w fun e w' => e = .returned (.bool v) ∧ Ext w w' := by
  obtain ⟨CA, hca, hna, -, hka⟩ := rs_packed a La
  obtain ⟨CB, hcb, hnb, -, hkb⟩ := rs_packed b Lb
  rw [hca, hcb]
  have ja0 : CA[0]? = some (.int .i64 a.id) := by rw [← hka]; rfl
  have jb0 : CB[0]? = some (.int .i64 b.id) := by rw [← hkb]; rfl
  have c0 : ((w.alloc (.cells CA 55)).alloc (.cells CB 55)).cell? ⟨w.heap.size, 0, none⟩ = some (.int .i64 a.id) := (cell_of_row _ _ 0 _ _ _ (two_fst _ _ _)).trans ja0
  have d0 : ((w.alloc (.cells CA 55)).alloc (.cells CB 55)).cell? ⟨w.heap.size + 1, 0, none⟩ = some (.int .i64 b.id) := (cell_of_row _ _ 0 _ _ _ (two_snd _ _ _)).trans jb0
  have HV := Lib.hid hv
  clear hca hna hka ja0 hv hcb hnb hkb jb0
  go_enter Tryz.func44, Tryz.ntmps44
  go_wp2
  go_ret
  exact ⟨ret_bool HV.out, ((Ext.refl w).alloc _).alloc _⟩
set_option maxRecDepth 100000 in
set_option maxHeartbeats 12800000 in
theorem eqids_any (A A' : Option Addr) (c c' : Nat) (xs ys : List Rt.ItL) {n m : Nat} (hn : xs.length = n) (hm : ys.length = m) {v : Bool} (hv : Rt.idsE xs ys = v) (w : World) (h : Rt.SlIt w A xs) (h' : Rt.SlIt w A' ys) (hl : n ≤ 9223372036854775807) (hl' : m ≤ 9223372036854775807) :
    Calls Tryz.prog 43 #[.slice A n c, .slice A' m c', .func (.func 44) #[] #[]] w fun e w' => e = .returned (.bool v) ∧ Ext w w' := by
  have H := Lib.hid h
  have H' := Lib.hid h'
  have HN := Lib.hid hn
  have HM := Lib.hid hm
  have HV := Lib.hid hv
  clear h h' hn hm hv
  by_cases hnm : n = m
  case neg =>
    have HF : Hid (v = false) := Lib.hid (by rw [← HV.out]; exact Rt.idsE_len (by rw [HN.out, HM.out]; exact hnm))
    have t0 : ((n : Int) != (m : Int)) = true := by rw [bne_iff_ne]; omega
    clear hnm
    go_enter Tryz.func43, Tryz.ntmps43
    go_wp2
    go_ret
    exact ⟨ret_bool HF.out.symm, Ext.refl _⟩
  subst hnm
  have t0 : ((n : Int) != (n : Int)) = false := by simp
  go_enter Tryz.func43, Tryz.ntmps43
  go_wp2
  go_loopw [17] (fun i wr => ∃ k : Nat, k ≤ n ∧ i = .int .i64 k ∧ Hid (∀ (i : Nat) (x y : Rt.ItL), i < k → xs[i]? = some x → ys[i]? = some y → x.1.id = y.1.id) ∧ Hid (Ext w wr)) (fun i _ => n - (intOf i).toNat)
  case atStart => exact ⟨0, by omega, rfl, Lib.hid (fun i x y hi => by omega), Lib.hid (Ext.refl _)⟩
  case round =>
    obtain ⟨k, hk, rfl, HP, HE⟩ := hrel
    by_cases hlt : k < n
    · obtain ⟨x, hx⟩ : ∃ x, xs[k]? = some x := ⟨xs[k]'(by rw [HN.out]; exact hlt), List.getElem?_eq_getElem _⟩
      obtain ⟨y, hy⟩ : ∃ x, ys[k]? = some x := ⟨ys[k]'(by rw [HM.out]; exact hlt), List.getElem?_eq_getElem _⟩
      obtain ⟨b, off, rfl, hb, hc, -⟩ := (H.out.ext HE.out).at_ hx
      obtain ⟨b', off', rfl, hb', hc', -⟩ := (H'.out.ext HE.out).at_ hy
      obtain ⟨CA, hca, hna, h1a, hka⟩ := rs_packed x.1 x.2
      obtain ⟨CB, hcb, hnb, h1b, hkb⟩ := rs_packed y.1 y.2
      have HRA : Hid (wr.rangeAt b (off + k * 17) CA.toList) := Lib.hid (by rw [← hka]; exact hc)
      have HRB : Hid ((wr.alloc (.cells CA 55)).rangeAt b' (off' + k * 17) CB.toList) := Lib.hid (((Ext.refl wr).alloc _).range (by rw [← hkb]; exact hc'))
      have IA := Lib.hid (Rt.infoItem hna)
      have IB := Lib.hid (Rt.infoItem hnb)
      have NA := Lib.hid hna
      have NB := Lib.hid hnb
      have OA := Lib.hid h1a
      have OB := Lib.hid h1b
      have HX := Lib.hid hx
      have HY := Lib.hid hy
      obtain ⟨q, hq⟩ : ∃ q, (x.1.id == y.1.id) = q := ⟨_, rfl⟩
      have HQ := Lib.hid hq
      have X2 : Ext wr ((wr.alloc (.cells CA 55)).alloc (.cells CB 55)) := ((Ext.refl wr).alloc _).alloc _
      have HCL := Lib.hid (clos2_any x.1 y.1 x.2 y.2 hq ((wr.alloc (.cells CA 55)).alloc (.cells CB 55)))
      rw [hca, hcb] at HCL
      have ki0 : (0 : Int) ≤ (k : Int) := by omega
      have ki1 : (k : Int) < (n : Int) := by omega
      clear hx hy hc hc' hca hcb hna hnb h1a h1b hka hkb hq
      have hsz : (wr.alloc (.cells CA 55)).heap.size = wr.heap.size + 1 := by simp
      have HSZ := Lib.hid hsz
      clear hsz
      cases q with
      | true =>
        have HPN : Hid (∀ (i : Nat) (x y : Rt.ItL), i < k + 1 → xs[i]? = some x → ys[i]? = some y → x.1.id = y.1.id) := Lib.hid (fun i x' y' hi h1 h2 => by
          rcases Nat.lt_or_ge i k with g | g
          · exact HP.out i x' y' g h1 h2
          · obtain rfl : i = k := by omega
            rw [HX.out] at h1
            rw [HY.out] at h2
            injection h1 with h1
            injection h2 with h2
            subst h1 h2
            simpa using HQ.out)
        go_wp2_with (first
          | (with_reducible refine wpList_load_arr rfl 55 (.tmp 20) rfl b (off + k * 17) (by with_unfolding_all rfl) CA _ HRA.out Tryz.underlying55 rfl IA.out ?_)
          | (with_reducible refine wpList_store_new rfl 55 (.tmp 8) (.tmp 21) rfl _ CA 55 (by with_unfolding_all rfl) (by with_unfolding_all rfl) IA.out (by with_unfolding_all exact NA.out.symm) OA.out ?_)
          | (with_reducible refine wpList_load_arr rfl 55 (.tmp 24) rfl b' (off' + k * 17) (by with_unfolding_all rfl) CB _ HRB.out Tryz.underlying55 rfl IB.out ?_)
          | (with_reducible refine wpList_store_new rfl 55 (.tmp 9) (.tmp 25) rfl _ CB 55 (by rw [HSZ.out]; with_unfolding_all rfl) (by with_unfolding_all rfl) IB.out (by with_unfolding_all exact NB.out.symm) OB.out ?_)
          | (with_reducible refine wpList_load_row rfl 55 (.tmp 8) rfl wr.heap.size (by with_unfolding_all rfl) _ CA _ _ (two_fst wr _ _) Tryz.underlying55 rfl IA.out ?_)
          | (with_reducible refine wpList_load_row rfl 55 (.tmp 9) rfl (wr.heap.size + 1) (by with_unfolding_all rfl) _ CB _ _ (two_snd wr _ _) Tryz.underlying55 rfl IB.out ?_))
        with_reducible refine HCL.out.mono ?_
        rintro e w3 ⟨rfl, hb3⟩
        have HE3 := Lib.hid (HE.out.trans (X2.trans hb3))
        clear hb3 X2
        go_wp2
        go_roundw
        case rel => exact ⟨k + 1, by omega, by go_num, HPN, HE3⟩
        case measure => simp [intOf]; omega
      | false =>
        have HF : Hid (v = false) := Lib.hid (by rw [← HV.out]; exact Rt.idsE_no HX.out HY.out (by simpa using HQ.out))
        go_wp2_with (first
          | (with_reducible refine wpList_load_arr rfl 55 (.tmp 20) rfl b (off + k * 17) (by with_unfolding_all rfl) CA _ HRA.out Tryz.underlying55 rfl IA.out ?_)
          | (with_reducible refine wpList_store_new rfl 55 (.tmp 8) (.tmp 21) rfl _ CA 55 (by with_unfolding_all rfl) (by with_unfolding_all rfl) IA.out (by with_unfolding_all exact NA.out.symm) OA.out ?_)
          | (with_reducible refine wpList_load_arr rfl 55 (.tmp 24) rfl b' (off' + k * 17) (by with_unfolding_all rfl) CB _ HRB.out Tryz.underlying55 rfl IB.out ?_)
          | (with_reducible refine wpList_store_new rfl 55 (.tmp 9) (.tmp 25) rfl _ CB 55 (by rw [HSZ.out]; with_unfolding_all rfl) (by with_unfolding_all rfl) IB.out (by with_unfolding_all exact NB.out.symm) OB.out ?_)
          | (with_reducible refine wpList_load_row rfl 55 (.tmp 8) rfl wr.heap.size (by with_unfolding_all rfl) _ CA _ _ (two_fst wr _ _) Tryz.underlying55 rfl IA.out ?_)
          | (with_reducible refine wpList_load_row rfl 55 (.tmp 9) rfl (wr.heap.size + 1) (by with_unfolding_all rfl) _ CB _ _ (two_snd wr _ _) Tryz.underlying55 rfl IB.out ?_))
        with_reducible refine HCL.out.mono ?_
        rintro e w3 ⟨rfl, hb3⟩
        have HE3 := Lib.hid (HE.out.trans (X2.trans hb3))
        clear hb3 X2
        go_wp2
        go_ret
        exact ⟨ret_bool HF.out.symm, HE3.out⟩
    · obtain rfl : n = k := by omega
      have HF : Hid (v = true) := Lib.hid (by
        rw [← HV.out]
        exact Rt.idsE_yes (HN.out.trans HM.out.symm) (fun i x y h1 h2 => HP.out i x y (by rw [← HN.out]; exact (List.getElem?_eq_some_iff.1 h1).1) h1 h2))
      go_wp2
      go_ret
      exact ⟨ret_bool HF.out.symm, HE.out⟩
/-- What each operation of the region leaves. -/
def rth1L (b off n c kk _wb : Nat) (CA CB : Array Value) (q e : Int) : List (Option Value → World → Prop) := [fun u _ => u = some (.slice (some ⟨b, off, none⟩) n c),
  fun u _ => u = some (.int .i64 (kk : Int)),
  fun u _ => u = some (.pointer (some ⟨b, off + kk * 17, none⟩)),
  fun u _ => u = some (.agg CA),
  fun u _ => u = some (.agg CB),
  fun u _ => u = some (.tuple #[.int .i64 q, .int .i64 e]),
  fun u _ => u = some (.tuple #[.int .i64 q, .int .i64 e]),
  fun u _ => u = some (.int .i64 q),
  fun u _ => u = some (.int .i64 e),
  fun u _ => u = some (.int .i64 q),
  fun u _ => u = some (.int .i64 e)]
theorem rth1L_mono (b off n c kk wb : Nat) (CA CB : Array Value) (q e : Int) : AllMono (rth1L b off n c kk wb CA CB q e) := ⟨mono_val _, mono_val _, mono_val _, mono_val _, mono_val _, mono_val _, mono_val _, mono_val _, mono_val _, mono_val _, mono_val _, trivial⟩
def rth1R (b off n c kk wb : Nat) (CA CB : Array Value) (q e : Int) (j : Nat) (u : Option Value) (w : World) : Prop := (rth1L b off n c kk wb CA CB q e).getD j (fun _ _ => True) u w
theorem rth1R_ext (b off n c kk wb : Nat) (CA CB : Array Value) (q e : Int) (j : Nat) (u : Option Value) (w w' : World) (he : Ext w w') (h : rth1R b off n c kk wb CA CB q e j u w) : rth1R b off n c kk wb CA CB q e j u w' := ((rth1L_mono b off n c kk wb CA CB q e).at_ j) u w w' he h
def rth1D : List Nat := [44, 45, 46, 47, 48, 49, 43, 50, 51, 13, 14]
def rth1E (b off n c kk wb : Nat) (t : Array Value) : Prop := t.getD 0 undef = .slice (some ⟨b, off, none⟩) n c ∧ t.getD 11 undef = .pointer (some ⟨wb, 0, none⟩) ∧ t.getD 12 undef = .int .i64 (kk : Int) ∧ t.size = 76
/-- What each operation of the region leaves. -/
def rth2L (b off n c kk _wb : Nat) (CA CB : Array Value) (q e : Int) : List (Option Value → World → Prop) := [fun u _ => u = some (.slice (some ⟨b, off, none⟩) n c),
  fun u _ => u = some (.int .i64 (kk : Int)),
  fun u _ => u = some (.pointer (some ⟨b, off + kk * 17, none⟩)),
  fun u _ => u = some (.agg CA),
  fun u _ => u = some (.agg CB),
  fun u _ => u = some (.tuple #[.int .i64 q, .int .i64 e]),
  fun u _ => u = some (.tuple #[.int .i64 q, .int .i64 e]),
  fun u _ => u = some (.int .i64 q),
  fun u _ => u = some (.int .i64 e),
  fun u _ => u = some (.int .i64 q),
  fun u _ => u = some (.int .i64 e)]
theorem rth2L_mono (b off n c kk wb : Nat) (CA CB : Array Value) (q e : Int) : AllMono (rth2L b off n c kk wb CA CB q e) := ⟨mono_val _, mono_val _, mono_val _, mono_val _, mono_val _, mono_val _, mono_val _, mono_val _, mono_val _, mono_val _, mono_val _, trivial⟩
def rth2R (b off n c kk wb : Nat) (CA CB : Array Value) (q e : Int) (j : Nat) (u : Option Value) (w : World) : Prop := (rth2L b off n c kk wb CA CB q e).getD j (fun _ _ => True) u w
theorem rth2R_ext (b off n c kk wb : Nat) (CA CB : Array Value) (q e : Int) (j : Nat) (u : Option Value) (w w' : World) (he : Ext w w') (h : rth2R b off n c kk wb CA CB q e j u w) : rth2R b off n c kk wb CA CB q e j u w' := ((rth2L_mono b off n c kk wb CA CB q e).at_ j) u w w' he h
def rth2D : List Nat := [53, 54, 55, 56, 57, 58, 52, 59, 60, 15, 16]
def rth2E (b off n c kk wb : Nat) (t : Array Value) : Prop := t.getD 1 undef = .slice (some ⟨b, off, none⟩) n c ∧ t.getD 11 undef = .pointer (some ⟨wb, 0, none⟩) ∧ t.getD 12 undef = .int .i64 (kk : Int) ∧ t.size = 76
set_option maxRecDepth 100000 in
set_option maxHeartbeats 25600000 in
theorem affected_any (A A' : Option Addr) (c c' : Nat) (xs ys : List Rt.ItL) (A3 : Option Addr) (c3 : Nat) (al : List Rt.AnL) {n m s : Nat} (hn : xs.length = n) (hm : ys.length = m) (hs : al.length = s) (w : World) (h : Rt.SlIt w A xs) (h' : Rt.SlIt w A' ys) (h3 : Rt.SlAn w A3 al) (hl : n ≤ 9223372036854775807) (hl' : m ≤ 9223372036854775807) (hl3 : s ≤ 9223372036854775807) (hg : Gm w) :
    Calls Tryz.prog 20 #[.slice A n c, .slice A' m c', .slice A3 s c3] w fun e w' => e = .returned (.tuple #[.bool (Rs.afV (Rt.its xs) (Rt.its ys) (Rt.ans al)), .int .i64 (Rs.afE (Rt.its xs) (Rt.its ys))]) ∧ Ext w w' := by
  have H := Lib.hid h
  have H' := Lib.hid h'
  have H3 := Lib.hid h3
  have HN := Lib.hid hn
  have HM := Lib.hid hm
  have HS0 := Lib.hid hs
  have HG := Lib.hid hg
  have HAL : Hid ((Rt.ans al).length = s) := Lib.hid ((Rt.ans_len al).trans hs)
  obtain ⟨er, her⟩ : ∃ er, Rs.afE (Rt.its xs) (Rt.its ys) = er := ⟨_, rfl⟩
  obtain ⟨vv, hvv⟩ : ∃ vv, Rs.afV (Rt.its xs) (Rt.its ys) (Rt.ans al) = vv := ⟨_, rfl⟩
  rw [her, hvv]
  have HER := Lib.hid her
  have HVV := Lib.hid hvv
  have HBAD : Hid (er ≠ 0 → vv = false) := Lib.hid (fun h => by rw [← hvv]; exact Rt.afV_bad (by rw [her]; exact h))
  obtain ⟨v1, hv1⟩ : ∃ v, Rs.chkI (Rt.its xs) = v := ⟨_, rfl⟩
  obtain ⟨v2, hv2⟩ : ∃ v, Rs.chkI (Rt.its ys) = v := ⟨_, rfl⟩
  obtain ⟨qi, hqi⟩ : ∃ v, Rt.idsE xs ys = v := ⟨_, rfl⟩
  have HV1 := Lib.hid hv1
  have HV2 := Lib.hid hv2
  have HQI := Lib.hid hqi
  have ENS := Lib.hid (enters_of Tryz.func26 (by kernel_rfl) rfl)
  clear h h' h3 hn hm hs hg her hvv hv1 hv2 hqi
  go_enter Tryz.func20, Tryz.ntmps20
  go_wp2_with fail
  with_reducible refine (kcheck_any A c xs HN.out HV1.out w H.out hl HG.out).mono ?_
  rintro e w1 ⟨rfl, hb1⟩
  have X1 := Lib.hid hb1
  clear hb1
  by_cases hv0 : v1 = 0
  case neg =>
    have t1 : (v1 != 0) = true := by rw [bne_iff_ne]; exact hv0
    have HF : Hid (er = v1) := Lib.hid (by rw [← HER.out, Rt.afE_b (by rw [HV1.out]; exact hv0), HV1.out])
    have HF2 : Hid (vv = false) := Lib.hid (HBAD.out (by rw [HF.out]; exact hv0))
    clear hv0
    go_wp2
    go_ret2
    exact ⟨ret_be HF2.out.symm HF.out.symm, X1.out⟩
  subst hv0
  go_wp2_with fail
  with_reducible refine (kcheck_any A' c' ys HM.out HV2.out w1 (H'.out.ext X1.out) hl' (HG.out.ext X1.out)).mono ?_
  rintro e w2 ⟨rfl, hb2⟩
  have X2 := Lib.hid (X1.out.trans hb2)
  clear hb2
  by_cases hv0 : v2 = 0
  case neg =>
    have t1 : (v2 != 0) = true := by rw [bne_iff_ne]; exact hv0
    have HF : Hid (er = v2) := Lib.hid (by rw [← HER.out, Rt.afE_c HV1.out (by rw [HV2.out]; exact hv0), HV2.out])
    have HF2 : Hid (vv = false) := Lib.hid (HBAD.out (by rw [HF.out]; exact hv0))
    clear hv0
    go_wp2
    go_ret2
    exact ⟨ret_be HF2.out.symm HF.out.symm, X2.out⟩
  subst hv0
  have HIE := Lib.hid (Rt.afE_ids HV1.out HV2.out)
  go_wp2_with fail
  with_reducible refine (eqids_any A A' c c' xs ys HN.out HM.out HQI.out w2 (H.out.ext X2.out) (H'.out.ext X2.out) hl hl').mono ?_
  rintro e w3 ⟨rfl, hb3⟩
  have X3 := Lib.hid (X2.out.trans hb3)
  clear hb3
  cases qi with
  | false =>
    have HF : Hid (er = 1) := Lib.hid (by rw [← HER.out, HIE.out, if_neg (by rw [HQI.out]; simp)])
    have HF2 : Hid (vv = false) := Lib.hid (HBAD.out (by rw [HF.out]; decide))
    go_wp2
    go_ret2
    exact ⟨ret_be HF2.out.symm HF.out.symm, X3.out⟩
  | true =>
    have HF0 : Hid (er = 0) := Lib.hid (by rw [← HER.out, HIE.out, if_pos HQI.out])
    have HFV : Hid (vv = (Rt.ans al).any (Rs.afA (Rt.its xs) (Rt.its ys))) := Lib.hid (by rw [← HVV.out]; exact Rt.afV_ok (by rw [HER.out]; exact HF0.out))
    have HNM : Hid (n = m) := Lib.hid (by
      have h1 := HQI.out
      rcases Nat.lt_trichotomy n m with g | g | g
      · rw [Rt.idsE_len (by rw [HN.out, HM.out]; omega)] at h1; cases h1
      · exact g
      · rw [Rt.idsE_len (by rw [HN.out, HM.out]; omega)] at h1; cases h1)
    go_wp2
    go_loopw [33] (fun i wr => ∃ k : Nat, k ≤ s ∧ i = .int .i64 k ∧ Hid (((Rt.ans al).take k).any (Rs.afA (Rt.its xs) (Rt.its ys)) = false) ∧ Hid (Ext w wr)) (fun i _ => s - (intOf i).toNat)
    case atStart => exact ⟨0, by omega, rfl, Lib.hid rfl, X3⟩
    case round =>
      clear X1 X2 X3
      obtain ⟨k, hk, rfl, HZ, HE⟩ := hrel
      by_cases hlt : k < s
      · obtain ⟨an, han⟩ : ∃ x, al[k]? = some x := ⟨al[k]'(by rw [HS0.out]; exact hlt), List.getElem?_eq_getElem _⟩
        obtain ⟨b3, off3, rfl, hb3', ha, hain⟩ := (H3.out.ext HE.out).at_ han
        obtain ⟨CB, hcb, hnb, h1b, hkb⟩ := Rs.Ans.packed an.1 an.2
        have HRB : Hid (wr.rangeAt b3 (off3 + k * 5) CB.toList) := Lib.hid (by rw [← hkb]; exact ha)
        have IB := Lib.hid (Rt.infoAn hnb)
        have NB := Lib.hid hnb
        have OB := Lib.hid h1b
        have HIN0 := Lib.hid hain
        have HAN := Lib.hid (Rt.ans_at han)
        have j0 : CB[0]? = some (.int .i64 an.1.item) := by rw [← hkb]; rfl
        have X0 : Ext wr (wr.alloc (.cells CB 64)) := (Ext.refl _).alloc _
        have c0 : (wr.alloc (.cells CB 64)).cell? ⟨wr.heap.size, 0, none⟩ = some (.int .i64 an.1.item) := (World.cell?_alloc_new _ _ _ _).trans j0
        obtain ⟨i, hi⟩ : ∃ i, Rt.ixV (Rs.fnd (Rt.its xs) an.1.item) = i := ⟨_, rfl⟩
        have HXI := Lib.hid hi
        have HIX0 := Lib.hid (kindex_it A c xs HN.out an.1.item hi _ (H.out.ext (HE.out.trans X0)) hl)
        have HSC := Lib.hid (fun (x : Rt.ItL) => kscore_any x.1 x.2 an.1 an.2)
        rw [hcb] at HSC
        have ki0 : (0 : Int) ≤ (k : Int) := by omega
        have ki1 : (k : Int) < (s : Int) := by omega
        clear han ha hain hcb hnb h1b hkb j0 hi
        go_wp2_with (first
          | (with_reducible refine wpList_load_arr rfl 64 (.tmp 35) rfl b3 (off3 + k * 5) (by with_unfolding_all rfl) CB _ HRB.out Tryz.underlying64 rfl IB.out ?_)
          | (with_reducible refine wpList_store_new rfl 64 (.tmp 11) (.tmp 36) rfl _ CB 64 (by with_unfolding_all rfl) (by with_unfolding_all rfl) IB.out (by with_unfolding_all exact NB.out.symm) OB.out ?_))
        with_reducible refine HIX0.out.mono ?_
        rintro e w5 ⟨rfl, hb5⟩
        have X5 := Lib.hid (X0.trans hb5)
        have HE5 := Lib.hid (HE.out.trans X5.out)
        have HB3 : Hid (w5.heap[wr.heap.size]? = some (.cells CB 64 (0, 0))) := Lib.hid (hb5.blockAt (heap_alloc_new wr _))
        clear hb5 X0 c0
        by_cases hi0 : i < 0
        · have HZN : Hid (((Rt.ans al).take (k + 1)).any (Rs.afA (Rt.its xs) (Rt.its ys)) = false) := Lib.hid (Rt.any_next HAN.out HZ.out (Rs.afA_none (Rt.fnd_neg HXI.out hi0)))
          go_wp2
          go_roundw
          case rel => exact ⟨k + 1, by omega, by go_num, HZN, HE5⟩
          case measure => simp [intOf]; omega
        obtain ⟨kk, x, hik, hf, hx⟩ := Rt.fnd_ix HXI.out (by omega)
        subst hik
        have hkn : kk < n := by rw [← HN.out]; exact (List.getElem?_eq_some_iff.1 hx).1
        have hkm : kk < m := by rw [← HNM.out]; exact hkn
        obtain ⟨y, hy⟩ : ∃ x, ys[kk]? = some x := ⟨ys[kk]'(by rw [HM.out]; exact hkm), List.getElem?_eq_getElem _⟩
        obtain ⟨b, off, rfl, hb', hxr, hxin⟩ := (H.out.ext HE5.out).at_ hx
        obtain ⟨b2, off2, rfl, hb2', hyr, hyin⟩ := (H'.out.ext HE5.out).at_ hy
        obtain ⟨CA, hca, hna, -, hka⟩ := rs_packed x.1 x.2
        obtain ⟨CC, hcc, hnc, -, hkc⟩ := rs_packed y.1 y.2
        obtain ⟨q1, hq1⟩ : ∃ q, Rs.sc x.1 an.1 = q := ⟨_, rfl⟩
        obtain ⟨e1, he1⟩ : ∃ e, Rs.scE x.1 an.1 = e := ⟨_, rfl⟩
        obtain ⟨q2, hq2⟩ : ∃ q, Rs.sc y.1 an.1 = q := ⟨_, rfl⟩
        obtain ⟨e2, he2⟩ : ∃ e, Rs.scE y.1 an.1 = e := ⟨_, rfl⟩
        have HS1 : Hid (∀ w, It.In w x.1 x.2 → an.1.In w an.2 → Gm w → Calls Tryz.prog 26 #[.agg CA, .agg CB] w fun r w' => r = .returned (.tuple #[.int .i64 q1, .int .i64 e1]) ∧ Ext w w') := Lib.hid (fun w h1 h2 h3 => by
          have := HSC.out x w h1 h2 (fun w' he => h3.ext he)
          rw [hca, hq1, he1] at this
          exact this)
        have HS2 : Hid (∀ w, It.In w y.1 y.2 → an.1.In w an.2 → Gm w → Calls Tryz.prog 26 #[.agg CC, .agg CB] w fun r w' => r = .returned (.tuple #[.int .i64 q2, .int .i64 e2]) ∧ Ext w w') := Lib.hid (fun w h1 h2 h3 => by
          have := HSC.out y w h1 h2 (fun w' he => h3.ext he)
          rw [hcc, hq2, he2] at this
          exact this)
        have HAF : Hid (Rs.afA (Rt.its xs) (Rt.its ys) an.1 = ((decide (e1 = 0) != decide (e2 = 0)) || (decide (e1 = 0) && decide (q1 ≠ q2)))) := Lib.hid (by
          rw [Rs.afA_some hf (Rt.its_at hx) (Rt.its_at hy)]
          unfold Rs.dfs
          rw [hq1, he1, hq2, he2])
        have HRA : Hid (w5.rangeAt b (off + kk * 17) CA.toList) := Lib.hid (by rw [← hka]; exact hxr)
        have HRC0 : Hid (w5.rangeAt b2 (off2 + kk * 17) CC.toList) := Lib.hid (by rw [← hkc]; exact hyr)
        have HIX := Lib.hid hxin
        have HIY := Lib.hid hyin
        have HIN := Lib.hid (HIN0.out.ext X5.out)
        have HG3 := Lib.hid (HG.out.ext HE5.out)
        have IA := Lib.hid (Rt.infoItem hna)
        have IC := Lib.hid (Rt.infoItem hnc)
        have ki : (kk : Int) < (n : Int) := by omega
        have KI0 := Lib.hid (And.intro ki hkn)
        have kj : (kk : Int) < (m : Int) := by omega
        have KJ0 := Lib.hid (And.intro kj hkm)
        have KI := KI0
        clear hf hx hy hxr hyr hxin hyin hca hcc hna hnc hka hkc hq1 he1 hq2 he2 ki kj
        go_wp2_with fail
        refine region_tb (by kernel_rfl) (by decide +kernel) (rth1E b off n c kk wr.heap.size) ⟨rfl, rfl, rfl, rfl⟩ 11 rth1D (fun _ => none) (rth1R b off n c kk wr.heap.size CA CB q1 e1) w5 (Ext.refl _) (fun i h1 h2 => absurd h2 (Nat.not_lt.2 h1)) ?_ ?_
        · intro Tv dd lv U wz i o hE ho hlv hd hT
          obtain ⟨t0, t11, t12, tz⟩ := hE
          have hx := hT.ext
          match i, ho, hlv, hd with
          | 0, ho, hlv, hd =>
            obtain rfl := Option.some.inj ho
            have v0 := eval_old (d := dd) (hT.out 0 (by decide)) (by omega) t0
            refine tbw_yield (v := .slice (some ⟨b, off, none⟩) n c) (rth1R_ext b off n c kk wr.heap.size CA CB q1 e1) hT ho hd (wanted_plain rfl) rfl (by decide) (by decide) ?_ (Ext.refl _) rfl
            generalize Act.eval ⟨over Tv U, dd⟩ = ev at *
            simp [execOp, go_sem, v0]
          | 1, ho, hlv, hd =>
            obtain rfl := Option.some.inj ho
            have v0 := eval_old (d := dd) (hT.out 12 (by decide)) (by omega) t12
            refine tbw_yield (v := .int .i64 (kk : Int)) (rth1R_ext b off n c kk wr.heap.size CA CB q1 e1) hT ho hd (wanted_plain rfl) rfl (by decide) (by decide) ?_ (Ext.refl _) rfl
            generalize Act.eval ⟨over Tv U, dd⟩ = ev at *
            simp [execOp, go_sem, v0]
          | 2, ho, hlv, hd =>
            obtain rfl := Option.some.inj ho
            have f0 : U 44 = some (.slice (some ⟨b, off, none⟩) n c) := hT.facts 0 (by decide) (dep hd 0 (by kernel_rfl)) (fun c e => by cases e)
            have v0 : Act.eval ⟨over Tv U, dd⟩ (.tmp 44) = _ := eval_new (t := Tv) (d := dd) f0 (by show 44 < Tv.size; omega)
            have f1 : U 45 = some (.int .i64 (kk : Int)) := hT.facts 1 (by decide) (dep hd 1 (by kernel_rfl)) (fun c e => by cases e)
            have v1 : Act.eval ⟨over Tv U, dd⟩ (.tmp 45) = _ := eval_new (t := Tv) (d := dd) f1 (by show 45 < Tv.size; omega)
            have ki := KI.out
            refine tbw_yield (v := .pointer (some ⟨b, off + kk * 17, none⟩)) (rth1R_ext b off n c kk wr.heap.size CA CB q1 e1) hT ho hd (wanted_plain rfl) rfl (by decide) (by decide) ?_ (Ext.refl _) rfl
            generalize Act.eval ⟨over Tv U, dd⟩ = ev at *
            simp [execOp, go_sem, v0, v1, ki]
          | 3, ho, hlv, hd =>
            obtain rfl := Option.some.inj ho
            have f0 : U 46 = some (.pointer (some ⟨b, off + kk * 17, none⟩)) := hT.facts 2 (by decide) (dep hd 2 (by kernel_rfl)) (fun c e => by cases e)
            have v0 : Act.eval ⟨over Tv U, dd⟩ (.tmp 46) = _ := eval_new (t := Tv) (d := dd) f0 (by show 46 < Tv.size; omega)
            refine tbw_yield (v := .agg CA) (rth1R_ext b off n c kk wr.heap.size CA CB q1 e1) hT ho hd (wanted_plain rfl) rfl (by decide) (by decide) (exec_load_arr _ _ rfl b (off + kk * 17) v0 CA _ (hx.range HRA.out) Tryz.underlying55 rfl IA.out) (Ext.refl _) rfl
          | 4, ho, hlv, hd =>
            obtain rfl := Option.some.inj ho
            have v0 := eval_old (d := dd) (hT.out 11 (by decide)) (by omega) t11
            refine tbw_yield (v := .agg CB) (rth1R_ext b off n c kk wr.heap.size CA CB q1 e1) hT ho hd (wanted_plain rfl) rfl (by decide) (by decide) (exec_load_row _ _ rfl wr.heap.size v0 _ _ _ _ (hx.blockAt HB3.out) Tryz.underlying64 rfl IB.out) (Ext.refl _) rfl
          | 5, ho, hlv, hd =>
            obtain rfl := Option.some.inj ho
            have f0 : U 47 = some (.agg CA) := hT.facts 3 (by decide) (dep hd 3 (by kernel_rfl)) (fun c e => by cases e)
            have v0 : Act.eval ⟨over Tv U, dd⟩ (.tmp 47) = _ := eval_new (t := Tv) (d := dd) f0 (by show 47 < Tv.size; omega)
            have f1 : U 48 = some (.agg CB) := hT.facts 4 (by decide) (dep hd 4 (by kernel_rfl)) (fun c e => by cases e)
            have v1 : Act.eval ⟨over Tv U, dd⟩ (.tmp 48) = _ := eval_new (t := Tv) (d := dd) f1 (by show 48 < Tv.size; omega)
            refine tbw_call (f := 26) (args := #[.agg CA, .agg CB]) (rth1R_ext b off n c kk wr.heap.size CA CB q1 e1) hT ho hd (wanted_plain rfl) rfl (by decide) (by decide) (exec_call2 rfl rfl v0 v1 ENS.out) ?_
            refine (HS1.out wz (HIX.out.ext hx) (HIN.out.ext hx) (HG3.out.ext hx)).mono ?_
            rintro e w' ⟨rfl, hb⟩
            exact ⟨_, rfl, hb, rfl⟩
          | 6, ho, hlv, hd =>
            obtain rfl := Option.some.inj ho
            have f0 : U 49 = some (.tuple #[.int .i64 q1, .int .i64 e1]) := hT.facts 5 (by decide) (dep hd 5 (by kernel_rfl)) (fun c e => by cases e)
            have v0 : Act.eval ⟨over Tv U, dd⟩ (.tmp 49) = _ := eval_new (t := Tv) (d := dd) f0 (by show 49 < Tv.size; omega)
            refine tbw_yield (v := .tuple #[.int .i64 q1, .int .i64 e1]) (rth1R_ext b off n c kk wr.heap.size CA CB q1 e1) hT ho hd (wanted_plain rfl) rfl (by decide) (by decide) ?_ (Ext.refl _) rfl
            generalize Act.eval ⟨over Tv U, dd⟩ = ev at *
            simp [execOp, go_sem, v0]
          | 7, ho, hlv, hd =>
            obtain rfl := Option.some.inj ho
            have f0 : U 43 = some (.tuple #[.int .i64 q1, .int .i64 e1]) := hT.facts 6 (by decide) (dep hd 6 (by kernel_rfl)) (fun c e => by cases e)
            have v0 : Act.eval ⟨over Tv U, dd⟩ (.tmp 43) = _ := eval_new (t := Tv) (d := dd) f0 (by show 43 < Tv.size; omega)
            refine tbw_yield (v := .int .i64 q1) (rth1R_ext b off n c kk wr.heap.size CA CB q1 e1) hT ho hd (wanted_plain rfl) rfl (by decide) (by decide) ?_ (Ext.refl _) rfl
            generalize Act.eval ⟨over Tv U, dd⟩ = ev at *
            simp [execOp, go_sem, v0]
          | 8, ho, hlv, hd =>
            obtain rfl := Option.some.inj ho
            have f0 : U 43 = some (.tuple #[.int .i64 q1, .int .i64 e1]) := hT.facts 6 (by decide) (dep hd 6 (by kernel_rfl)) (fun c e => by cases e)
            have v0 : Act.eval ⟨over Tv U, dd⟩ (.tmp 43) = _ := eval_new (t := Tv) (d := dd) f0 (by show 43 < Tv.size; omega)
            refine tbw_yield (v := .int .i64 e1) (rth1R_ext b off n c kk wr.heap.size CA CB q1 e1) hT ho hd (wanted_plain rfl) rfl (by decide) (by decide) ?_ (Ext.refl _) rfl
            generalize Act.eval ⟨over Tv U, dd⟩ = ev at *
            simp [execOp, go_sem, v0]
          | 9, ho, hlv, hd =>
            obtain rfl := Option.some.inj ho
            have f0 : U 50 = some (.int .i64 q1) := hT.facts 7 (by decide) (dep hd 7 (by kernel_rfl)) (fun c e => by cases e)
            have v0 : Act.eval ⟨over Tv U, dd⟩ (.tmp 50) = _ := eval_new (t := Tv) (d := dd) f0 (by show 50 < Tv.size; omega)
            refine tbw_yield (v := .int .i64 q1) (rth1R_ext b off n c kk wr.heap.size CA CB q1 e1) hT ho hd (wanted_plain rfl) rfl (by decide) (by decide) ?_ (Ext.refl _) rfl
            generalize Act.eval ⟨over Tv U, dd⟩ = ev at *
            simp [execOp, go_sem, v0]
          | 10, ho, hlv, hd =>
            obtain rfl := Option.some.inj ho
            have f0 : U 51 = some (.int .i64 e1) := hT.facts 8 (by decide) (dep hd 8 (by kernel_rfl)) (fun c e => by cases e)
            have v0 : Act.eval ⟨over Tv U, dd⟩ (.tmp 51) = _ := eval_new (t := Tv) (d := dd) f0 (by show 51 < Tv.size; omega)
            refine tbw_yield (v := .int .i64 e1) (rth1R_ext b off n c kk wr.heap.size CA CB q1 e1) hT ho hd (wanted_plain rfl) rfl (by decide) (by decide) ?_ (Ext.refl _) rfl
            generalize Act.eval ⟨over Tv U, dd⟩ = ev at *
            simp [execOp, go_sem, v0]
          | i + 11, ho, _, _ => exact absurd ho (by simp)
        intro U wz hex hout hfin
        have f13 : U 13 = some (.int .i64 q1) := hfin 9 (by decide) rfl
        have f14 : U 14 = some (.int .i64 e1) := hfin 10 (by decide) rfl
        have XE := Lib.hid hex
        clear hex hfin
        rw [over_list]
        simp (disch := decide) only [overL, Nat.reduceAdd, hout, Option.getD_none]
        rw [f13, f14]
        simp only [Option.getD_some]
        clear hout f13 f14
        have HRC := Lib.hid (XE.out.range HRC0.out)
        have HB4 := Lib.hid (XE.out.blockAt HB3.out)
        have HIY4 := Lib.hid (HIY.out.ext XE.out)
        have HIN4 := Lib.hid (HIN.out.ext XE.out)
        have HG4 := Lib.hid (HG3.out.ext XE.out)
        have HE6 := Lib.hid (HE5.out.trans XE.out)
        clear KI
        have KI := KJ0
        clear XE
        go_wp2_with fail
        refine region_tb (by kernel_rfl) (by decide +kernel) (rth2E b2 off2 m c' kk wr.heap.size) ⟨rfl, rfl, rfl, rfl⟩ 11 rth2D (fun _ => none) (rth2R b2 off2 m c' kk wr.heap.size CC CB q2 e2) wz (Ext.refl _) (fun i h1 h2 => absurd h2 (Nat.not_lt.2 h1)) ?_ ?_
        · intro Tv dd lv U wz i o hE ho hlv hd hT
          obtain ⟨t1, t11, t12, tz⟩ := hE
          have hx := hT.ext
          match i, ho, hlv, hd with
          | 0, ho, hlv, hd =>
            obtain rfl := Option.some.inj ho
            have v0 := eval_old (d := dd) (hT.out 1 (by decide)) (by omega) t1
            refine tbw_yield (v := .slice (some ⟨b2, off2, none⟩) m c') (rth2R_ext b2 off2 m c' kk wr.heap.size CC CB q2 e2) hT ho hd (wanted_plain rfl) rfl (by decide) (by decide) ?_ (Ext.refl _) rfl
            generalize Act.eval ⟨over Tv U, dd⟩ = ev at *
            simp [execOp, go_sem, v0]
          | 1, ho, hlv, hd =>
            obtain rfl := Option.some.inj ho
            have v0 := eval_old (d := dd) (hT.out 12 (by decide)) (by omega) t12
            refine tbw_yield (v := .int .i64 (kk : Int)) (rth2R_ext b2 off2 m c' kk wr.heap.size CC CB q2 e2) hT ho hd (wanted_plain rfl) rfl (by decide) (by decide) ?_ (Ext.refl _) rfl
            generalize Act.eval ⟨over Tv U, dd⟩ = ev at *
            simp [execOp, go_sem, v0]
          | 2, ho, hlv, hd =>
            obtain rfl := Option.some.inj ho
            have f0 : U 53 = some (.slice (some ⟨b2, off2, none⟩) m c') := hT.facts 0 (by decide) (dep hd 0 (by kernel_rfl)) (fun c e => by cases e)
            have v0 : Act.eval ⟨over Tv U, dd⟩ (.tmp 53) = _ := eval_new (t := Tv) (d := dd) f0 (by show 53 < Tv.size; omega)
            have f1 : U 54 = some (.int .i64 (kk : Int)) := hT.facts 1 (by decide) (dep hd 1 (by kernel_rfl)) (fun c e => by cases e)
            have v1 : Act.eval ⟨over Tv U, dd⟩ (.tmp 54) = _ := eval_new (t := Tv) (d := dd) f1 (by show 54 < Tv.size; omega)
            have ki := KI.out
            refine tbw_yield (v := .pointer (some ⟨b2, off2 + kk * 17, none⟩)) (rth2R_ext b2 off2 m c' kk wr.heap.size CC CB q2 e2) hT ho hd (wanted_plain rfl) rfl (by decide) (by decide) ?_ (Ext.refl _) rfl
            generalize Act.eval ⟨over Tv U, dd⟩ = ev at *
            simp [execOp, go_sem, v0, v1, ki]
          | 3, ho, hlv, hd =>
            obtain rfl := Option.some.inj ho
            have f0 : U 55 = some (.pointer (some ⟨b2, off2 + kk * 17, none⟩)) := hT.facts 2 (by decide) (dep hd 2 (by kernel_rfl)) (fun c e => by cases e)
            have v0 : Act.eval ⟨over Tv U, dd⟩ (.tmp 55) = _ := eval_new (t := Tv) (d := dd) f0 (by show 55 < Tv.size; omega)
            refine tbw_yield (v := .agg CC) (rth2R_ext b2 off2 m c' kk wr.heap.size CC CB q2 e2) hT ho hd (wanted_plain rfl) rfl (by decide) (by decide) (exec_load_arr _ _ rfl b2 (off2 + kk * 17) v0 CC _ (hx.range HRC.out) Tryz.underlying55 rfl IC.out) (Ext.refl _) rfl
          | 4, ho, hlv, hd =>
            obtain rfl := Option.some.inj ho
            have v0 := eval_old (d := dd) (hT.out 11 (by decide)) (by omega) t11
            refine tbw_yield (v := .agg CB) (rth2R_ext b2 off2 m c' kk wr.heap.size CC CB q2 e2) hT ho hd (wanted_plain rfl) rfl (by decide) (by decide) (exec_load_row _ _ rfl wr.heap.size v0 _ _ _ _ (hx.blockAt HB4.out) Tryz.underlying64 rfl IB.out) (Ext.refl _) rfl
          | 5, ho, hlv, hd =>
            obtain rfl := Option.some.inj ho
            have f0 : U 56 = some (.agg CC) := hT.facts 3 (by decide) (dep hd 3 (by kernel_rfl)) (fun c e => by cases e)
            have v0 : Act.eval ⟨over Tv U, dd⟩ (.tmp 56) = _ := eval_new (t := Tv) (d := dd) f0 (by show 56 < Tv.size; omega)
            have f1 : U 57 = some (.agg CB) := hT.facts 4 (by decide) (dep hd 4 (by kernel_rfl)) (fun c e => by cases e)
            have v1 : Act.eval ⟨over Tv U, dd⟩ (.tmp 57) = _ := eval_new (t := Tv) (d := dd) f1 (by show 57 < Tv.size; omega)
            refine tbw_call (f := 26) (args := #[.agg CC, .agg CB]) (rth2R_ext b2 off2 m c' kk wr.heap.size CC CB q2 e2) hT ho hd (wanted_plain rfl) rfl (by decide) (by decide) (exec_call2 rfl rfl v0 v1 ENS.out) ?_
            refine (HS2.out wz (HIY4.out.ext hx) (HIN4.out.ext hx) (HG4.out.ext hx)).mono ?_
            rintro e w' ⟨rfl, hb⟩
            exact ⟨_, rfl, hb, rfl⟩
          | 6, ho, hlv, hd =>
            obtain rfl := Option.some.inj ho
            have f0 : U 58 = some (.tuple #[.int .i64 q2, .int .i64 e2]) := hT.facts 5 (by decide) (dep hd 5 (by kernel_rfl)) (fun c e => by cases e)
            have v0 : Act.eval ⟨over Tv U, dd⟩ (.tmp 58) = _ := eval_new (t := Tv) (d := dd) f0 (by show 58 < Tv.size; omega)
            refine tbw_yield (v := .tuple #[.int .i64 q2, .int .i64 e2]) (rth2R_ext b2 off2 m c' kk wr.heap.size CC CB q2 e2) hT ho hd (wanted_plain rfl) rfl (by decide) (by decide) ?_ (Ext.refl _) rfl
            generalize Act.eval ⟨over Tv U, dd⟩ = ev at *
            simp [execOp, go_sem, v0]
          | 7, ho, hlv, hd =>
            obtain rfl := Option.some.inj ho
            have f0 : U 52 = some (.tuple #[.int .i64 q2, .int .i64 e2]) := hT.facts 6 (by decide) (dep hd 6 (by kernel_rfl)) (fun c e => by cases e)
            have v0 : Act.eval ⟨over Tv U, dd⟩ (.tmp 52) = _ := eval_new (t := Tv) (d := dd) f0 (by show 52 < Tv.size; omega)
            refine tbw_yield (v := .int .i64 q2) (rth2R_ext b2 off2 m c' kk wr.heap.size CC CB q2 e2) hT ho hd (wanted_plain rfl) rfl (by decide) (by decide) ?_ (Ext.refl _) rfl
            generalize Act.eval ⟨over Tv U, dd⟩ = ev at *
            simp [execOp, go_sem, v0]
          | 8, ho, hlv, hd =>
            obtain rfl := Option.some.inj ho
            have f0 : U 52 = some (.tuple #[.int .i64 q2, .int .i64 e2]) := hT.facts 6 (by decide) (dep hd 6 (by kernel_rfl)) (fun c e => by cases e)
            have v0 : Act.eval ⟨over Tv U, dd⟩ (.tmp 52) = _ := eval_new (t := Tv) (d := dd) f0 (by show 52 < Tv.size; omega)
            refine tbw_yield (v := .int .i64 e2) (rth2R_ext b2 off2 m c' kk wr.heap.size CC CB q2 e2) hT ho hd (wanted_plain rfl) rfl (by decide) (by decide) ?_ (Ext.refl _) rfl
            generalize Act.eval ⟨over Tv U, dd⟩ = ev at *
            simp [execOp, go_sem, v0]
          | 9, ho, hlv, hd =>
            obtain rfl := Option.some.inj ho
            have f0 : U 59 = some (.int .i64 q2) := hT.facts 7 (by decide) (dep hd 7 (by kernel_rfl)) (fun c e => by cases e)
            have v0 : Act.eval ⟨over Tv U, dd⟩ (.tmp 59) = _ := eval_new (t := Tv) (d := dd) f0 (by show 59 < Tv.size; omega)
            refine tbw_yield (v := .int .i64 q2) (rth2R_ext b2 off2 m c' kk wr.heap.size CC CB q2 e2) hT ho hd (wanted_plain rfl) rfl (by decide) (by decide) ?_ (Ext.refl _) rfl
            generalize Act.eval ⟨over Tv U, dd⟩ = ev at *
            simp [execOp, go_sem, v0]
          | 10, ho, hlv, hd =>
            obtain rfl := Option.some.inj ho
            have f0 : U 60 = some (.int .i64 e2) := hT.facts 8 (by decide) (dep hd 8 (by kernel_rfl)) (fun c e => by cases e)
            have v0 : Act.eval ⟨over Tv U, dd⟩ (.tmp 60) = _ := eval_new (t := Tv) (d := dd) f0 (by show 60 < Tv.size; omega)
            refine tbw_yield (v := .int .i64 e2) (rth2R_ext b2 off2 m c' kk wr.heap.size CC CB q2 e2) hT ho hd (wanted_plain rfl) rfl (by decide) (by decide) ?_ (Ext.refl _) rfl
            generalize Act.eval ⟨over Tv U, dd⟩ = ev at *
            simp [execOp, go_sem, v0]
          | i + 11, ho, _, _ => exact absurd ho (by simp)
        intro U wy hex hout hfin
        have f15 : U 15 = some (.int .i64 q2) := hfin 9 (by decide) rfl
        have f16 : U 16 = some (.int .i64 e2) := hfin 10 (by decide) rfl
        have XE := Lib.hid hex
        clear hex hfin
        rw [over_list]
        simp (disch := decide) only [overL, Nat.reduceAdd, hout, Option.getD_none]
        rw [f15, f16]
        simp only [Option.getD_some]
        clear hout f15 f16
        have HE7 := Lib.hid (HE6.out.trans XE.out)
        have hcase : (e1 = 0 ∧ e2 = 0 ∧ q1 = q2) ∨ (e1 = 0 ∧ e2 = 0 ∧ q1 ≠ q2) ∨ (e1 = 0 ∧ e2 ≠ 0) ∨ (e1 ≠ 0 ∧ e2 = 0) ∨ (e1 ≠ 0 ∧ e2 ≠ 0) := by
          by_cases h1 : e1 = 0 <;> by_cases h2 : e2 = 0 <;> by_cases h3 : q1 = q2 <;> simp [h1, h2, h3]
        have HCS := Lib.hid hcase
        clear hcase
        have same : ∀ (b1 b2 : Bool), (e1 == 0) = b1 → (e2 == 0) = b2 → True := fun _ _ _ _ => trivial
        clear same
        rcases HCS.out with ⟨g1, g2, g3⟩ | ⟨g1, g2, g3⟩ | ⟨g1, g2⟩ | ⟨g1, g2⟩ | ⟨g1, g2⟩
        · have t1 : (e1 == 0) = true := by rw [g1]; rfl
          have t2 : (e2 == 0) = true := by rw [g2]; rfl
          have t3 : (q1 != q2) = false := by rw [g3]; simp
          have HZN : Hid (((Rt.ans al).take (k + 1)).any (Rs.afA (Rt.its xs) (Rt.its ys)) = false) := Lib.hid (Rt.any_next HAN.out HZ.out (by rw [HAF.out, g1, g2, g3]; simp))
          clear g1 g2 g3 HCS
          go_wp2
          go_roundw
          case rel => exact ⟨k + 1, by omega, by go_num, HZN, HE7⟩
          case measure => simp [intOf]; omega
        · have t1 : (e1 == 0) = true := by rw [g1]; rfl
          have t2 : (e2 == 0) = true := by rw [g2]; rfl
          have t3 : (q1 != q2) = true := by rw [bne_iff_ne]; exact g3
          have HFT : Hid (vv = true) := Lib.hid (by rw [HFV.out]; exact Rt.any_hit HAN.out (by rw [HAF.out, g1, g2]; simp [g3]))
          clear g1 g2 g3 HCS
          go_wp2
          go_ret2
          exact ⟨ret_be HFT.out.symm HF0.out.symm, HE7.out⟩
        · have t1 : (e1 == 0) = true := by rw [g1]; rfl
          have t2 : (e2 == 0) = false := by rw [beq_eq_false_iff_ne]; exact g2
          have HFT : Hid (vv = true) := Lib.hid (by rw [HFV.out]; exact Rt.any_hit HAN.out (by rw [HAF.out, g1]; simp [g2]))
          clear g1 g2 HCS
          go_wp2
          go_ret2
          exact ⟨ret_be HFT.out.symm HF0.out.symm, HE7.out⟩
        · have t1 : (e1 == 0) = false := by rw [beq_eq_false_iff_ne]; exact g1
          have t2 : (e2 == 0) = true := by rw [g2]; rfl
          have HFT : Hid (vv = true) := Lib.hid (by rw [HFV.out]; exact Rt.any_hit HAN.out (by rw [HAF.out, g2]; simp [g1]))
          clear g1 g2 HCS
          go_wp2
          go_ret2
          exact ⟨ret_be HFT.out.symm HF0.out.symm, HE7.out⟩
        · have t1 : (e1 == 0) = false := by rw [beq_eq_false_iff_ne]; exact g1
          have t2 : (e2 == 0) = false := by rw [beq_eq_false_iff_ne]; exact g2
          have HZN : Hid (((Rt.ans al).take (k + 1)).any (Rs.afA (Rt.its xs) (Rt.its ys)) = false) := Lib.hid (Rt.any_next HAN.out HZ.out (by rw [HAF.out]; simp [g1, g2]))
          clear g1 g2 HCS
          go_wp2
          go_roundw
          case rel => exact ⟨k + 1, by omega, by go_num, HZN, HE7⟩
          case measure => simp [intOf]; omega
      · obtain rfl : s = k := by omega
        have HFT : Hid (vv = false) := Lib.hid (by
          have := HZ.out
          rw [List.take_of_length_le (by rw [HAL.out]; exact Nat.le_refl _)] at this
          rw [HFV.out]; exact this)
        go_wp2
        go_ret2
        exact ⟨ret_be HFT.out.symm HF0.out.symm, HE.out⟩
end Go.Proofs.YtgaepmddbjdhfaaGreatDoor
namespace Go.Proofs.YtgaepmddbjdhfaaGreatDoor
open Go.ChangeShapes Go.WideShapes Go.ChangeAt Go.RowKit
set_option maxRecDepth 100000 in
set_option maxHeartbeats 3200000 in
theorem named_true (A : Option Addr) (c : Nat) (cs : List Rt.ChL) {m : Nat} (hm : cs.length = m) (id : Int) {k0 : Nat} {x0 : Rt.ChL} (hx0 : cs[k0]? = some x0) (he : x0.1.1.id = id) (w : World) (h : Rt.SlCh w A cs) (hl : m ≤ 9223372036854775807) :
    Calls Tryz.prog 21 #[.slice A m c, .int .i64 id] w fun e w' => e = .returned (.bool true) ∧ w = w' := by
  have H := Lib.hid h
  have HN := Lib.hid hm
  have HX0 := Lib.hid hx0
  have HE := Lib.hid he
  have hk0 : k0 < m := by rw [← hm]; exact (List.getElem?_eq_some_iff.1 hx0).1
  clear h hm hx0 he
  go_enter Tryz.func21, Tryz.ntmps21
  go_wp2
  go_loop [5] (fun i => ∃ k : Nat, k ≤ k0 ∧ i = .int .i64 k) (fun i => m - (intOf i).toNat)
  case atStart => exact ⟨0, by omega, rfl⟩
  case round =>
    obtain ⟨k, hk, rfl⟩ := hrel
    have hlt : k < m := by omega
    obtain ⟨x, hx⟩ : ∃ x, cs[k]? = some x := ⟨cs[k]'(by rw [HN.out]; exact hlt), List.getElem?_eq_getElem _⟩
    obtain ⟨b, off, rfl, hb, hc, -⟩ := H.out.at_ hx
    have c0 : w.cell? ⟨b, off + k * 18, none⟩ = some (.int .i64 x.1.1.id) := hc 0 _ rfl
    have HX := Lib.hid hx
    have ki0 : (0 : Int) ≤ (k : Int) := by omega
    have ki1 : (k : Int) < (m : Int) := by omega
    clear hx hc
    by_cases hq : x.1.1.id = id
    · have t0 : (x.1.1.id == id) = true := by rw [beq_iff_eq]; exact hq
      clear hq
      go_wp2
      go_ret
      exact ⟨rfl, rfl⟩
    · have t0 : (x.1.1.id == id) = false := by rw [beq_eq_false_iff_ne]; exact hq
      have hk2 : k + 1 ≤ k0 := by
        rcases Nat.lt_or_ge k k0 with g | g
        · exact g
        · obtain rfl : k = k0 := by omega
          have := HX.out.symm.trans HX0.out
          injection this with this
          subst this
          exact absurd HE.out hq
      clear hq
      go_wp2
      go_round
      case rel => exact ⟨k + 1, hk2, by go_num⟩
      case measure => simp [intOf]; omega
end Go.Proofs.YtgaepmddbjdhfaaGreatDoor
namespace Go.Proofs.YtgaepmddbjdhfaaGreatDoor
open Go.ChangeShapes Go.WideShapes Go.ChangeAt Go.RowKit
theorem own_zeroB {w : World} (base : Nat) (e : TypeId) (size : Nat) (h : base ≤ w.heap.size) : (w.alloc (.cells #[] e)).ownsRow base e size (.slice (some ⟨w.heap.size, 0, none⟩) 0 0) 0 [] :=
  ⟨by simp, Or.inr ⟨w.heap.size, 0, #[], rfl, h, heap_alloc_new _ _, Nat.le_refl _, Nat.zero_le _, by simp, by simp⟩⟩
/-- The address of a slice's rest. -/
def moved (A : Option Addr) (c i k : Nat) : Option Addr := if c = i then A else A.map (·.add (i * k))
theorem sl_drop {w : World} {k c : Nat} {A : Option Addr} {xs : List (List Value)} (h : Sl w k A xs) (hc : xs.length ≤ c) (i : Nat) : Sl w k (moved A c i k) (xs.drop i) := by
  rcases Nat.lt_or_ge i xs.length with hi | hi
  · unfold moved
    rw [if_neg (by omega)]
    rcases h with h | ⟨b, off, hA, hb, hcs⟩
    · subst h; exact absurd hi (Nat.not_lt_zero _)
    · subst hA
      refine Or.inr ⟨b, off + i * k, by simp [Addr.add], hb, fun j cs hj r v hv => ?_⟩
      rw [List.getElem?_drop] at hj
      have := hcs (i + j) cs hj r v hv
      rw [Nat.add_mul] at this
      rw [show off + (i * k + j * k + r) = off + i * k + (j * k + r) by omega] at this
      exact this
  · exact Or.inl (List.drop_of_length_le hi)
theorem sl_take {w : World} {k c : Nat} {A : Option Addr} {xs : List (List Value)} (h : Sl w k A xs) (i : Nat) : Sl w k (moved A c 0 k) (xs.take i) := by
  rcases h with h | ⟨b, off, hA, hb, hcs⟩
  · subst h; exact Or.inl List.take_nil
  · subst hA
    refine Or.inr ⟨b, off, ?_, hb, fun j cs hj r v hv => ?_⟩
    · unfold moved
      split
      · rfl
      · simp [Addr.add]
    · rw [List.getElem?_take] at hj
      split at hj
      · exact hcs j cs hj r v hv
      · cases hj
theorem run_slice_low {P : Program} (w : World) (t e : TypeId) (k : Nat) (A : Option Addr) (n c i : Nat) (hu : P.underlying t = some (.slice e)) (hk : (P.info? e).map (·.size) = some k) (hi : i ≤ n) :
    (Instr.slice t (.slice A n c) (some (.int .i64 (i : Int))) none none).run P w = .ok (.slice (moved A c i k) (n - i) (c - i)) w := by
  obtain ⟨ie, hie, hs⟩ := Option.map_eq_some_iff.1 hk
  unfold moved
  have h1 : (0 : Int) ≤ (i : Int) ∧ (i : Int) ≤ (n : Int) := by omega
  simp [Instr.slice, Instr.sliceBounds, Instr.sliceBound, asIntOf, run_underlying hu, sizeOf, typeInfo, hie, hs, h1, hi]
theorem run_slice_high {P : Program} (w : World) (t e : TypeId) (k : Nat) (A : Option Addr) (n c i : Nat) (hu : P.underlying t = some (.slice e)) (hk : (P.info? e).map (·.size) = some k) (hi : i ≤ c) :
    (Instr.slice t (.slice A n c) none (some (.int .i64 (i : Int))) none).run P w = .ok (.slice (moved A c 0 k) i c) w := by
  obtain ⟨ie, hie, hs⟩ := Option.map_eq_some_iff.1 hk
  unfold moved
  have h1 : (0 : Int) ≤ (i : Int) ∧ (i : Int) ≤ (c : Int) := by omega
  simp [Instr.slice, Instr.sliceBounds, Instr.sliceBound, asIntOf, run_underlying hu, sizeOf, typeInfo, hie, h1, hi]
theorem exec_slice_low {P : Program} {ev : Operand → Value} {o : Oper} {w : World} {t e : TypeId} {x lo : Operand} {vx vl v : Value} (hu : P.underlying t = some (.slice e)) (ho : o.op = .slice t x (some lo) none none) (hx : ev x = vx) (hl : ev lo = vl)
    (hr : (Instr.slice t vx (some vl) none none).run P w = .ok v w) : (execOp ev o).run P w = .ok (.value v) w := by
  have h2 : (Instr.sliceAt t vx (some vl) none none).run P w = .ok v w := by rw [← hr]; simp [Instr.sliceAt, run_underlying hu]
  unfold execOp
  simp only [ho, Sem.run_bind, Sem.run_pure, Result.andThen_ok, Option.map_some, Option.map_none, hx, hl, h2]
theorem exec_slice_high {P : Program} {ev : Operand → Value} {o : Oper} {w : World} {t e : TypeId} {x hi : Operand} {vx vh v : Value} (hu : P.underlying t = some (.slice e)) (ho : o.op = .slice t x none (some hi) none) (hx : ev x = vx) (hl : ev hi = vh)
    (hr : (Instr.slice t vx none (some vh) none).run P w = .ok v w) : (execOp ev o).run P w = .ok (.value v) w := by
  have h2 : (Instr.sliceAt t vx none (some vh) none).run P w = .ok v w := by rw [← hr]; simp [Instr.sliceAt, run_underlying hu]
  unfold execOp
  simp only [ho, Sem.run_bind, Sem.run_pure, Result.andThen_ok, Option.map_some, Option.map_none, hx, hl, h2]
theorem scl_len (l : List Rs.Stp) : ∀ c ∈ l.map Rt.scl, c.length = 2 := fun c hc => by
  obtain ⟨x, -, rfl⟩ := List.mem_map.1 hc
  rfl
theorem scl_ones (l : List Rs.Stp) : ∀ c ∈ l.map Rt.scl, ∀ u ∈ c, u.oneCell' = true := fun c hc u hu => by
  obtain ⟨x, -, rfl⟩ := List.mem_map.1 hc
  unfold Rt.scl at hu
  simp only [List.mem_cons, List.not_mem_nil, or_false] at hu
  rcases hu with rfl | rfl <;> rfl
theorem Tryz.infoStp : (Tryz.prog.info? 50).map (·.size) = some 2 := by kernel_rfl
end Go.Proofs.YtgaepmddbjdhfaaGreatDoor
