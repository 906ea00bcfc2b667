/- codec.Equal and slices.EqualFunc with it: contracts. Conditions: those of each theorem. -/
import Derived.Test.YtdaccamiipknmaaDoorIuF
namespace Go.Proofs.YtdaccamiipknmaaDoor
open Go.RowKit Go.Shelf

open Classical in
/-- Two nodes say the same. -/
noncomputable def ndE (x y : Nd) : Bool := decide (x = y)
open Classical in
noncomputable def ksE (ks js : List Nd) : Bool := decide (ks = js)
open Classical in
theorem ndE_iff {x y : Nd} : ndE x y = true ↔ x = y := by unfold ndE; exact decide_eq_true_iff
open Classical in
theorem ksE_iff {x y : List Nd} : ksE x y = true ↔ x = y := by unfold ksE; exact decide_eq_true_iff
open Classical in
theorem ndE_no {x y : Nd} (h : x ≠ y) : ndE x y = false := by unfold ndE; exact decide_eq_false h
open Classical in
theorem ksE_no {x y : List Nd} (h : x ≠ y) : ksE x y = false := by unfold ksE; exact decide_eq_false h
/-- What is asked of Equal at the children's level. -/
def EqAt (B d : Nat) : Prop := ∀ (x y : Nd) (M M' : Option Addr × Nat) (w : World), KidsAt B 0 d w M x.kids → KidsAt B 0 d w M' y.kids →
  Calls Tryd.prog 16 #[nda x M, nda y M'] w fun e w' => e = .returned (.bool (ndE x y)) ∧ Ext w w'
set_option maxRecDepth 100000 in
set_option maxHeartbeats 12800000 in
theorem eqf_any (B : Nat) (hB : B ≤ 1000000) (d : Nat) (ih : EqAt B d) (ks js : List Nd) (L L' : Option Addr × Nat) (w : World) (h : KidsAt B 0 (d + 1) w L ks) (h' : KidsAt B 0 (d + 1) w L' js) :
    Calls Tryd.prog 36 #[.slice L.1 ks.length L.2, .slice L'.1 js.length L'.2, .func (.func 16) #[] #[]] w fun e w' => e = .returned (.bool (ksE ks js)) ∧ Ext w w' := by
  have HIH := Lib.hid ih
  have H := Lib.hid h
  have H' := Lib.hid h'
  have hf := h.few
  have hf' := h'.few
  clear ih h h'
  obtain ⟨A, c⟩ := L
  obtain ⟨A', c'⟩ := L'
  dsimp only
  obtain ⟨n, hn⟩ : ∃ n, ks.length = n := ⟨_, rfl⟩
  obtain ⟨m, hm⟩ : ∃ n, js.length = n := ⟨_, rfl⟩
  rw [hn] at hf ⊢
  rw [hm] at hf' ⊢
  obtain ⟨v, hv⟩ : ∃ v, ksE ks js = v := ⟨_, rfl⟩
  rw [hv]
  have HN := Lib.hid hn
  have HM := Lib.hid hm
  have HV := Lib.hid hv
  clear hn hm hv
  by_cases hnm : n = m
  case neg =>
    have HF : Hid (v = false) := Lib.hid (by rw [← HV.out]; exact ksE_no (fun e => hnm (by rw [← HN.out, ← HM.out, e])))
    have t0 : ((n : Int) != (m : Int)) = true := by rw [bne_iff_ne]; omega
    clear hnm
    go_enter Tryd.func36, Tryd.ntmps36
    go_wp2
    go_ret
    exact ⟨ret_bool HF.out.symm, Ext.refl _⟩
  subst hnm
  have t0 : ((n : Int) != (n : Int)) = false := by simp
  go_enter Tryd.func36, Tryd.ntmps36
  go_wp2
  go_loopw [17] (fun i wr => ∃ k : Nat, k ≤ n ∧ i = .int .i64 k ∧ Hid (∀ i, i < k → ks[i]? = js[i]?) ∧ Hid (Ext w wr)) (fun i _ => n - (intOf i).toNat)
  case atStart => exact ⟨0, by omega, rfl, Lib.hid (fun i hi => by omega), Lib.hid (Ext.refl _)⟩
  case round =>
    obtain ⟨k, hk, rfl, HP, HE⟩ := hrel
    by_cases hlt : k < n
    · obtain ⟨x, hx⟩ : ∃ x, ks[k]? = some x := ⟨ks[k]'(by rw [HN.out]; exact hlt), List.getElem?_eq_getElem _⟩
      obtain ⟨y, hy⟩ : ∃ y, js[k]? = some y := ⟨js[k]'(by rw [HM.out]; exact hlt), List.getElem?_eq_getElem _⟩
      obtain ⟨b, off, M, hA, hb0, c0, c1, c2, c3, c4, hKM⟩ := (H.out.ext HE.out).at_ hx
      obtain ⟨b', off', M', hA', hb0', e0, e1, e2, e3, e4, hKM'⟩ := (H'.out.ext HE.out).at_ hy
      dsimp only at hA hA'
      subst hA hA'
      have HX := Lib.hid hx
      have HY := Lib.hid hy
      have HKM := Lib.hid hKM
      have HKM' := Lib.hid hKM'
      clear hx hy hKM hKM'
      have ki0 : (0 : Int) ≤ (k : Int) := by omega
      have ki1 : (k : Int) < (n : Int) := by omega
      obtain ⟨q, hq⟩ : ∃ q, ndE x y = q := ⟨_, rfl⟩
      have HQ := Lib.hid hq
      have HIX : Hid (∀ w, KidsAt B 0 d w M x.kids → KidsAt B 0 d w M' y.kids → Calls Tryd.prog 16 #[.agg #[.int .i64 x.tag, .int .i64 x.kind, .int .i64 x.n, .string x.s, .slice M.1 x.kids.length M.2], .agg #[.int .i64 y.tag, .int .i64 y.kind, .int .i64 y.n, .string y.s, .slice M'.1 y.kids.length M'.2]] w fun e w' => e = .returned (.bool q) ∧ Ext w w') := Lib.hid (fun w h1 h2 => by
        have := HIH.out x y M M' w h1 h2
        rw [hq] at this
        exact this)
      have X1 : Hid (Ext wr ((wr.alloc (.cells #[.int .i64 x.tag, .int .i64 x.kind, .int .i64 x.n, .string x.s, .slice M.1 x.kids.length M.2] 36)).alloc (.cells #[.int .i64 y.tag, .int .i64 y.kind, .int .i64 y.n, .string y.s, .slice M'.1 y.kids.length M'.2] 36))) := Lib.hid (((Ext.refl _).alloc _).alloc _)
      clear hq
      cases q with
      | true =>
        have HXY : Hid (x = y) := Lib.hid (ndE_iff.1 HQ.out)
        have HPN : Hid (∀ i, i < k + 1 → ks[i]? = js[i]?) := Lib.hid (fun i hi => by
          rcases Nat.lt_or_ge i k with g | g
          · exact HP.out i g
          · obtain rfl : i = k := by omega
            rw [HX.out, HY.out, HXY.out])
        go_wp2_with fail
        with_reducible refine (HIX.out _ (HKM.out.ext X1.out) (HKM'.out.ext X1.out)).mono ?_
        rintro e w3 ⟨rfl, hb3⟩
        have HE3 := Lib.hid (HE.out.trans (X1.out.trans hb3))
        clear hb3
        go_wp2
        go_roundw
        case rel => exact ⟨k + 1, by omega, by go_num, HPN, HE3⟩
        case measure => simp [intOf]; omega
      | false =>
        have HF : Hid (v = false) := Lib.hid (by
          rw [← HV.out]
          refine ksE_no (fun e => ?_)
          have h1 := HX.out
          rw [e, HY.out] at h1
          have h2 := Option.some.inj h1
          have h3 := HQ.out
          rw [ndE_iff.2 h2.symm] at h3
          cases h3)
        go_wp2_with fail
        with_reducible refine (HIX.out _ (HKM.out.ext X1.out) (HKM'.out.ext X1.out)).mono ?_
        rintro e w3 ⟨rfl, hb3⟩
        have HE3 := Lib.hid (HE.out.trans (X1.out.trans hb3))
        clear hb3
        go_wp2
        go_ret
        exact ⟨ret_bool HF.out.symm, HE3.out⟩
    · obtain rfl : k = n := by omega
      have HF : Hid (v = true) := Lib.hid (by
        rw [← HV.out]
        exact ksE_iff.2 (It.eq_at (HN.out.trans HM.out.symm) (fun i hi => HP.out i (by rw [← HN.out]; exact hi))))
      go_wp2
      go_ret
      exact ⟨ret_bool HF.out.symm, HE.out⟩
theorem eqf_nil (L L' : Option Addr × Nat) (w : World) :
    Calls Tryd.prog 36 #[.slice L.1 0 L.2, .slice L'.1 0 L'.2, .func (.func 16) #[] #[]] w fun e w' => e = .returned (.bool true) ∧ Ext w w' := by
  obtain ⟨A, c⟩ := L
  obtain ⟨A', c'⟩ := L'
  dsimp only
  go_enter Tryd.func36, Tryd.ntmps36
  go_wp2
  go_loopw [17] (fun i wr => i = .int .i64 0 ∧ Ext w wr) (fun _ _ => 0)
  case atStart => exact ⟨rfl, Ext.refl _⟩
  case round =>
    obtain ⟨rfl, he⟩ := hrel
    go_wp2
    go_ret
    exact ⟨rfl, he⟩
/-- What is asked of EqualFunc at the children's level. -/
def EfAt (B d : Nat) : Prop := ∀ (ks js : List Nd) (L L' : Option Addr × Nat) (w : World), KidsAt B 0 d w L ks → KidsAt B 0 d w L' js →
  Calls Tryd.prog 36 #[.slice L.1 ks.length L.2, .slice L'.1 js.length L'.2, .func (.func 16) #[] #[]] w fun e w' => e = .returned (.bool (ksE ks js)) ∧ Ext w w'
set_option maxRecDepth 100000 in
set_option maxHeartbeats 12800000 in
theorem equal_step (B d : Nat) (ih : EfAt B d) : EqAt B d := by
  rintro ⟨t, kd, m, s, ks⟩ ⟨t', kd', m', s', js⟩ M M' w hK hK'
  have HIH := Lib.hid ih
  have HK : Hid (KidsAt B 0 d w M ks) := Lib.hid hK
  have HK' : Hid (KidsAt B 0 d w M' js) := Lib.hid hK'
  clear ih hK hK'
  obtain ⟨v, hv⟩ : ∃ v, ndE (.mk t kd m s ks) (.mk t' kd' m' s' js) = v := ⟨_, rfl⟩
  rw [hv]
  have HV := Lib.hid hv
  clear hv
  simp only [nda, Nd.tag, Nd.kind, Nd.n, Nd.s, Nd.kids]
  obtain ⟨q, hq⟩ : ∃ q, ksE ks js = q := ⟨_, rfl⟩
  have HQ := Lib.hid hq
  clear hq
  have HC : Hid (∀ w, KidsAt B 0 d w M ks → KidsAt B 0 d w M' js → Calls Tryd.prog 36 #[.slice M.1 ks.length M.2, .slice M'.1 js.length M'.2, .func (.func 16) #[] #[]] w fun e w' => e = .returned (.bool q) ∧ Ext w w') := Lib.hid (fun w h1 h2 => by
    have := HIH.out ks js M M' w h1 h2
    rw [HQ.out] at this
    exact this)
  generalize ks.length = n at *
  generalize js.length = n' at *
  go_enter Tryd.func16, Tryd.ntmps16

  by_cases h0 : t = t'
  case neg =>
    have HF : Hid (v = false) := Lib.hid (by rw [← HV.out]; refine ndE_no (fun e => h0 ?_); injection e)
    have t0 : (t == t') = false := by rw [beq_eq_false_iff_ne]; exact h0
    clear h0
    go_wp2
    go_ret
    exact ⟨ret_bool HF.out.symm, ((Ext.refl _).alloc _).alloc _⟩
  have t0 : (t == t') = true := by rw [beq_iff_eq]; exact h0
  have E0 := Lib.hid h0
  clear h0
  by_cases h1 : kd = kd'
  case neg =>
    have HF : Hid (v = false) := Lib.hid (by rw [← HV.out]; refine ndE_no (fun e => h1 ?_); injection e)
    have t1 : (kd == kd') = false := by rw [beq_eq_false_iff_ne]; exact h1
    clear h1
    go_wp2
    go_ret
    exact ⟨ret_bool HF.out.symm, ((Ext.refl _).alloc _).alloc _⟩
  have t1 : (kd == kd') = true := by rw [beq_iff_eq]; exact h1
  have E1 := Lib.hid h1
  clear h1
  by_cases h2 : m = m'
  case neg =>
    have HF : Hid (v = false) := Lib.hid (by rw [← HV.out]; refine ndE_no (fun e => h2 ?_); injection e)
    have t2 : (m == m') = false := by rw [beq_eq_false_iff_ne]; exact h2
    clear h2
    go_wp2
    go_ret
    exact ⟨ret_bool HF.out.symm, ((Ext.refl _).alloc _).alloc _⟩
  have t2 : (m == m') = true := by rw [beq_iff_eq]; exact h2
  have E2 := Lib.hid h2
  clear h2
  by_cases h3 : s = s'
  case neg =>
    have HF : Hid (v = false) := Lib.hid (by rw [← HV.out]; refine ndE_no (fun e => h3 ?_); injection e)
    have t3 : (s.toList == s'.toList) = false := by rw [It.beqB]; exact decide_eq_false h3
    clear h3
    go_wp2
    go_ret
    exact ⟨ret_bool HF.out.symm, ((Ext.refl _).alloc _).alloc _⟩
  have t3 : (s.toList == s'.toList) = true := by rw [It.beqB]; exact decide_eq_true h3
  have E3 := Lib.hid h3
  clear h3
  cases q with
  | true =>
    have HF : Hid (v = true) := Lib.hid (by rw [← HV.out]; refine ndE_iff.2 ?_; rw [E0.out, E1.out, E2.out, E3.out, ksE_iff.1 HQ.out])
    go_wp2_with fail
    have X1 : Ext w _ := ((Ext.refl w).alloc (.cells #[.int .i64 t, .int .i64 kd, .int .i64 m, .string s, .slice M.1 n M.2] 36)).alloc (.cells #[.int .i64 t', .int .i64 kd', .int .i64 m', .string s', .slice M'.1 n' M'.2] 36)
    with_reducible refine (HC.out _ (HK.out.ext X1) (HK'.out.ext X1)).mono ?_
    rintro e w3 ⟨rfl, hb3⟩
    have HE3 := Lib.hid (X1.trans hb3)
    clear hb3 X1
    go_wp2
    go_ret
    exact ⟨ret_bool HF.out.symm, HE3.out⟩
  | false =>
    have HF : Hid (v = false) := Lib.hid (by rw [← HV.out]; refine ndE_no (fun e => ?_); injection e with _ _ _ _ e5; have := HQ.out; rw [ksE_iff.2 e5] at this; cases this)
    go_wp2_with fail
    have X1 : Ext w _ := ((Ext.refl w).alloc (.cells #[.int .i64 t, .int .i64 kd, .int .i64 m, .string s, .slice M.1 n M.2] 36)).alloc (.cells #[.int .i64 t', .int .i64 kd', .int .i64 m', .string s', .slice M'.1 n' M'.2] 36)
    with_reducible refine (HC.out _ (HK.out.ext X1) (HK'.out.ext X1)).mono ?_
    rintro e w3 ⟨rfl, hb3⟩
    have HE3 := Lib.hid (X1.trans hb3)
    clear hb3 X1
    go_wp2
    go_ret
    exact ⟨ret_bool HF.out.symm, HE3.out⟩
theorem equal_any (B : Nat) (hB : B ≤ 1000000) : ∀ d, EqAt B d
  | 0 => equal_step B 0 (by
    rintro ks js L L' w ⟨rfl, _⟩ ⟨rfl, _⟩
    have h := eqf_nil L L' w
    rw [show ksE [] [] = true from ksE_iff.2 rfl]
    exact h)
  | d + 1 => equal_step B (d + 1) (fun ks js L L' w h h' => eqf_any B hB d (equal_any B hB d) ks js L L' w h h')
end Go.Proofs.YtdaccamiipknmaaDoor
