/- The reference's Merge: its contract. Conditions: those of each theorem. -/
import Derived.Test.YtcpapnnghclbmaaDoorInT
namespace Go.Proofs.YtcpapnnghclbmaaDoor
open Go.RowKit

/-- The list so far lies in some block. -/
def OutN (l : List In.Inc) (r : Nat) (v : Value) (w : World) : Prop := ∃ ob oo oc, v = .slice (some ⟨ob, oo, none⟩) r oc ∧ l.length = r ∧ (⟨some ⟨ob, oo, none⟩, oc, l⟩ : NL).In w
theorem OutN.ext {l : List In.Inc} {r : Nat} {v : Value} {w w' : World} (h : OutN l r v w) (he : Ext w w') : OutN l r v w' := by
  obtain ⟨ob, oo, oc, h1, h2, h3⟩ := h
  exact ⟨ob, oo, oc, h1, h2, h3.ext he⟩

set_option maxRecDepth 100000 in
set_option maxHeartbeats 6400000 in
theorem rmerge_any (A : Option Addr) (c : Nat) (a : List In.Inc) (B : Option Addr) (d : Nat) (b : List In.Inc) {n m r : Nat} {ms : List In.Inc} {er : Int} (hn : a.length = n) (hm : b.length = m) (hms : In.merL a b = ms) (hr : ms.length = r) (her : In.merE a b = er) (w : World) (h : (⟨A, c, a⟩ : NL).In w) (h2 : (⟨B, d, b⟩ : NL).In w) :
    Calls Tryd.prog 11 #[.slice A n c, .slice B m d] w fun e w' => ∃ (X : Option Addr) (xc : Nat), e = .returned (.tuple #[.slice X r xc, .int .i64 er]) ∧ (⟨X, xc, ms⟩ : NL).In w' ∧ Ext w w' := by
  have hla : n ≤ maxLen := by rw [← hn]; exact Nat.le_trans h.2.1 h.2.2.1
  have hlb : m ≤ maxLen := by rw [← hm]; exact Nat.le_trans h2.2.1 h2.2.2.1
  have HA := Lib.hid h
  have HB := Lib.hid h2
  have HN := Lib.hid hn
  have HM := Lib.hid hm
  have HMS := Lib.hid hms
  have HR := Lib.hid hr
  have HER := Lib.hid her
  clear h h2 hn hm hms hr her
  obtain ⟨ea, hea⟩ : ∃ v, In.chk a = v := ⟨_, rfl⟩
  obtain ⟨eb, heb⟩ : ∃ v, In.chk b = v := ⟨_, rfl⟩
  have HEA := Lib.hid hea
  have HEB := Lib.hid heb
  clear hea heb
  by_cases za : ea = 0
  · have za' : (ea != 0) = false := by rw [za]; rfl
    have HCA : Hid (In.chk a = 0) := Lib.hid (by rw [HEA.out, za])
    clear za
    by_cases zb : eb = 0
    · have zb' : (eb != 0) = false := by rw [zb]; rfl
      have HCB : Hid (In.chk b = 0) := Lib.hid (by rw [HEB.out, zb])
      clear zb
      have hn3 : n ≤ 300 := by rw [← HN.out]; exact (In.chk_zero.1 HCA.out).1
      have hm3 : m ≤ 300 := by rw [← HM.out]; exact (In.chk_zero.1 HCB.out).1
      go_enter Tryd.func11, Tryd.ntmps11
      go_wp2_with fail
      with_reducible refine (rlist_to A c a HN.out HEA.out _ HA.out.sl hla).mono ?_
      rintro e w1 ⟨rfl, hb1⟩
      have HB1 := Lib.hid (HB.out.ext hb1)
      go_wp2_with fail
      with_reducible refine (rlist_to B d b HM.out HEB.out _ HB1.out.sl hlb).mono ?_
      rintro e w2 ⟨rfl, hb2⟩
      have hb12 := hb1.trans hb2
      have HA2 := Lib.hid (HA.out.ext hb12)
      have HB2 := Lib.hid (HB.out.ext hb12)
      clear hb1 hb2
      unfold maxLen at hla hlb
      go_wp2
      go_loopw [7, 8] (fun o i wr => ∃ k q : Nat, k ≤ n ∧ i = .int .i64 k ∧ OutN (In.puts [] (a.take k)) q o wr ∧ Ext w2 wr) (fun _ i _ => n - (intOf i).toNat)
      case atStart =>
        refine ⟨0, 0, by omega, rfl, ⟨w2.heap.size, 0, 0, rfl, rfl, ?_, Nat.le_refl _, Nat.zero_le _, fun p hp => by simp [In.puts] at hp⟩, (Ext.refl _).alloc _⟩
        exact SlN.nil _ _
      case round =>
        obtain ⟨k, q, hk, rfl, ⟨ob, oo, oc, rfl, hq, hO⟩, he⟩ := hrel
        have HQ := Lib.hid hq
        have HO := Lib.hid hO
        have hq6 : q ≤ 300 := by
          have := In.puts_len (a.take k) []
          rw [hq] at this
          simp at this
          omega
        clear hq hO
        by_cases hlt : k < n
        · obtain ⟨p, hp⟩ : ∃ p, a[k]? = some p := ⟨a[k]'(by rw [HN.out]; exact hlt), List.getElem?_eq_getElem _⟩
          have HP := Lib.hid hp
          have HPO : Hid (In.ok64 p) := Lib.hid (HA.out.2.2.2 p (List.mem_of_getElem? hp))
          obtain ⟨gb, go, rfl, hgb, x0, x1, x2, x3⟩ := (HA2.out.1.ext he).at_ hp
          have ki0 : (0 : Int) ≤ (k : Int) := by omega
          have ki1 : (k : Int) < (n : Int) := by omega
          obtain ⟨q2, hq2⟩ : ∃ q2, (In.put (In.puts [] (a.take k)) p).length = q2 := ⟨_, rfl⟩
          have HQ2 := Lib.hid hq2
          clear hp hq2
          go_wp2_with fail
          with_reducible refine (put_any ob oo oc (In.puts [] (a.take k)) p q HQ.out rfl HQ2.out _ HO.out HPO.out (by omega)).mono ?_
          rintro e w3 ⟨xb, xo, xc, rfl, hX, hb3⟩
          have HX := Lib.hid hX
          clear hX
          go_wp2
          go_roundw
          case rel => exact ⟨k + 1, q2, by omega, by go_num, ⟨xb, xo, xc, rfl, by rw [In.puts_snoc HP.out]; exact HQ2.out, by rw [In.puts_snoc HP.out]; exact HX.out⟩, he.trans hb3⟩
          case measure => simp [intOf]; omega
        · have HQA : Hid ((In.puts [] a).length = q) := Lib.hid (by rw [← HQ.out, List.take_of_length_le (by rw [HN.out]; omega)])
          have HOA : Hid ((⟨some ⟨ob, oo, none⟩, oc, In.puts [] a⟩ : NL).In wr) := Lib.hid (by
            have := HO.out
            rw [List.take_of_length_le (by rw [HN.out]; omega)] at this
            exact this)
          clear HO HQ
          go_wp2
          go_loopw [7, 9] (fun o i wx => ∃ k q : Nat, k ≤ m ∧ i = .int .i64 k ∧ OutN (In.puts (In.puts [] a) (b.take k)) q o wx ∧ Ext w2 wx) (fun _ i _ => m - (intOf i).toNat)
          case atStart => exact ⟨0, q, by omega, rfl, ⟨ob, oo, oc, rfl, HQA.out, HOA.out⟩, he⟩
          case round =>
            obtain ⟨k2, q2, hk2, rfl, ⟨ob2, oo2, oc2, rfl, hq2, hO2⟩, he2⟩ := hrel
            have HQ := Lib.hid hq2
            have HO := Lib.hid hO2
            have hq6 : q2 ≤ 600 := by
              have := In.puts_len (b.take k2) (In.puts [] a)
              rw [hq2, HQA.out] at this
              simp at this
              omega
            clear hq2 hO2
            by_cases hlt : k2 < m
            · obtain ⟨p, hp⟩ : ∃ p, b[k2]? = some p := ⟨b[k2]'(by rw [HM.out]; exact hlt), List.getElem?_eq_getElem _⟩
              have HP := Lib.hid hp
              have HPO : Hid (In.ok64 p) := Lib.hid (HB.out.2.2.2 p (List.mem_of_getElem? hp))
              obtain ⟨gb, go, rfl, hgb, x0, x1, x2, x3⟩ := (HB2.out.1.ext he2).at_ hp
              have ki0 : (0 : Int) ≤ (k2 : Int) := by omega
              have ki1 : (k2 : Int) < (m : Int) := by omega
              obtain ⟨q3, hq3⟩ : ∃ q3, (In.put (In.puts (In.puts [] a) (b.take k2)) p).length = q3 := ⟨_, rfl⟩
              have HQ3 := Lib.hid hq3
              clear hp hq3
              go_wp2_with fail
              with_reducible refine (put_any ob2 oo2 oc2 (In.puts (In.puts [] a) (b.take k2)) p q2 HQ.out rfl HQ3.out _ HO.out HPO.out (by omega)).mono ?_
              rintro e w5 ⟨xb, xo, xc, rfl, hX, hb5⟩
              have HX := Lib.hid hX
              clear hX
              go_wp2
              go_roundw
              case rel => exact ⟨k2 + 1, q3, by omega, by go_num, ⟨xb, xo, xc, rfl, by rw [In.puts_snoc HP.out]; exact HQ3.out, by rw [In.puts_snoc HP.out]; exact HX.out⟩, he2.trans hb5⟩
              case measure => simp [intOf]; omega
            · have HTK : Hid (b.take k2 = b) := Lib.hid (List.take_of_length_le (by rw [HM.out]; omega))
              have HQB : Hid ((In.mrg a b).length = q2) := Lib.hid (by rw [← HQ.out, HTK.out, In.puts_mrg])
              have hwx := hb12.trans he2
              by_cases hbig : 300 < q2
              · have hbig' : (300 : Int) < (q2 : Int) := by omega
                have HE : Hid (er = 5) := Lib.hid (by rw [← HER.out]; unfold In.merE; rw [if_neg (by rw [HCA.out]; simp), if_neg (by rw [HCB.out]; simp), if_pos (by rw [HQB.out]; exact hbig)])
                have HL : Hid (ms = []) := Lib.hid (by rw [← HMS.out]; unfold In.merL; rw [HER.out, HE.out]; rfl)
                have HR0 : Hid (r = 0) := Lib.hid (by rw [← HR.out, HL.out]; rfl)
                go_wp2
                go_ret2
                rw [HE.out, HL.out, HR0.out]
                exact ⟨none, 0, rfl, NL.nil _, hwx⟩
              · have hbig' : ¬ (300 : Int) < (q2 : Int) := by omega
                have HE : Hid (er = 0) := Lib.hid (by rw [← HER.out]; unfold In.merE; rw [if_neg (by rw [HCA.out]; simp), if_neg (by rw [HCB.out]; simp), if_neg (by rw [HQB.out]; exact hbig)])
                have HL : Hid (ms = In.mrg a b) := Lib.hid (by rw [← HMS.out]; unfold In.merL; rw [HER.out, HE.out]; rfl)
                have HR0 : Hid (q2 = r) := Lib.hid (by rw [← HR.out, HL.out, HQB.out])
                have HOF : Hid ((⟨some ⟨ob2, oo2, none⟩, oc2, ms⟩ : NL).In wr) := Lib.hid (by
                  have := HO.out
                  rw [HTK.out, In.puts_mrg, ← HL.out] at this
                  exact this)
                go_wp2
                go_ret2
                exact ⟨some ⟨ob2, oo2, none⟩, oc2, ret_sl2 HR0.out HE.out.symm, HOF.out, hwx⟩
    · have zb' : (eb != 0) = true := by rw [bne_iff_ne]; exact zb
      have HE : Hid (er = eb) := Lib.hid (by rw [← HER.out]; unfold In.merE; rw [if_neg (by rw [HCA.out]; simp), HEB.out, if_pos zb])
      have HL : Hid (ms = []) := Lib.hid (by rw [← HMS.out]; unfold In.merL; rw [HER.out, HE.out, if_neg zb])
      have HR0 : Hid (r = 0) := Lib.hid (by rw [← HR.out, HL.out]; rfl)
      clear zb
      go_enter Tryd.func11, Tryd.ntmps11
      go_wp2_with fail
      with_reducible refine (rlist_to A c a HN.out HEA.out _ HA.out.sl hla).mono ?_
      rintro e w1 ⟨rfl, hb1⟩
      have HB1 := Lib.hid (HB.out.ext hb1)
      go_wp2_with fail
      with_reducible refine (rlist_to B d b HM.out HEB.out _ HB1.out.sl hlb).mono ?_
      rintro e w2 ⟨rfl, hb2⟩
      go_wp2
      go_ret2
      rw [HE.out, HL.out, HR0.out]
      exact ⟨none, 0, rfl, NL.nil _, hb1.trans hb2⟩
  · have za' : (ea != 0) = true := by rw [bne_iff_ne]; exact za
    have HE : Hid (er = ea) := Lib.hid (by rw [← HER.out]; unfold In.merE; rw [HEA.out, if_pos za])
    have HL : Hid (ms = []) := Lib.hid (by rw [← HMS.out]; unfold In.merL; rw [HER.out, HE.out, if_neg za])
    have HR0 : Hid (r = 0) := Lib.hid (by rw [← HR.out, HL.out]; rfl)
    clear za
    go_enter Tryd.func11, Tryd.ntmps11
    go_wp2_with fail
    with_reducible refine (rlist_to A c a HN.out HEA.out _ HA.out.sl hla).mono ?_
    rintro e w1 ⟨rfl, hb1⟩
    go_wp2
    go_ret2
    rw [HE.out, HL.out, HR0.out]
    exact ⟨none, 0, rfl, NL.nil _, hb1⟩
end Go.Proofs.YtcpapnnghclbmaaDoor
