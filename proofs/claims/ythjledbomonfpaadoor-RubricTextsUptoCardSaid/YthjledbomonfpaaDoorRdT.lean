/- The reference's Parse: its contract. Conditions: those of each theorem. -/
import Derived.Test.YthjledbomonfpaaDoorRdS
namespace Go.Proofs.YthjledbomonfpaaDoor
open Go.RowKit

namespace Tk
/-- Where the reference stands at place k: the last cut at j, the pieces before it. -/
def At (l : List UInt8) (k j : Nat) (done : List (List UInt8)) : Prop :=
  (k ≤ l.length ∧ j ≤ k ∧ cuts l = done ++ cuts (l.drop j) ∧ ∀ c ∈ (l.drop j).take (k - j), c ≠ 47) ∨ (k = l.length + 1 ∧ cuts l = done)
theorem at_start (l : List UInt8) : At l 0 0 [] := Or.inl ⟨by omega, by omega, by simp, by simp⟩
theorem at_next {l : List UInt8} {k j : Nat} {done : List (List UInt8)} {c : UInt8} (h : At l k j done) (hc : l[k]? = some c) (hne : c ≠ 47) : At l (k + 1) j done := by
  have hk : k < l.length := by
    rcases Nat.lt_or_ge k l.length with g | g
    · exact g
    · rw [List.getElem?_eq_none g] at hc; cases hc
  rcases h with ⟨h1, h2, h3, h4⟩ | ⟨h1, -⟩
  · refine Or.inl ⟨by omega, by omega, h3, fun x hx => ?_⟩
    rw [show k + 1 - j = (k - j) + 1 by omega, List.take_add_one, List.getElem?_drop, show j + (k - j) = k by omega, hc] at hx
    rcases List.mem_append.1 hx with g | g
    · exact h4 x g
    · simp at g; subst g; exact hne
  · omega
theorem at_cut {l : List UInt8} {k j : Nat} {done : List (List UInt8)} (h : At l k j done) (hk : l[k]? = some 47) : cuts l = (done ++ [(l.drop j).take (k - j)]) ++ cuts (l.drop (k + 1)) ∧ At l (k + 1) (k + 1) (done ++ [(l.drop j).take (k - j)]) := by
  have hlt : k < l.length := by
    rcases Nat.lt_or_ge k l.length with g | g
    · exact g
    · rw [List.getElem?_eq_none g] at hk; cases hk
  rcases h with ⟨h1, h2, h3, h4⟩ | ⟨h1, -⟩
  · have e : l.drop j = (l.drop j).take (k - j) ++ 47 :: l.drop (k + 1) := by
      have h5 : (l.drop j).drop (k - j) = 47 :: l.drop (k + 1) := by
        rw [List.drop_drop, show j + (k - j) = k by omega, List.drop_eq_getElem_cons hlt]
        rw [List.getElem?_eq_getElem hlt] at hk
        injection hk with hk
        rw [hk]
      rw [← h5, List.take_append_drop]
    have h6 : cuts (l.drop j) = (l.drop j).take (k - j) :: cuts (l.drop (k + 1)) := by
      rw [e, cut_hit _ h4]
      congr 1
      rw [← e]
    have h7 : cuts l = (done ++ [(l.drop j).take (k - j)]) ++ cuts (l.drop (k + 1)) := by rw [h3, h6]; simp
    exact ⟨h7, Or.inl ⟨by omega, by omega, h7, by simp⟩⟩
  · omega
theorem at_last {l : List UInt8} {j : Nat} {done : List (List UInt8)} (h : At l l.length j done) : cuts l = done ++ [(l.drop j).take (l.length - j)] ∧ At l (l.length + 1) (l.length + 1) (done ++ [(l.drop j).take (l.length - j)]) := by
  rcases h with ⟨h1, h2, h3, h4⟩ | ⟨h1, -⟩
  · have e : (l.drop j).take (l.length - j) = l.drop j := List.take_of_length_le (by rw [List.length_drop]; omega)
    rw [e] at h4
    have h7 : cuts l = done ++ [(l.drop j).take (l.length - j)] := by rw [h3, e, cut_end h4]
    exact ⟨h7, Or.inr ⟨rfl, h7⟩⟩
  · omega
theorem ext_piece (s : ByteArray) (j k : Nat) : (s.extract j k).data.toList = (s.data.toList.drop j).take (k - j) := by
  rw [ByteArray.data_extract, Array.toList_extract, List.extract_eq_take_drop]
theorem byte_at (s : ByteArray) (k : Nat) (h : k < s.size) : s.data.toList[k]? = some s[k] := by
  rw [List.getElem?_eq_getElem (by simpa using h)]; rfl
end Tk

set_option maxRecDepth 100000 in
set_option maxHeartbeats 3200000 in
theorem refParse_any (id : Int) (A : Option Addr) (c : Nat) (ts : List Rub.Trait) (s : ByteArray) (w : World) (h : RubIn w id A c ts) (hs : s.size < 4294967281) :
    Calls Tryd.prog 7 #[.agg #[.int .i64 id, .slice A ts.length c], .string s] w (RetIntsErr (Tk.parM id ts s) (Tk.parE id ts s) w) := by
  have H := Lib.hid h
  clear h
  have e0 : Ext w (w.alloc (.cells #[.int .i64 id, .slice A ts.length c] 24)) := (Ext.refl _).alloc _
  have k0 : (w.alloc (.cells #[.int .i64 id, .slice A ts.length c] 24)).cell? ⟨w.heap.size, 0, none⟩ = some (.int .i64 id) := by simp [go_sem]
  have k1 : (w.alloc (.cells #[.int .i64 id, .slice A ts.length c] 24)).cell? ⟨w.heap.size, 1, none⟩ = some (.slice A ts.length c) := by simp [go_sem]
  obtain ⟨i0, hi0, hz0, hz1, hz2⟩ := info_parts Tryd.infoInt
  go_enter Tryd.func7, Tryd.ntmps7
  go_wp2_with fail
  generalize (w.alloc (.cells #[.int .i64 id, .slice A ts.length c] 24)) = w1 at *
  have K0 := Lib.hid k0
  have K1 := Lib.hid k1
  clear k0 k1
  go_loopw [8, 7, 6] (fun i f v wr => ∃ (k j : Nat) (done : List (List UInt8)), k ≤ s.size + 1 ∧ j ≤ k ∧ done.length ≤ k ∧ i = .int .i64 k ∧ f = .int .i64 j ∧ Tk.At s.data.toList k j done ∧ wr.ownsRow w1.heap.size 3 1 v done.length (done.map fun x => [Value.int .i64 (Tk.val x)]).flatten ∧ done.all Tk.rdOk = true ∧ Ext w1 wr) (fun i _ _ _ => s.size + 1 - (intOf i).toNat)
  case atStart => exact ⟨0, 0, [], by omega, by omega, by simp, rfl, rfl, Tk.at_start _, own_nil _ _ _ _, by simp, Ext.refl _⟩
  case round =>
    obtain ⟨k, j, done, hk, hjk, hdl, rfl, rfl, hat, hown, hall, he⟩ := hrel
    have hszr := he.size
    have HALL := Lib.hid hall
    have HAT := Lib.hid hat
    clear hall hat
    have hll : s.data.toList.length = s.size := rfl
    have HLL := Lib.hid hll
    clear hll
    by_cases hlt : k ≤ s.size
    · have kle : (k : Int) ≤ (s.size : Int) := by omega
      have ki0 : (0 : Int) ≤ (k : Int) := by omega
      have ji0 : (0 : Int) ≤ (j : Int) := by omega
      have jk : (j : Int) ≤ (k : Int) := by omega
      by_cases hcut : k = s.size ∨ s.data.toList[k]? = some 47
      · obtain ⟨P, hP⟩ : ∃ P, (s.extract j k).data.toList = P := ⟨_, rfl⟩
        have hp2 : P = (s.data.toList.drop j).take (k - j) := by rw [← hP, Tk.ext_piece]
        have HNX : Hid (Tk.At s.data.toList (k + 1) (k + 1) (done ++ [P]) ∧ P ∈ Tk.cuts s.data.toList) := Lib.hid (by
          rw [hp2]
          rcases hcut with g | g
          · subst g
            have := Tk.at_last (l := s.data.toList) (by rw [HLL.out]; exact HAT.out)
            rw [HLL.out] at this
            exact ⟨this.2, by rw [this.1]; simp⟩
          · have := Tk.at_cut HAT.out g
            exact ⟨this.2, by rw [this.1]; simp⟩)
        have hps : (s.extract j k).size ≤ maxLen := by
          rw [ByteArray.size_extract]; unfold maxLen; omega
        have HPS := Lib.hid hps
        have HP := Lib.hid hP
        have hge := own_ge hown
        have HOWN := Lib.hid hown
        have HGE := Lib.hid hge
        have hcase : ((k : Int) == (s.size : Int)) = true ∨ (((k : Int) == (s.size : Int)) = false ∧ ∃ hk' : k < s.size, ((s[k].toNat : Int) == 47) = true) := by
          rcases Nat.lt_or_ge k s.size with g | g
          · right
            refine ⟨by rw [beq_eq_false_iff_ne]; omega, g, ?_⟩
            rcases hcut with g2 | g2
            · omega
            · rw [Tk.byte_at s k g] at g2
              injection g2 with g2
              rw [g2]; rfl
          · left
            rw [beq_iff_eq]; omega
        clear hcut hown hge hp2 hP hps
        cases hb : Tk.rdOk P with
        | false =>
          have HM1 : Hid (Tk.rdM (s.extract j k).data.toList = -1) := Lib.hid (by rw [HP.out]; unfold Tk.rdM; rw [hb]; rfl)
          have HBAD := Lib.hid (Tk.par_bad (id := id) (ts := ts) (s := s) (by rw [List.all_eq_false]; exact ⟨P, HNX.out.2, by rw [hb]; simp⟩))
          clear hb
          rcases hcase with c1 | ⟨c1, hk', c2⟩
          all_goals
            go_wp2_with fail
            refine (mark_to HPS.out HM1.out _).mono ?_
            rintro e w2 ⟨rfl, rfl⟩
            go_wp2
            refine bodyPost_ret (v := .tuple #[.slice none 0 0, .int .i64 2]) (by simp [results, Tryd.results7, go_sem]) rfl ?_
            rw [HBAD.out.1, HBAD.out.2]
            exact ⟨none, 0, rfl, ⟨SlI.nil _ _, Nat.le_refl _, Nat.zero_le _, fun y hy => by simp at hy⟩, e0.trans he⟩
        | true =>
          have HB := Lib.hid hb
          obtain ⟨r1, r2, r3, r4⟩ := Tk.rd_val hb
          obtain ⟨v, hv⟩ : ∃ v, Tk.val P = v := ⟨_, rfl⟩
          rw [hv] at r2 r3 r4
          have HV := Lib.hid hv
          have HM1 : Hid (Tk.rdM (s.extract j k).data.toList = v) := Lib.hid (by rw [HP.out]; exact r2)
          clear hb hv r1 r2
          rcases hcase with c1 | ⟨c1, hk', c2⟩
          all_goals
            go_wp2_with fail
            refine (mark_to HPS.out HM1.out _).mono ?_
            rintro e w2 ⟨rfl, rfl⟩
            go_wp2_with (at_builtin; refine wpList_append_lies _ rfl _ _ 25 rfl w1.heap.size 3 i0 (.int .i64 0) 1 8 Tryd.underlying25 hi0 hz0 hz1 hz2 rfl (by decide) _ _ _ rfl (HOWN.out.alloc _) ⟨w2.heap.size, 0, none⟩ 1 1 [.int .i64 v] rfl rfl (cell_one_new _ _ _) (by simp [Value.oneCell']) (by decide) (by unfold maxLen; omega) (by omega) (by simp; omega) (w2.heap.size + 1) (by simp) ?_; intro gg cap w3 hown2 hgrow2 hat hlt2)
            go_wp2
            go_roundw
            case rel =>
              refine ⟨k + 1, k + 1, done ++ [P], by omega, by omega, by simp; omega, by go_num, by go_num, HNX.out.1, ?_, ?_, ?_⟩
              · rw [List.map_append, List.flatten_append, List.length_append]
                simp only [List.map_cons, List.map_nil, HV.out]
                exact hown2
              · rw [List.all_append, HALL.out]
                simp [HB.out]
              · exact (he.alloc _).grown hgrow2 (fun q hq => HGE.out q hq)
            case measure => simp [intOf]; omega
      · have hk' : k < s.size := by omega
        have hc47 : s[k] ≠ 47 := fun e => hcut (Or.inr (by rw [Tk.byte_at s k hk', e]))
        have HNX := Lib.hid (Tk.at_next HAT.out (Tk.byte_at s k hk') hc47)
        have c1 : ((k : Int) == (s.size : Int)) = false := by rw [beq_eq_false_iff_ne]; omega
        have c2 : ((s[k].toNat : Int) == 47) = false := by
          rw [beq_eq_false_iff_ne]
          intro e
          exact hc47 (UInt8.toNat_inj.1 (by have : s[k].toNat = 47 := by omega
                                            rw [this]; rfl))
        have HOWN := Lib.hid hown
        clear hcut hc47 hown
        go_wp2
        go_roundw
        case rel => exact ⟨k + 1, j, done, by omega, by omega, by omega, by go_num, rfl, HNX.out, HOWN.out, HALL.out, he⟩
        case measure => simp [intOf]; omega
    · obtain rfl : k = s.size + 1 := by omega
      have hcl : Tk.cuts s.data.toList = done := by
        rcases HAT.out with ⟨g, -⟩ | ⟨-, g⟩
        · rw [HLL.out] at g; omega
        · exact g
      have hok : (Tk.cuts s.data.toList).all Tk.rdOk = true := by rw [hcl]; exact HALL.out
      rw [← ints_form] at hown
      obtain ⟨ms, hms⟩ : ∃ ms, done.map Tk.val = ms := ⟨_, rfl⟩
      have HOKV : Hid (∀ y ∈ ms, 0 ≤ y ∧ y ≤ 99) := Lib.hid (fun y hy => by
        rw [← hms] at hy
        obtain ⟨l, hl, rfl⟩ := List.mem_map.1 hy
        exact (Tk.rd_val (List.all_eq_true.1 HALL.out l hl)).2.2)
      have hml : ms.length = done.length := by rw [← hms, List.length_map]
      rw [hms] at hown
      obtain ⟨X, xc, hv, x1, x2, hX⟩ := Sl.of_own (k := 1) (fun c hc => by obtain ⟨y, -, rfl⟩ := List.mem_map.1 hc; rfl) (by rw [List.length_map]; exact hml) hown
      rw [List.length_map] at hv x1
      subst hv
      have HIL : Hid ((⟨X, xc, ms⟩ : IL).In wr) := Lib.hid ⟨hX, x1, x2, fun y hy => by have := HOKV.out y hy; exact ⟨by omega, by omega⟩⟩
      have HMS : Hid ((Tk.cuts s.data.toList).map Tk.val = ms) := Lib.hid (by rw [hcl]; exact hms)
      have HOK := Lib.hid hok
      have hmax : ms.length ≤ maxLen := Nat.le_trans x1 x2
      have HMAX := Lib.hid hmax
      have q0 := he.keep K0.out
      have q1 := he.keep K1.out
      have xw : Ext w wr := e0.trans he
      have hkn : ¬ ((s.size + 1 : Nat) : Int) ≤ (s.size : Int) := by omega
      clear hown hcl hok hms hX hml hmax
      by_cases hz : Rub.checkE id ts ms = 0
      · have HZ := Lib.hid hz
        have HP := Lib.hid (Tk.par_ok (id := id) (ts := ts) (s := s) HOK.out (by rw [HMS.out]; exact hz))
        clear hz
        go_wp2_with fail
        refine (refCheck_any id A c ts X xc ms _ (H.out.ext xw) HIL.out.1 HMAX.out).mono ?_
        rw [HZ.out]
        rintro e w2 ⟨rfl, hb2⟩
        go_wp2
        refine bodyPost_ret (v := .tuple #[.slice X ms.length xc, .int .i64 0]) (by simp [results, Tryd.results7, go_sem]) rfl ?_
        rw [HP.out.1, HP.out.2, HMS.out]
        exact ⟨X, xc, rfl, HIL.out.ext hb2, xw.trans hb2⟩
      · have hz' : (Rub.checkE id ts ms != 0) = true := by rw [bne_iff_ne]; exact hz
        have HP := Lib.hid (Tk.par_err (id := id) (ts := ts) (s := s) HOK.out (by rw [HMS.out]; exact hz))
        clear hz
        go_wp2_with fail
        refine (refCheck_any id A c ts X xc ms _ (H.out.ext xw) HIL.out.1 HMAX.out).mono ?_
        rintro e w2 ⟨rfl, hb2⟩
        go_wp2
        refine bodyPost_ret (v := .tuple #[.slice none 0 0, .int .i64 (Rub.checkE id ts ms)]) (by simp [results, Tryd.results7, go_sem]) rfl ?_
        rw [HP.out.1, HP.out.2, HMS.out]
        exact ⟨none, 0, rfl, ⟨SlI.nil _ _, Nat.le_refl _, Nat.zero_le _, fun y hy => by simp at hy⟩, xw.trans hb2⟩
end Go.Proofs.YthjledbomonfpaaDoor
