/- timing's Union, Total and Minus: contracts for the walk. Conditions: those of each theorem. -/
import Derived.Test.YtpdboefaedocfaaTmQ
namespace Go.Proofs.Ytpdboefaedocfaa
open Go.RowKit

/-- The post of a function that returns intervals and an error. -/
def RetPErr (ps : List (Int × Int)) (er : Int) (w : World) (e : Ending) (w' : World) : Prop :=
  ∃ (A : Option Addr) (c : Nat), e = .returned (.tuple #[.slice A ps.length c, .int .i64 er]) ∧ (⟨A, c, ps⟩ : PL).In w' ∧ Ext w w'
theorem pl_nil (w : World) : (⟨none, 0, []⟩ : PL).In w := ⟨SlP.nil _ _, Nat.le_refl _, Nat.zero_le _, fun p hp => by cases hp⟩
theorem check1 (A : Option Addr) (c : Nat) (ps : List (Int × Int)) (w : World) (h : (⟨A, c, ps⟩ : PL).In w) {e : Int} (he : Tm.chk [ps] = e) :
    Calls Try.prog 25 #[.slice (some ⟨w.heap.size, 0, none⟩) 1 1] (w.alloc (.cells #[.slice A ps.length c] 31)) fun e' w' => e' = .returned (.int .i64 e) ∧ Ext w w' := by
  subst he
  have e0 : Ext w (w.alloc (.cells #[.slice A ps.length c] 31)) := (Ext.refl _).alloc _
  have hL : SlLP (w.alloc (.cells #[.slice A ps.length c] 31)) (some ⟨w.heap.size, 0, none⟩) [⟨A, c, ps⟩] := ⟨Sl.new w [.slice A ps.length c] 31, fun x hx => by simp at hx; subst hx; exact h.ext e0⟩
  exact (check_any (some ⟨w.heap.size, 0, none⟩) 1 [⟨A, c, ps⟩] _ hL (by unfold maxLen; simp)).mono fun e' w' ⟨h1, h2⟩ => ⟨h1, e0.trans h2⟩
theorem check2 (A : Option Addr) (c : Nat) (ps : List (Int × Int)) (B : Option Addr) (d : Nat) (qs : List (Int × Int)) (w : World) (h : (⟨A, c, ps⟩ : PL).In w) (h2 : (⟨B, d, qs⟩ : PL).In w) {e : Int} (he : Tm.chk [ps, qs] = e) :
    Calls Try.prog 25 #[.slice (some ⟨w.heap.size, 0, none⟩) 2 2] (w.alloc (.cells #[.slice A ps.length c, .slice B qs.length d] 31)) fun e' w' => e' = .returned (.int .i64 e) ∧ Ext w w' := by
  subst he
  have e0 : Ext w (w.alloc (.cells #[.slice A ps.length c, .slice B qs.length d] 31)) := (Ext.refl _).alloc _
  have hL : SlLP (w.alloc (.cells #[.slice A ps.length c, .slice B qs.length d] 31)) (some ⟨w.heap.size, 0, none⟩) [⟨A, c, ps⟩, ⟨B, d, qs⟩] := ⟨Sl.new w [.slice A ps.length c, .slice B qs.length d] 31, fun x hx => by
    simp at hx
    rcases hx with rfl | rfl
    · exact h.ext e0
    · exact h2.ext e0⟩
  exact (check_any (some ⟨w.heap.size, 0, none⟩) 2 [⟨A, c, ps⟩, ⟨B, d, qs⟩] _ hL (by unfold maxLen; simp)).mono fun e' w' ⟨h1, h3⟩ => ⟨h1, e0.trans h3⟩
theorem pl_own {w' : World} {A : Option Addr} {c : Nat} {ps : List (Int × Int)} {base : Nat} (h : w'.ownsRow base 33 2 (.slice A ps.length c) ps.length (ps.map Tm.cells).flatten) (hok : ∀ p ∈ ps, Tm.ok p) : (⟨A, c, ps⟩ : PL).In w' := by
  refine ⟨own_SlP h rfl, ?_, ?_, fun p hp => ?_⟩
  · rcases h.2 with ⟨e, e2⟩ | ⟨g, cap, cur, e, -, -, h4, h5, -⟩
    · simp only; omega
    · injection e with _ _ e; simp only; omega
  · rcases h.2 with ⟨e, e2⟩ | ⟨g, cap, cur, e, -, -, h4, h5, -⟩
    · injection e with _ _ e; simp only; omega
    · injection e with _ _ e; simp only; omega
  · have := hok p hp
    unfold Tm.ok at this
    exact ⟨⟨by omega, by omega⟩, ⟨by omega, by omega⟩⟩
theorem normal_to (A : Option Addr) (c n : Nat) (ps qs : List (Int × Int)) (hn : ps.length = n) (hq : Tm.nrm ps = qs) (hok : ∀ q ∈ qs, Tm.ok q) (w : World) (h : SlP w A ps) (hb : n ≤ 1000) :
    Calls Try.prog 26 #[.slice A n c] w fun e w' => ∃ (A' : Option Addr) (c' : Nat), e = .returned (.slice A' qs.length c') ∧ (⟨A', c', qs⟩ : PL).In w' ∧ Ext w w' := by
  subst hn hq
  refine (normal_any A c ps w h hb).mono ?_
  rintro e w' ⟨A', c', rfl, ho, hx⟩
  exact ⟨A', c', rfl, pl_own ho hok, hx⟩

set_option maxRecDepth 100000 in
set_option maxHeartbeats 1600000 in
theorem union_any (A : Option Addr) (c : Nat) (ps : List (Int × Int)) (w : World) (h : (⟨A, c, ps⟩ : PL).In w) :
    Calls Try.prog 18 #[.slice A ps.length c] w (RetPErr (Tm.uniV ps) (Tm.chk [ps]) w) := by
  have H := Lib.hid h
  clear h
  obtain ⟨n, hn⟩ : ∃ n, ps.length = n := ⟨_, rfl⟩
  have HN := Lib.hid hn
  by_cases hz : Tm.chk [ps] = 0
  · have hall := Tm.chk_zero hz ps (by simp)
    obtain ⟨qs, hqs⟩ : ∃ qs, Tm.nrm ps = qs := ⟨_, rfl⟩
    have hok := (Tm.nrm_ok hall.2).1
    rw [hqs] at hok
    have HQ := Lib.hid hqs
    have HOK := Lib.hid hok
    have HZ := Lib.hid hz
    have HB : Hid (n ≤ 1000) := Lib.hid (by omega)
    have HR : Hid (Tm.uniV ps = qs) := Lib.hid (by unfold Tm.uniV; rw [if_pos hz, hqs])
    rw [HR.out, hz]
    clear hz hall hqs hok hn
    go_enter Try.func18, Try.ntmps18
    go_wp2_with fail
    refine (check1 A c ps w H.out HZ.out).mono ?_
    rintro e w1 ⟨rfl, hb1⟩
    go_wp2_with fail
    refine (normal_to A c ps.length ps qs rfl HQ.out HOK.out _ (H.out.1.ext hb1) (by rw [HN.out]; exact HB.out)).mono ?_
    rintro e w2 ⟨X, xc, rfl, hX, hb2⟩
    go_wp2
    refine bodyPost_ret (v := .tuple #[.slice X qs.length xc, .int .i64 0]) (by simp [results, Try.results18, go_sem]) rfl ?_
    exact ⟨X, xc, rfl, hX, hb1.trans hb2⟩
  · have hz' : (Tm.chk [ps] != 0) = true := by rw [bne_iff_ne]; exact hz
    obtain ⟨x, hx⟩ : ∃ x, Tm.chk [ps] = x := ⟨_, rfl⟩
    have HR : Hid (Tm.uniV ps = []) := Lib.hid (by unfold Tm.uniV; rw [if_neg hz])
    rw [HR.out, hx]
    rw [hx] at hz'
    have HX := Lib.hid hx
    clear hz hn hx
    go_enter Try.func18, Try.ntmps18
    go_wp2_with fail
    refine (check1 A c ps w H.out HX.out).mono ?_
    rintro e w1 ⟨rfl, hb1⟩
    go_wp2
    refine bodyPost_ret (v := .tuple #[.slice none 0 0, .int .i64 x]) (by simp [results, Try.results18, go_sem]) rfl ?_
    exact ⟨none, 0, rfl, pl_nil _, hb1⟩

set_option maxRecDepth 100000 in
set_option maxHeartbeats 1600000 in
theorem total_any (A : Option Addr) (c : Nat) (ps : List (Int × Int)) (w : World) (h : (⟨A, c, ps⟩ : PL).In w) :
    Calls Try.prog 14 #[.slice A ps.length c] w fun e w' => e = .returned (.tuple #[.int .i64 (Tm.totV ps), .int .i64 (Tm.chk [ps])]) ∧ Ext w w' := by
  have H := Lib.hid h
  clear h
  obtain ⟨n, hn⟩ : ∃ n, ps.length = n := ⟨_, rfl⟩
  have HN := Lib.hid hn
  by_cases hz : Tm.chk [ps] = 0
  · have hall := Tm.chk_zero hz ps (by simp)
    obtain ⟨qs, hqs⟩ : ∃ qs, Tm.nrm ps = qs := ⟨_, rfl⟩
    obtain ⟨hok, hql⟩ := Tm.nrm_ok hall.2
    rw [hqs] at hok hql
    have HQ := Lib.hid hqs
    have HOK := Lib.hid hok
    have HZ := Lib.hid hz
    have HB : Hid (n ≤ 1000) := Lib.hid (by omega)
    have hq3 : qs.length ≤ 300 := by omega
    have HR : Hid (Tm.totV ps = Tm.len qs) := Lib.hid (by unfold Tm.totV; rw [if_pos hz, hqs])
    rw [HR.out, hz]
    clear hz hall hqs hok hn hql
    go_enter Try.func14, Try.ntmps14
    go_wp2_with fail
    refine (check1 A c ps w H.out HZ.out).mono ?_
    rintro e w1 ⟨rfl, hb1⟩
    go_wp2_with fail
    refine (normal_to A c ps.length ps qs rfl HQ.out HOK.out _ (H.out.1.ext hb1) (by rw [HN.out]; exact HB.out)).mono ?_
    rintro e w2 ⟨X, xc, rfl, hX, hb2⟩
    have HX := Lib.hid hX
    clear hX
    go_wp2_with fail
    go_loopw [17, 5] (fun i v wr => ∃ (k : Nat) (x : Int), k ≤ qs.length ∧ i = .int .i64 k ∧ v = .int .i64 x ∧ x = Tm.len (qs.take k) ∧ 0 ≤ x ∧ x ≤ 1099511627776 * k ∧ Ext w2 wr) (fun i _ _ => qs.length - (intOf i).toNat)
    case atStart => exact ⟨0, 0, by omega, rfl, rfl, rfl, by omega, by omega, Ext.refl _⟩
    case round =>
      obtain ⟨k, x, hk, rfl, rfl, hx, hx0, hx1, he⟩ := hrel
      have HXK := Lib.hid hx
      clear hx
      by_cases hlt : k < qs.length
      · obtain ⟨p, hp⟩ : ∃ p, qs[k]? = some p := ⟨qs[k], List.getElem?_eq_getElem hlt⟩
        have hpo := HOK.out p (List.mem_of_getElem? hp)
        obtain ⟨xb, xo, rfl, hxb, d0, d1⟩ := (HX.out.1.ext he).at_ hp
        obtain ⟨p1, p2⟩ := p
        simp only [Tm.ok] at d0 d1 hpo
        obtain ⟨o1, o2, o3⟩ := hpo
        have HT : Hid (qs.take (k + 1) = qs.take k ++ [(p1, p2)]) := Lib.hid (by rw [List.take_add_one, hp]; rfl)
        have ki0 : (0 : Int) ≤ (k : Int) := by omega
        have ki1 : (k : Int) < (qs.length : Int) := by omega
        clear hp
        go_wp2
        go_roundw
        case rel => exact ⟨k + 1, x + (p2 - p1), by omega, by go_num, rfl, by rw [HT.out, Tm.len_snoc, HXK.out], by omega, by omega, he.alloc _⟩
        case measure => simp [intOf]; omega
      · go_wp2
        refine bodyPost_ret (v := .tuple #[.int .i64 x, .int .i64 0]) (by simp [results, Try.results14, go_sem]) rfl ⟨?_, hb1.trans (hb2.trans he)⟩
        rw [HXK.out, List.take_of_length_le (by omega)]
  · have hz' : (Tm.chk [ps] != 0) = true := by rw [bne_iff_ne]; exact hz
    obtain ⟨x, hx⟩ : ∃ x, Tm.chk [ps] = x := ⟨_, rfl⟩
    have HR : Hid (Tm.totV ps = 0) := Lib.hid (by unfold Tm.totV; rw [if_neg hz])
    rw [HR.out, hx]
    rw [hx] at hz'
    have HX := Lib.hid hx
    clear hz hn hx
    go_enter Try.func14, Try.ntmps14
    go_wp2_with fail
    refine (check1 A c ps w H.out HX.out).mono ?_
    rintro e w1 ⟨rfl, hb1⟩
    go_wp2
    exact bodyPost_ret (v := .tuple #[.int .i64 0, .int .i64 x]) (by simp [results, Try.results14, go_sem]) rfl ⟨rfl, hb1⟩
end Go.Proofs.Ytpdboefaedocfaa
