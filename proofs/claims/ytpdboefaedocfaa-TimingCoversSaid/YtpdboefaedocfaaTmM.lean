/- timing.Minus: its contract. Conditions: those of each theorem. -/
import Derived.Test.YtpdboefaedocfaaTmU
namespace Go.Proofs.Ytpdboefaedocfaa
open Go.RowKit

namespace Tm
theorem hole_len (e : Int) (s : List (Int × Int) × Int) (h : Int × Int) : (hole e s h).1.length ≤ s.1.length + 1 := by
  unfold hole
  split
  · simp
  · simp only
    split
    · simp
    · simp
theorem holes_len (e : Int) : ∀ (hs : List (Int × Int)) (s : List (Int × Int) × Int), (hs.foldl (hole e) s).1.length ≤ s.1.length + hs.length
  | [], s => by simp
  | h :: hs, s => by
    have h1 := holes_len e hs (hole e s h)
    have h2 := hole_len e s h
    rw [List.foldl_cons, List.length_cons]
    omega
theorem piece_len (hs out : List (Int × Int)) (p : Int × Int) : (piece hs out p).length ≤ out.length + hs.length + 1 := by
  have := holes_len p.2 hs (out, p.1)
  unfold piece
  simp only at this
  split
  · rw [List.length_append]; simp; omega
  · omega
end Tm
/-- Intervals in a row of the call's own. -/
def OwnP (w : World) (base : Nat) (B : Option Addr) (c : Nat) (ps : List (Int × Int)) : Prop := w.ownsRow base 33 2 (.slice B ps.length c) ps.length (ps.map Tm.cells).flatten
theorem OwnP.ext {w w' : World} {base : Nat} {B : Option Addr} {c : Nat} {ps : List (Int × Int)} (h : OwnP w base B c ps) (he : Ext w w') : OwnP w' base B c ps := own_ext h he
theorem OwnP.snoc {w : World} {base g cap L : Nat} {ps : List (Int × Int)} {p : Int × Int} (hL : ps.length = L) (h : w.ownsRow base 33 2 (.slice (some ⟨g, 0, none⟩) (L + 1) cap) (L + 1) ((ps.map Tm.cells).flatten ++ Tm.cells p)) : OwnP w base (some ⟨g, 0, none⟩) cap (ps ++ [p]) := by
  unfold OwnP
  rw [List.map_append, List.flatten_append, List.length_append, hL]
  simpa using h

/-- A row that does not lie in block b. -/
def NB (O : Option Addr) (b : Nat) : Prop := ∀ a, O = some a → a.block ≠ b
theorem nb_ne {O : Option Addr} {L c b : Nat} (h : NB O b) : some b ≠ (Value.slice O L c).ownBlock := by
  cases O with
  | none => intro e; cases e
  | some a => intro e; injection e with e; exact h a rfl e.symm
theorem nb_new {O : Option Addr} {L c b g H : Nat} (h : NB O b) (hat : (Value.slice O L c).ownBlock = some g ∨ g = H) (hH : b < H) : NB (some ⟨g, 0, none⟩) b := by
  intro a ha e
  injection ha with ha
  subst ha
  simp only at e
  subst e
  rcases hat with g1 | g1
  · exact nb_ne h g1.symm
  · omega
set_option maxRecDepth 100000 in
set_option maxHeartbeats 6400000 in
theorem minus_any (A : Option Addr) (c : Nat) (ps : List (Int × Int)) (B : Option Addr) (d : Nat) (qs : List (Int × Int)) (w : World) (h : (⟨A, c, ps⟩ : PL).In w) (h2 : (⟨B, d, qs⟩ : PL).In w) :
    Calls Try.prog 15 #[.slice A ps.length c, .slice B qs.length d] w fun e w' => ∃ (X : Option Addr) (xc : Nat), e = .returned (.tuple #[.slice X (Tm.minV ps qs).length xc, .int .i64 (Tm.chk [ps, qs])]) ∧ OwnP w' w.heap.size X xc (Tm.minV ps qs) ∧ Ext w w' := by
  have HA := Lib.hid h
  have HB := Lib.hid h2
  clear h h2
  by_cases hz : Tm.chk [ps, qs] = 0
  · have hp := Tm.chk_zero hz ps (by simp)
    have hq := Tm.chk_zero hz qs (by simp)
    obtain ⟨us, has⟩ : ∃ us, Tm.nrm ps = us := ⟨_, rfl⟩
    obtain ⟨hs, hhs⟩ : ∃ hs, Tm.nrm qs = hs := ⟨_, rfl⟩
    obtain ⟨hok, hal⟩ := Tm.nrm_ok hp.2
    obtain ⟨hok2, hhl⟩ := Tm.nrm_ok hq.2
    rw [has] at hok hal
    rw [hhs] at hok2 hhl
    have a3 : us.length ≤ 300 := by omega
    have h3 : hs.length ≤ 300 := by omega
    have HPL : Hid (ps.length ≤ 1000) := Lib.hid (by omega)
    have HQL : Hid (qs.length ≤ 1000) := Lib.hid (by omega)
    have HAS := Lib.hid has
    have HHS := Lib.hid hhs
    have HOK := Lib.hid hok
    have HOK2 := Lib.hid hok2
    have HZ := Lib.hid hz
    have HR : Hid (Tm.minV ps qs = us.foldl (Tm.piece hs) []) := Lib.hid (by unfold Tm.minV Tm.mns; rw [if_pos hz, has, hhs])
    rw [HR.out, hz]
    clear hz hp hq has hhs hok hok2 hal hhl
    obtain ⟨i0, hi0, hz0, hz1, hz2⟩ := info_parts Try.infoPair
    go_enter Try.func15, Try.ntmps15
    go_wp2_with fail
    refine (check2 A c ps B d qs w HA.out HB.out HZ.out).mono ?_
    rintro e w1 ⟨rfl, hb1⟩
    go_wp2_with fail
    refine (normal_to B d qs.length qs hs rfl HHS.out HOK2.out _ (HB.out.1.ext hb1) HQL.out).mono ?_
    rintro e w2 ⟨Y, yc, rfl, hY, hb2⟩
    go_wp2_with fail
    refine (normal_to A c ps.length ps us rfl HAS.out HOK.out _ (HA.out.1.ext (hb1.trans hb2)) HPL.out).mono ?_
    rintro e w3 ⟨X, xc, rfl, hX, hb3⟩
    have HX := Lib.hid hX
    have HY := Lib.hid (hY.ext hb3)
    have hx3 : Ext w w3 := hb1.trans (hb2.trans hb3)
    clear hX hY
    go_wp2_with fail
    go_loopw [26, 8] (fun i v wr => ∃ (k : Nat) (out : List (Int × Int)) (O : Option Addr) (oc : Nat), k ≤ us.length ∧ i = .int .i64 k ∧ v = .slice O out.length oc ∧ OwnP wr w3.heap.size O oc out ∧ (us.take k).foldl (Tm.piece hs) [] = out ∧ out.length ≤ k * 301 ∧ Ext w3 wr) (fun i _ _ => us.length - (intOf i).toNat)
    case atStart => exact ⟨0, [], none, 0, by omega, rfl, rfl, own_nil _ _ _ _, rfl, by simp, Ext.refl _⟩
    case round =>
      obtain ⟨k, out, O, oc, hk, rfl, rfl, hown, hout, hol, he⟩ := hrel
      obtain ⟨wo, rfl⟩ : ∃ wo : World, wo = wr := ⟨_, rfl⟩
      have HOUT := Lib.hid hout
      have HOW := Lib.hid hown
      have hes := he.size
      clear hout hown
      by_cases hlt : k < us.length
      · obtain ⟨p, hp⟩ : ∃ p, us[k]? = some p := ⟨us[k], List.getElem?_eq_getElem hlt⟩
        obtain ⟨xb, xo, rfl, hxb, d0, d1⟩ := (HX.out.1.ext he).at_ hp
        obtain ⟨p1, p2⟩ := p
        simp only at d0 d1
        have HT : Hid ((us.take (k + 1)).foldl (Tm.piece hs) [] = Tm.piece hs out (p1, p2)) := Lib.hid (by rw [List.take_add_one, hp, List.foldl_append, HOUT.out]; rfl)
        have HTL := Lib.hid (Tm.piece_len hs out (p1, p2))
        have ki0 : (0 : Int) ≤ (k : Int) := by omega
        have ki1 : (k : Int) < (us.length : Int) := by omega
        clear hp
        have ea : Ext wo (wo.alloc (.cells #[.int .i64 p1, .int .i64 p2] 33)) := (Ext.refl _).alloc _
        have b0 : (wo.alloc (.cells #[.int .i64 p1, .int .i64 p2] 33)).cell? ⟨wo.heap.size, 0, none⟩ = some (.int .i64 p1) := by simp [go_sem]
        have b1 : (wo.alloc (.cells #[.int .i64 p1, .int .i64 p2] 33)).cell? ⟨wo.heap.size, 1, none⟩ = some (.int .i64 p2) := by simp [go_sem]
        have hws : wo.heap.size < (wo.alloc (.cells #[.int .i64 p1, .int .i64 p2] 33)).heap.size := by simp
        go_wp2_with fail
        generalize (wo.alloc (.cells #[.int .i64 p1, .int .i64 p2] 33)) = wa at *
        have B1 := Lib.hid b1
        clear b0 b1
        go_loopw [34, 11, 8] (fun i f v wr => ∃ (j : Nat) (o2 : List (Int × Int)) (fr : Int) (O2 : Option Addr) (oc2 : Nat), j ≤ hs.length ∧ i = .int .i64 j ∧ f = .int .i64 fr ∧ v = .slice O2 o2.length oc2 ∧ OwnP wr w3.heap.size O2 oc2 o2 ∧ (hs.take j).foldl (Tm.hole p2) (out, p1) = (o2, fr) ∧ o2.length ≤ k * 301 + j ∧ Ext w3 wr ∧ wr.cell? ⟨wo.heap.size, 1, none⟩ = some (.int .i64 p2) ∧ NB O2 wo.heap.size) (fun i _ _ _ => hs.length - (intOf i).toNat)
        case atStart => exact ⟨0, out, p1, O, oc, by omega, rfl, rfl, rfl, HOW.out.ext ea, rfl, by omega, he.trans ea, B1.out, fun a ha => by have := own_lt HOW.out a.block (by rw [ha]; rfl); omega⟩
        case round =>
          obtain ⟨j, o2, fr, O2, oc2, hj, rfl, rfl, rfl, ho2, hfo, hol2, hej, bp, hnb⟩ := hrel
          have HNB := Lib.hid hnb
          clear hnb
          obtain ⟨wi, rfl⟩ : ∃ wi : World, wi = wr := ⟨_, rfl⟩
          have HFO := Lib.hid hfo
          have HO2 := Lib.hid ho2
          obtain ⟨L, hL⟩ : ∃ L, o2.length = L := ⟨_, rfl⟩
          have HLEN := Lib.hid hL
          have HO2' : Hid (wi.ownsRow w3.heap.size 33 2 (.slice O2 L oc2) L (o2.map Tm.cells).flatten) := Lib.hid (by rw [← hL]; exact ho2)
          rw [hL] at hol2 ⊢
          have hejs := hej.size
          have hwi : wo.heap.size < wi.heap.size := World.block_lt_of_cell? wi _ bp
          clear hfo ho2 hL
          by_cases hlj : j < hs.length
          · obtain ⟨q, hq⟩ : ∃ q, hs[j]? = some q := ⟨hs[j], List.getElem?_eq_getElem hlj⟩
            obtain ⟨yb, yo, rfl, hyb, f0, f1⟩ := (HY.out.1.ext hej).at_ hq
            obtain ⟨q1, q2⟩ := q
            simp only at f0 f1
            have HTJ : Hid ((hs.take (j + 1)).foldl (Tm.hole p2) (out, p1) = Tm.hole p2 (o2, fr) (q1, q2)) := Lib.hid (by rw [List.take_add_one, hq, List.foldl_append, HFO.out]; rfl)
            have ji0 : (0 : Int) ≤ (j : Int) := by omega
            have ji1 : (j : Int) < (hs.length : Int) := by omega
            have hne : wo.heap.size ≠ wi.heap.size := by omega
            have hne' : wi.heap.size ≠ wo.heap.size := by omega
            clear hq
            by_cases hskip : q2 ≤ fr ∨ p2 ≤ q1
            · have HST : Hid (Tm.hole p2 (o2, fr) (q1, q2) = (o2, fr)) := Lib.hid (Tm.hole_skip hskip)
              have hs2 : q2 ≤ fr ∨ (¬ q2 ≤ fr ∧ p2 ≤ q1) := by omega
              clear hskip
              rcases hs2 with g1 | ⟨g1, g2⟩
              all_goals
                go_wp2
                go_roundw
                case rel => exact ⟨j + 1, o2, fr, O2, oc2, by omega, by go_num, rfl, by rw [HLEN.out], HO2.out.ext ((Ext.refl _).alloc _), by rw [HTJ.out, HST.out], by rw [HLEN.out]; omega, hej.alloc _, ((Ext.refl wi).alloc _).keep bp, HNB.out⟩
                case measure => simp [intOf]; omega
            · have g1 : ¬ q2 ≤ fr := by omega
              have g2 : ¬ p2 ≤ q1 := by omega
              by_cases hadd : fr < q1
              · have HST : Hid (Tm.hole p2 (o2, fr) (q1, q2) = (o2 ++ [(fr, q1)], q2)) := Lib.hid (Tm.hole_add hskip hadd)
                clear hskip
                go_wp2_with (at_builtin; refine wpList_append_lies _ rfl _ _ 31 rfl w3.heap.size 33 i0 (.agg #[.int .i64 0, .int .i64 0]) 2 16 Try.underlying31 hi0 hz0 hz1 hz2 rfl (by decide) _ L _ rfl (own_ext HO2'.out (((Ext.refl wi).alloc _).alloc _)) ⟨wi.heap.size + 1, 0, none⟩ 1 1 (Tm.cells (fr, q1)) rfl rfl (World.news_of_block (heap_new_at _ _ _ (by simp))) (by simp [Value.oneCell', Tm.cells]) (by decide) (by unfold maxLen; omega) (by omega) (by simp; omega) _ rfl ?_; intro gg cap w9 hown9 hgr9 hat9 hlt9; have bp9 : w9.cell? ⟨wo.heap.size, 1, none⟩ = some (.int .i64 p2) := (hgr9.cell_far ⟨wo.heap.size, 1, none⟩ (by simp; omega) (nb_ne HNB.out)).trans ((((Ext.refl wi).alloc _).alloc _).keep bp); have c91 : w9.cell? ⟨wi.heap.size, 1, none⟩ = some (.int .i64 q2) := (hgr9.cell_far ⟨wi.heap.size, 1, none⟩ (by simp; omega) (fun e => by have := own_lt HO2'.out _ e.symm; simp only at this; omega)).trans (by simp [go_sem]))
                go_wp2
                go_roundw
                case rel =>
                  refine ⟨j + 1, o2 ++ [(fr, q1)], q2, some ⟨gg, 0, none⟩, cap, by omega, by go_num, rfl, by rw [List.length_append, HLEN.out]; rfl, OwnP.snoc HLEN.out hown9, by rw [HTJ.out, HST.out], by rw [List.length_append, HLEN.out]; simp; omega, ?_, bp9, nb_new HNB.out hat9 (by simp; omega)⟩
                  exact (((hej.alloc _).alloc _).grown hgr9 (fun q hq => own_ge HO2'.out q hq))
                case measure => simp [intOf]; omega
              · have HST : Hid (Tm.hole p2 (o2, fr) (q1, q2) = (o2, q2)) := Lib.hid (Tm.hole_none hskip hadd)
                clear hskip
                go_wp2
                go_roundw
                case rel => exact ⟨j + 1, o2, q2, O2, oc2, by omega, by go_num, rfl, by rw [HLEN.out], HO2.out.ext ((Ext.refl _).alloc _), by rw [HTJ.out, HST.out], by rw [HLEN.out]; omega, hej.alloc _, ((Ext.refl wi).alloc _).keep bp, HNB.out⟩
                case measure => simp [intOf]; omega
          · have HF2 : Hid (hs.foldl (Tm.hole p2) (out, p1) = (o2, fr)) := Lib.hid (by rw [← HFO.out, List.take_of_length_le (by omega)])
            by_cases hlast : fr < p2
            · have HPC : Hid (Tm.piece hs out (p1, p2) = o2 ++ [(fr, p2)]) := Lib.hid (by unfold Tm.piece; rw [HF2.out]; simp only; rw [if_pos hlast])
              go_wp2_with (at_builtin; refine wpList_append_lies _ rfl _ _ 31 rfl w3.heap.size 33 i0 (.agg #[.int .i64 0, .int .i64 0]) 2 16 Try.underlying31 hi0 hz0 hz1 hz2 rfl (by decide) _ L _ rfl (own_ext HO2'.out ((Ext.refl wi).alloc _)) ⟨wi.heap.size, 0, none⟩ 1 1 (Tm.cells (fr, p2)) rfl rfl (World.news_of_block (heap_new_at _ _ _ (by simp))) (by simp [Value.oneCell', Tm.cells]) (by decide) (by unfold maxLen; omega) (by omega) (by simp; omega) _ rfl ?_; intro gg cap w9 hown9 hgr9 hat9 hlt9)
              go_wp2
              go_roundw
              case rel =>
                refine ⟨k + 1, o2 ++ [(fr, p2)], some ⟨gg, 0, none⟩, cap, by omega, by go_num, by rw [List.length_append, HLEN.out]; rfl, OwnP.snoc HLEN.out hown9, by rw [HT.out, HPC.out], ?_, ?_⟩
                · rw [List.length_append, HLEN.out]; simp; omega
                · exact ((hej.alloc _).grown hgr9 (fun q hq => own_ge HO2'.out q hq))
              case measure => simp [intOf]; omega
            · have HPC : Hid (Tm.piece hs out (p1, p2) = o2) := Lib.hid (by unfold Tm.piece; rw [HF2.out]; simp only; rw [if_neg hlast])
              go_wp2
              go_roundw
              case rel => exact ⟨k + 1, o2, O2, oc2, by omega, by go_num, by rw [HLEN.out], HO2.out, by rw [HT.out, HPC.out], by rw [HLEN.out]; omega, hej⟩
              case measure => simp [intOf]; omega
      · have HFIN : Hid (us.foldl (Tm.piece hs) [] = out) := Lib.hid (by rw [← HOUT.out, List.take_of_length_le (by omega)])
        go_wp2
        refine bodyPost_ret (v := .tuple #[.slice O out.length oc, .int .i64 0]) (by simp [results, Try.results15, go_sem]) rfl ?_
        rw [HFIN.out]
        exact ⟨O, oc, rfl, own_low HOW.out hx3.size, hx3.trans he⟩
  · have hz' : (Tm.chk [ps, qs] != 0) = true := by rw [bne_iff_ne]; exact hz
    obtain ⟨x, hx⟩ : ∃ x, Tm.chk [ps, qs] = x := ⟨_, rfl⟩
    have HR : Hid (Tm.minV ps qs = []) := Lib.hid (by unfold Tm.minV; rw [if_neg hz])
    rw [HR.out, hx]
    rw [hx] at hz'
    have HX := Lib.hid hx
    clear hz hx
    go_enter Try.func15, Try.ntmps15
    go_wp2_with fail
    refine (check2 A c ps B d qs w HA.out HB.out HX.out).mono ?_
    rintro e w1 ⟨rfl, hb1⟩
    go_wp2
    refine bodyPost_ret (v := .tuple #[.slice none 0 0, .int .i64 x]) (by simp [results, Try.results15, go_sem]) rfl ?_
    exact ⟨none, 0, rfl, own_nil _ _ _ _, hb1⟩
end Go.Proofs.Ytpdboefaedocfaa
