/- The reference's minus, Union, Minus and Total: contracts. Conditions: those of each theorem. -/
import Derived.Test.YtpdboefaedocfaaTmY
namespace Go.Proofs.Ytpdboefaedocfaa
open Go.RowKit

theorem refcovers_to (X : Option Addr) (xc : Nat) (ps : List (Int × Int)) (x : Int) {r : Bool} (hr : Tm.cov ps x = r) (w : World) (ha : (⟨X, xc, ps⟩ : PL).In w) :
    Calls Try.prog 35 #[.slice X ps.length xc, .int .i64 x] w fun e w' => e = .returned (.bool r) ∧ Ext w w' := by
  subst hr
  exact refcovers_any X xc ps x w ha.1 (Nat.le_trans ha.2.1 ha.2.2.1)
theorem slI_at {w : World} {A : Option Addr} {xs : List Int} (h : SlI w A xs) {i : Nat} {x : Int} (hi : xs[i]? = some x) :
    ∃ b off, A = some ⟨b, off, none⟩ ∧ b < w.heap.size ∧ w.cell? ⟨b, off + i, none⟩ = some (.int .i64 x) := by
  obtain ⟨b, off, y, h1, h2, h3, h4⟩ := SlI.at_ h (i := i) (by rcases Nat.lt_or_ge i xs.length with g | g; exact g; rw [List.getElem?_eq_none g] at hi; cases hi)
  rw [hi] at h3
  injection h3 with h3
  subst h3
  exact ⟨b, off, h1, h2, h4⟩

set_option maxRecDepth 100000 in
set_option maxHeartbeats 6400000 in
theorem refminus_any (A : Option Addr) (c : Nat) (a : List (Int × Int)) (B : Option Addr) (d : Nat) (b : List (Int × Int)) (w : World) (h : (⟨A, c, a⟩ : PL).In w) (h2 : (⟨B, d, b⟩ : PL).In w)
    (ha : ∀ p ∈ a, Tm.ok p) (hb : ∀ p ∈ b, Tm.ok p) (hla : a.length ≤ 300) (hlb : b.length ≤ 300) :
    Calls Try.prog 28 #[.slice A a.length c, .slice B b.length d] w fun e w' => ∃ (X : Option Addr) (xc : Nat) (m : List (Int × Int)), e = .returned (.slice X m.length xc) ∧ (⟨X, xc, m⟩ : PL).In w' ∧ m = Tm.mns (Tm.nrm a) (Tm.nrm b) ∧ Ext w w' := by
  have HA := Lib.hid h
  have HB := Lib.hid h2
  have HAO := Lib.hid ha
  have HBO := Lib.hid hb
  clear h h2 ha hb
  obtain ⟨l, hl⟩ : ∃ l, a ++ b = l := ⟨_, rfl⟩
  have HL := Lib.hid hl
  have hll : l.length ≤ 600 := by rw [← hl, List.length_append]; omega
  have HLO : Hid (∀ p ∈ l, Tm.ok p) := Lib.hid (by
    intro p hp
    rw [← hl] at hp
    rcases List.mem_append.1 hp with g | g
    · exact HAO.out p g
    · exact HBO.out p g)
  clear hl
  obtain ⟨i0, hi0, hz0, hz1, hz2⟩ := info_parts Try.infoPair
  go_enter Try.func28, Try.ntmps28
  go_wp2_with (at_builtin; first
    | (refine wpList_append_sl rfl _ _ 31 rfl w.heap.size 33 i0 (.agg #[.int .i64 0, .int .i64 0]) 2 16 Try.underlying31 hi0 hz0 hz1 hz2 rfl (by decide) _ a.length _ rfl hown2 B d b.length (b.map Tm.cells) (by simp) rfl (HB.out.1.ext eq1) (pair_cells b).1 (pair_cells b).2 (by unfold maxLen; omega) (by omega) hsq ?_; intro P2 pc2 w2 hown3 hgr3; have e2 := eq1.grown hgr3 (fun k hk => own_ge hown2 k hk); clear hgr3 hown2 eq1 hsq)
    | (refine wpList_append_sl rfl _ _ 31 rfl w.heap.size 33 i0 (.agg #[.int .i64 0, .int .i64 0]) 2 16 Try.underlying31 hi0 hz0 hz1 hz2 rfl (by decide) (.slice (some ⟨w.heap.size, 0, none⟩) 0 0) 0 [] rfl (own_zero _ _ _ _ rfl) A c a.length (a.map Tm.cells) (by simp) rfl (HA.out.1.ext ((Ext.refl _).alloc _)) (pair_cells a).1 (pair_cells a).2 (by unfold maxLen; omega) (by omega) (by simp) ?_; intro P1 pc1 wq hown2 hgr2; rw [Nat.zero_add, List.nil_append] at hown2; rw [Nat.zero_add]; have eq1 := ((Ext.refl w).alloc _).grown hgr2 (fun k hk => by simp [Value.ownBlock] at hk; omega); have hsq := eq1.size; clear hgr2))
  obtain ⟨hown4, hnm⟩ := own_app hown3 HL.out rfl rfl
  rw [hnm]
  have HS : Hid (SlP w2 P2 l) := Lib.hid (own_SlP hown4 rfl)
  clear hown3 hown4 hnm
  refine (ends_any P2 pc2 l _ HS.out hll HLO.out).mono ?_
  rintro e w3 ⟨X, xc, E, rfl, hX, hEl, hEp, hEe, hb3⟩
  have HX := Lib.hid hX
  have e3 : Ext w w3 := e2.trans hb3
  have HFIN : Hid (Tm.rfold a b E (E.length - 1) = Tm.mns (Tm.nrm a) (Tm.nrm b)) := Lib.hid (Tm.rfold_eq HAO.out HBO.out hEp (fun x => by rw [HL.out]; exact hEe x))
  have HEB : Hid (∀ x ∈ E, 0 ≤ x ∧ x ≤ 1099511627776) := Lib.hid (fun x hx => Tm.end_ok HLO.out ((hEe x).1 hx))
  clear hX hEp hEe HS e2 hb3
  obtain ⟨j0, hj0, hy0, hy1, hy2⟩ := info_parts Try.infoPair
  clear hi0 hz0 hz1 hz2
  go_wp2_with fail
  go_loopw [7, 6] (fun i v wr => ∃ (k : Nat) (out : List (Int × Int)) (O : Option Addr) (oc : Nat), k ≤ E.length - 1 ∧ i = .int .i64 k ∧ v = .slice O out.length oc ∧ wr.ownsRow w3.heap.size 33 2 (.slice O out.length oc) out.length (out.map Tm.cells).flatten ∧ Tm.rfold a b E k = out ∧ Ext w3 wr) (fun i _ _ => E.length - (intOf i).toNat)
  case atStart => exact ⟨0, [], none, 0, by omega, rfl, rfl, own_nil _ _ _ _, rfl, Ext.refl _⟩
  case round =>
    obtain ⟨k, out, O, oc, hk, rfl, rfl, hown, hout, he⟩ := hrel
    obtain ⟨wo, rfl⟩ : ∃ wo : World, wo = wr := ⟨_, rfl⟩
    have HOUT := Lib.hid hout
    have HOW := Lib.hid hown
    have hes := he.size
    have hol := Tm.rfold_len a b E k
    rw [hout] at hol
    obtain ⟨L, hL⟩ : ∃ L, out.length = L := ⟨_, rfl⟩
    have HLEN := Lib.hid hL
    rw [hL] at hown hol ⊢
    clear hout hL
    by_cases hlt : k + 1 < E.length
    · obtain ⟨x, hx⟩ : ∃ x, E[k]? = some x := ⟨E[k], List.getElem?_eq_getElem (by omega)⟩
      obtain ⟨y, hy⟩ : ∃ y, E[k + 1]? = some y := ⟨E[k + 1], List.getElem?_eq_getElem hlt⟩
      obtain ⟨eb, eo, rfl, heb, c0⟩ := slI_at HX.out hx
      obtain ⟨eb', eo', hXe, -, c1⟩ := slI_at HX.out hy
      injection hXe with hXe
      injection hXe with hXe1 hXe2
      subst hXe1 hXe2
      have HC0 := Lib.hid c0
      have HC1 := Lib.hid c1
      have HT : Hid (Tm.rfold a b E (k + 1) = Tm.rst a b out x y) := Lib.hid (by
        rw [Tm.rfold, HOUT.out, List.getD_eq_getElem?_getD, hx, List.getD_eq_getElem?_getD, hy]; rfl)
      have ki0 : (0 : Int) ≤ (k : Int) := by omega
      have ki1 : (k : Int) + 1 < (E.length : Int) := by omega
      have ki2 : (k : Int) < (E.length : Int) := by omega
      have ki3 : (0 : Int) ≤ (k : Int) + 1 := by omega
      have hktn : ((k : Int) + 1).toNat = k + 1 := by omega
      have hwrk : IntKind.i64.wrap ((k : Int) + 1) = (k : Int) + 1 := IntWalk.i64_in _ (by omega)
      clear hx hy c0 c1
      have c0 := he.keep HC0.out
      obtain ⟨ca, hca⟩ : ∃ ca, Tm.cov a x = ca := ⟨_, rfl⟩
      obtain ⟨cb, hcb⟩ : ∃ cb, Tm.cov b x = cb := ⟨_, rfl⟩
      have HCA := Lib.hid hca
      have HCB := Lib.hid hcb
      have HOWL := Lib.hid hown
      clear hca hcb hown
      go_wp2_with fail
      refine (refcovers_to A c a x HCA.out _ (HA.out.ext (e3.trans he))).mono ?_
      rintro e w5 ⟨rfl, hb5⟩
      have he5 := he.trans hb5
      have c05 := he5.keep HC0.out
      cases ca with
      | false =>
        have HSTEP : Hid (Tm.rst a b out x y = out) := Lib.hid (Tm.rst_skip (by rw [HCA.out]; intro g; cases g.1))
        go_wp2
        go_roundw
        case rel => exact ⟨k + 1, out, O, oc, by omega, by go_num, by rw [HLEN.out], own_ext HOW.out hb5, HT.out.trans HSTEP.out, he5⟩
        case measure => simp [intOf]; omega
      | true =>
        go_wp2_with fail
        refine (refcovers_to B d b x HCB.out _ (HB.out.ext (e3.trans he5))).mono ?_
        rintro e w6 ⟨rfl, hb6⟩
        have he6 := he5.trans hb6
        cases cb with
        | true =>
          have HSTEP : Hid (Tm.rst a b out x y = out) := Lib.hid (Tm.rst_skip (by rw [HCB.out]; intro g; cases g.2))
          go_wp2
          go_roundw
          case rel => exact ⟨k + 1, out, O, oc, by omega, by go_num, by rw [HLEN.out], own_ext HOW.out (hb5.trans hb6), HT.out.trans HSTEP.out, he6⟩
          case measure => simp [intOf]; omega
        | false =>
          have HOWZ0 : Hid (w6.ownsRow w3.heap.size 33 2 (.slice O L oc) L (out.map Tm.cells).flatten) := Lib.hid (own_ext HOWL.out (hb5.trans hb6))
          have c06 := he6.keep HC0.out
          have c16 := he6.keep HC1.out
          have hs6 := he6.size
          clear c0 c05
          rcases Nat.eq_zero_or_pos L with hL0 | hL0
          · have hnil : out = [] := List.eq_nil_of_length_eq_zero (by rw [HLEN.out]; exact hL0)
            have HSTEP : Hid (Tm.rst a b out x y = out ++ [(x, y)]) := Lib.hid (by rw [hnil]; exact Tm.rst_first ⟨HCA.out, HCB.out⟩)
            have hL0' : decide ((0 : Int) < (L : Int)) = false := by simp; omega
            have hL0m : decide (0 < L) = false := by simp; omega
            have hL0n : ¬ 0 < L := by omega
            clear hL0 hnil
            go_wp2
            go_quiet (fail)
            obtain ⟨wz, hwz⟩ : ∃ wz : World, w6.drewN nq = wz := ⟨_, rfl⟩
            have hdz : Ext w6 wz := by rw [← hwz]; exact (Ext.refl _).drewN _
            have hez := he6.trans hdz
            have HOWZ := Lib.hid (own_ext HOWZ0.out hdz)
            have HNE := Lib.hid (own_ne HOWZ.out (show eb < w3.heap.size from heb))
            have z0 := hez.keep HC0.out
            have z1 := hez.keep HC1.out
            have hsz := hez.size
            rw [hwz]
            clear c06 c16
            go_wp2_with fail
            go_region_held3 (fun w' => w'.cell? ⟨eb, eo + k, none⟩ = some (.int .i64 x) ∧ w'.cell? ⟨eb, eo + (k + 1), none⟩ = some (.int .i64 y))
              (first
                | go_keep
                | (go_split_ands
                   refine ⟨?_, ?_⟩
                   · (rw [hgrow.cell_far _ (by simp; omega) HNE.out]; assumption)
                   · (rw [hgrow.cell_far _ (by simp; omega) HNE.out]; assumption)))
              (first
                | (refine step_append_lies _ (by rfl) _ _ _ (by rfl) w3.heap.size 33 j0 _ 2 16 Try.underlying31 hj0 hy0 hy1 hy2 rfl (by omega) _ L _ (by rfl) (own_ext HOWZ.out (by first | (with_reducible exact ((Ext.refl wz).alloc _).drew) | (with_reducible exact ((Ext.refl wz).drew).alloc _) | (with_reducible exact ((Ext.refl wz).alloc _))))
                    ⟨wz.heap.size, 0, none⟩ 1 1 (Tm.cells (x, y)) (by rfl) (by rfl) (World.news_of_block (cs := (Tm.cells (x, y)).toArray) (t := 33) (fr := (0, 0)) (heap_alloc_new wz _)) (by simp [Value.oneCell', Tm.cells])
                    (by omega) (by unfold maxLen; omega) (by omega) (by simp; omega) (wz.heap.size + 1) (by simp) ?_; intro gg cap w4 hown1 hgrow hat hlt1))
            go_wp2
            go_roundw
            case rel =>
              refine ⟨k + 1, out ++ [(x, y)], some ⟨gg, 0, none⟩, cap, by omega, by go_num, ?_, ?_, HT.out.trans HSTEP.out, ?_⟩
              · rw [List.length_append, HLEN.out]; rfl
              · rw [List.map_append, List.flatten_append, List.length_append, HLEN.out]
                simpa using hown1
              · exact ((hez.alloc _).drew).grown hgrow (fun q hq => own_ge HOWZ.out q hq)
            case measure => simp [intOf]; omega
          · obtain ⟨q, hq⟩ : ∃ q, out.getLast? = some q := by
              cases hg : out.getLast? with
              | none => rw [List.getLast?_eq_none_iff] at hg; have := HLEN.out; rw [hg] at this; simp at this; omega
              | some q => exact ⟨q, rfl⟩
            obtain ⟨g, hB⟩ : ∃ g, O = some ⟨g, 0, none⟩ := by
              rcases HOWL.out.2 with ⟨-, e⟩ | ⟨g, cap, cur, e, -⟩
              · omega
              · injection e with e _ _; exact ⟨g, e⟩
            subst hB
            have hqi : out[L - 1]? = some q := by rw [← HLEN.out, ← List.getLast?_eq_getElem?]; exact hq
            obtain ⟨gb, go, hA2, hgb, g0, g1⟩ := (own_SlP HOWZ0.out HLEN.out).at_ hqi
            injection hA2 with hA2
            injection hA2 with hA2 hA3
            subst hA2 hA3
            rw [Nat.zero_add] at g0 g1
            have hfr : w6.frozen? ⟨g, (L - 1) * 2 + 1, none⟩ = false := by
              rcases HOWZ0.out.2 with ⟨e, -⟩ | ⟨g', cap, cur, e, -, e3, -⟩
              · cases e
              · injection e with e _ _
                injection e with e
                injection e with e
                subst e
                exact frozen_of_row _ _ _ _ _ e3
            obtain ⟨q1, q2⟩ := q
            simp only at g0 g1
            have hL0' : decide ((0 : Int) < (L : Int)) = true := by simp; omega
            have hL0m : decide (0 < L) = true := by simp; omega
            have i1 : (L : Int) - 1 < (L : Int) := by omega
            have i2 : (0 : Int) ≤ (L : Int) - 1 := by omega
            have i3 : 1 ≤ (L : Int) := by omega
            have hwr : IntKind.i64.wrap ((L : Int) - 1) = (L : Int) - 1 := IntWalk.i64_in _ (by omega)
            have e1 : ((L : Int) - 1).toNat = L - 1 := by omega
            have hgge := own_ge HOWZ0.out g rfl
            have hgne : g ≠ eb := by omega
            have hgne' : eb ≠ g := by omega
            have HQL := Lib.hid hq
            clear hqi hq
            by_cases hj : q2 = x
            · have HSTEP : Hid (Tm.rst a b out x y = out.dropLast ++ [(q1, y)]) := Lib.hid (Tm.rst_join ⟨HCA.out, HCB.out⟩ HQL.out hj)
              have hjb : (q2 == x) = true := by rw [beq_iff_eq]; exact hj
              clear hj
              go_wp2
              go_quiet (fail)
              go_wp2
              go_roundw
              case rel =>
                have hox : World.ownsRow ((w6.drewN nq).setCell ⟨g, (L - 1) * 2 + 1, none⟩ (.int .i64 y)) w3.heap.size 33 2 (.slice (some ⟨g, 0, none⟩) L oc) L _ := own_set (own_ext HOWZ0.out ((Ext.refl w6).drewN _)) (by omega)
                have hls : (out.dropLast ++ [(q1, y)]).length = L := by rw [List.length_append, List.length_dropLast, HLEN.out]; simp; omega
                refine ⟨k + 1, out.dropLast ++ [(q1, y)], some ⟨g, 0, none⟩, oc, by omega, by go_num, by rw [hls], ?_, HT.out.trans HSTEP.out, ?_⟩
                · rw [hls, ← Tm.flat_set HQL.out, HLEN.out]
                  exact hox
                · exact Ext.setCell (he6.drewN _) hgge _
              case measure => simp [intOf]; omega
            · have HSTEP : Hid (Tm.rst a b out x y = out ++ [(x, y)]) := Lib.hid (Tm.rst_new ⟨HCA.out, HCB.out⟩ HQL.out hj)
              have hjb : (q2 == x) = false := by rw [beq_eq_false_iff_ne]; exact hj
              clear hj
              go_wp2
              go_quiet (fail)
              obtain ⟨wz, hwz⟩ : ∃ wz : World, w6.drewN nq = wz := ⟨_, rfl⟩
              have hdz : Ext w6 wz := by rw [← hwz]; exact (Ext.refl _).drewN _
              have hez := he6.trans hdz
              have HOWZ := Lib.hid (own_ext HOWZ0.out hdz)
              have HNE := Lib.hid (own_ne HOWZ.out (show eb < w3.heap.size from heb))
              have z0 := hez.keep HC0.out
              have z1 := hez.keep HC1.out
              have hsz := hez.size
              rw [hwz]
              clear c06 c16 g0 g1 hfr
              go_wp2_with fail
              go_region_held3 (fun w' => w'.cell? ⟨eb, eo + k, none⟩ = some (.int .i64 x) ∧ w'.cell? ⟨eb, eo + (k + 1), none⟩ = some (.int .i64 y))
                (first
                  | go_keep
                  | (go_split_ands
                     refine ⟨?_, ?_⟩
                     · (rw [hgrow.cell_far _ (by simp; omega) HNE.out]; assumption)
                     · (rw [hgrow.cell_far _ (by simp; omega) HNE.out]; assumption)))
                (first
                  | (refine step_append_lies _ (by rfl) _ _ _ (by rfl) w3.heap.size 33 j0 _ 2 16 Try.underlying31 hj0 hy0 hy1 hy2 rfl (by omega) _ L _ (by rfl) (own_ext HOWZ.out (by first | (with_reducible exact ((Ext.refl wz).alloc _).drew) | (with_reducible exact ((Ext.refl wz).drew).alloc _) | (with_reducible exact ((Ext.refl wz).alloc _))))
                      ⟨wz.heap.size, 0, none⟩ 1 1 (Tm.cells (x, y)) (by rfl) (by rfl) (World.news_of_block (cs := (Tm.cells (x, y)).toArray) (t := 33) (fr := (0, 0)) (heap_alloc_new wz _)) (by simp [Value.oneCell', Tm.cells])
                      (by omega) (by unfold maxLen; omega) (by omega) (by simp; omega) (wz.heap.size + 1) (by simp) ?_; intro gg cap w4 hown1 hgrow hat hlt1))
              go_wp2
              go_roundw
              case rel =>
                refine ⟨k + 1, out ++ [(x, y)], some ⟨gg, 0, none⟩, cap, by omega, by go_num, ?_, ?_, HT.out.trans HSTEP.out, ?_⟩
                · rw [List.length_append, HLEN.out]; rfl
                · rw [List.map_append, List.flatten_append, List.length_append, HLEN.out]
                  simpa using hown1
                · exact ((hez.alloc _).drew).grown hgrow (fun q hq => own_ge HOWZ.out q hq)
              case measure => simp [intOf]; omega
    · have hkn : k = E.length - 1 := by omega
      have HFI : Hid (out = Tm.mns (Tm.nrm a) (Tm.nrm b)) := Lib.hid (by rw [← HOUT.out, hkn]; exact HFIN.out)
      have kj : ¬ ((k : Int) + 1 < (E.length : Int)) := by omega
      have hwrk : IntKind.i64.wrap ((k : Int) + 1) = (k : Int) + 1 := IntWalk.i64_in _ (by omega)
      clear hkn
      go_wp2
      go_ret
      refine ⟨O, oc, out, by rw [HLEN.out]; rfl, pl_own HOW.out ?_, HFI.out, e3.trans he⟩
      rw [HFI.out]
      exact Tm.mns_ok (Tm.nrm_ok HAO.out).1 (Tm.nrm_norm (Tm.ok_lt HBO.out)).1.1
end Go.Proofs.Ytpdboefaedocfaa
