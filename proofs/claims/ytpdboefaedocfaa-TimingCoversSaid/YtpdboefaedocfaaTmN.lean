/- timing.normal: its contract. Conditions: those of each theorem. -/
import Derived.Test.YtpdboefaedocfaaTmD
import Derived.Deep.RegionLaw
import Derived.OneCell
import Derived.Lib.SmallJoins
import Derived.Deep.QuietTactic
import Derived.BigQuiet
namespace Go.Proofs.Ytpdboefaedocfaa
open Go.RowKit

namespace Tm
/-- One interval more, joined to the last one if it touches it. -/
def step (out : List (Int × Int)) (p : Int × Int) : List (Int × Int) :=
  match out.getLast? with
  | some q => if p.1 ≤ q.2 then out.dropLast ++ [(q.1, max q.2 p.2)] else out ++ [p]
  | none => [p]
/-- The normal form. -/
def nrm (ps : List (Int × Int)) : List (Int × Int) := (srt ps).foldl step []
theorem step_join {out : List (Int × Int)} {p q : Int × Int} (h : out.getLast? = some q) (hp : p.1 ≤ q.2) : step out p = out.dropLast ++ [(q.1, max q.2 p.2)] := by unfold step; rw [h]; simp only; rw [if_pos hp]
theorem step_new {out : List (Int × Int)} {p q : Int × Int} (h : out.getLast? = some q) (hp : ¬ p.1 ≤ q.2) : step out p = out ++ [p] := by unfold step; rw [h]; simp only; rw [if_neg hp]
theorem step_first (p : Int × Int) : step [] p = [p] := rfl
theorem step_len (out : List (Int × Int)) (p : Int × Int) : (step out p).length ≤ out.length + 1 := by
  unfold step
  cases h : out.getLast? with
  | none => simp
  | some q =>
    simp only
    split
    · simp
    · simp
theorem ite_max (a b : Int) : (if a < b then b else a) = max a b := by split <;> omega
/-- A last element's second cell turned. -/
theorem flat_set {out : List (Int × Int)} {q : Int × Int} {u : Int} (h : out.getLast? = some q) : ((out.map cells).flatten).set ((out.length - 1) * 2 + 1) (.int .i64 u) = ((out.dropLast ++ [(q.1, u)]).map cells).flatten := by
  obtain ⟨ys, rfl⟩ := List.getLast?_eq_some_iff.1 h
  have hl : ((ys.map cells).flatten).length = ys.length * 2 := by
    rw [flatten_len (k := 2) (fun c hc => by obtain ⟨p, -, rfl⟩ := List.mem_map.1 hc; rfl), List.length_map]
  rw [List.map_append, List.flatten_append, List.dropLast_concat, List.map_append, List.flatten_append, List.length_append]
  rw [List.set_append_right _ _ (by rw [hl]; simp), hl]
  simp [cells]
end Tm
theorem own_set {w : World} {base : Nat} {e : TypeId} {size n cap g j : Nat} {xs : List Value} {u : Value} (h : w.ownsRow base e size (.slice (some ⟨g, 0, none⟩) n cap) n xs) (_hj : j < n * size) : (w.setCell ⟨g, j, none⟩ u).ownsRow base e size (.slice (some ⟨g, 0, none⟩) n cap) n (xs.set j u) := by
  refine ⟨by rw [List.length_set]; exact h.1, ?_⟩
  rcases h.2 with ⟨h1, -⟩ | ⟨g', cap', cur, h1, h2, h3, h4, h5, h6, h7⟩
  · cases h1
  · injection h1 with h1 _ hc
    injection h1 with h1
    injection h1 with h1
    subst h1 hc
    refine Or.inr ⟨g, cap, cur.setIfInBounds j u, rfl, h2, Joins.block_setCell (i := j) h3 u, h4, h5, by rw [Array.size_setIfInBounds]; exact h6, ?_⟩
    rw [Array.toList_setIfInBounds, ← h7, List.take_set]

theorem own_low {w : World} {base base' : Nat} {e : TypeId} {size : Nat} {v : Value} {n : Nat} {xs : List Value} (h : w.ownsRow base e size v n xs) (hb : base' ≤ base) : w.ownsRow base' e size v n xs := by
  refine ⟨h.1, ?_⟩
  rcases h.2 with g | ⟨g, cap, cur, h1, h2, h3⟩
  · exact Or.inl g
  · exact Or.inr ⟨g, cap, cur, h1, Nat.le_trans hb h2, h3⟩
theorem own_SlP {w : World} {base n c : Nat} {A : Option Addr} {ps : List (Int × Int)} (h : w.ownsRow base 33 2 (.slice A n c) n (ps.map Tm.cells).flatten) (hn : ps.length = n) : SlP w A ps := by
  subst hn
  obtain ⟨X, xc, hv, -, -, hX⟩ := Sl.of_own (k := 2) (pair_cells ps).1 (by rw [List.length_map]) h
  injection hv with hv _ _
  rw [hv]
  exact hX
theorem clone_to (A : Option Addr) (c n : Nat) (ps : List (Int × Int)) (hn : ps.length = n) (w : World) (h : SlP w A ps) (hb : n ≤ 1000) :
    Calls Try.prog 29 #[.slice A n c] w fun e w' => ∃ (A' : Option Addr) (c' : Nat), e = .returned (.slice A' n c') ∧ w'.ownsRow w.heap.size 33 2 (.slice A' n c') n (ps.map Tm.cells).flatten ∧ Ext w w' := by
  subst hn
  exact clone_any A c ps w h hb

set_option maxRecDepth 100000 in
set_option maxHeartbeats 3200000 in
theorem normal_any (A : Option Addr) (c : Nat) (ps : List (Int × Int)) (w : World) (h : SlP w A ps) (hb : ps.length ≤ 1000) :
    Calls Try.prog 26 #[.slice A ps.length c] w (RetOwnP (Tm.nrm ps) w) := by
  have H := Lib.hid h
  clear h
  obtain ⟨n, hn⟩ : ∃ n, ps.length = n := ⟨_, rfl⟩
  rw [hn] at hb ⊢
  have HN := Lib.hid hn
  have HSL : Hid ((Tm.srt ps).length = n) := Lib.hid (by rw [Tm.srt_len]; exact hn)
  clear hn
  obtain ⟨i0, hi0, hz0, hz1, hz2⟩ := info_parts Try.infoPair
  go_enter Try.func26, Try.ntmps26
  go_wp2_with fail
  refine (clone_to A c n ps HN.out _ H.out hb).mono ?_
  rintro e w1 ⟨X, xc, rfl, hown, hb1⟩
  have HOWN := Lib.hid hown
  clear hown
  go_wp2_with fail
  refine (sort_any X xc n ps HN.out _ hb1 HOWN.out hb).mono ?_
  rintro e w2 ⟨rfl, hS, hb2⟩
  have HS := Lib.hid hS
  clear hS
  obtain ⟨qs, hqs⟩ : ∃ qs, Tm.srt ps = qs := ⟨_, rfl⟩
  have HQ := Lib.hid hqs
  replace HS : Hid (SlP w2 X qs) := Lib.hid (by rw [← HQ.out]; exact HS.out)
  replace HSL : Hid (qs.length = n) := Lib.hid (by rw [← HQ.out]; exact HSL.out)
  have HRES : Hid (Tm.nrm ps = qs.foldl Tm.step []) := Lib.hid (by unfold Tm.nrm; rw [HQ.out])
  clear hqs
  go_wp2_with fail
  go_loopw [14, 4] (fun i v wr => ∃ (k : Nat) (out : List (Int × Int)) (B : Option Addr) (bc : Nat), k ≤ n ∧ i = .int .i64 k ∧ v = .slice B out.length bc ∧ wr.ownsRow w2.heap.size 33 2 (.slice B out.length bc) out.length (out.map Tm.cells).flatten ∧ (qs.take k).foldl Tm.step [] = out ∧ out.length ≤ k ∧ Ext w2 wr) (fun i _ _ => n - (intOf i).toNat)
  case atStart => exact ⟨0, [], none, 0, by omega, rfl, rfl, own_nil _ _ _ _, rfl, by simp, Ext.refl _⟩
  case round =>
    obtain ⟨k, out, B, bc, hk, rfl, rfl, hown, hout, hol, he⟩ := hrel
    obtain ⟨wo, rfl⟩ : ∃ wo : World, wo = wr := ⟨_, rfl⟩
    have HOUT := Lib.hid hout
    have HOW := Lib.hid hown
    have hes := he.size
    obtain ⟨L, hL⟩ : ∃ L, out.length = L := ⟨_, rfl⟩
    have HLEN := Lib.hid hL
    rw [hL] at hown hol ⊢
    clear hout hL
    by_cases hlt : k < n
    · obtain ⟨p, hp⟩ : ∃ p, qs[k]? = some p := ⟨qs[k]'(by rw [HSL.out]; exact hlt), List.getElem?_eq_getElem _⟩
      obtain ⟨xb, xo, rfl, hxb, d0, d1⟩ := (HS.out.ext he).at_ hp
      obtain ⟨p1, p2⟩ := p
      simp only at d0 d1
      have HT : Hid ((qs.take (k + 1)).foldl Tm.step [] = Tm.step out (p1, p2)) := Lib.hid (by rw [List.take_add_one, hp, List.foldl_append, HOUT.out]; rfl)
      have ki0 : (0 : Int) ≤ (k : Int) := by omega
      have ki1 : (k : Int) < (n : Int) := by omega
      clear hp
      have HOWL := Lib.hid hown
      clear hown
      rcases Nat.eq_zero_or_pos L with hL0 | hL0
      · have hnil : out = [] := List.eq_nil_of_length_eq_zero (by rw [HLEN.out]; exact hL0)
        have HSTEP : Hid (Tm.step out (p1, p2) = out ++ [(p1, p2)]) := Lib.hid (by rw [hnil]; rfl)
        have hL0' : decide ((0 : Int) < (L : Int)) = false := by simp; omega
        have hL0m : decide (0 < L) = false := by simp; omega
        have hL0n : ¬ 0 < L := by omega
        clear hL0 hnil
        go_wp2
        go_quiet (fail)
        go_wp2_with (at_builtin; refine wpList_append_lies _ rfl _ _ 31 rfl w2.heap.size 33 i0 (.agg #[.int .i64 0, .int .i64 0]) 2 16 Try.underlying31 hi0 hz0 hz1 hz2 rfl (by decide) _ L _ rfl (own_ext HOWL.out ((((Ext.refl wo).alloc _).drewN _).alloc _)) ⟨wo.heap.size + 1, 0, none⟩ 1 1 (Tm.cells (p1, p2)) rfl rfl (World.news_of_block (heap_new_at _ _ _ (by simp))) (by simp [Value.oneCell', Tm.cells]) (by decide) (by unfold maxLen; omega) (by omega) (by simp; omega) _ rfl ?_; intro gg cap w3 hown3 hgr3 hat3 hlt3)
        go_wp2
        go_roundw
        case rel =>
          refine ⟨k + 1, out ++ [(p1, p2)], some ⟨gg, 0, none⟩, cap, by omega, by go_num, ?_, ?_, ?_, ?_, ?_⟩
          · rw [List.length_append, HLEN.out]; rfl
          · rw [List.map_append, List.flatten_append, List.length_append, HLEN.out]
            simpa using hown3
          · rw [HT.out, HSTEP.out]
          · rw [List.length_append, HLEN.out]; simp; omega
          · exact ((((he.alloc _).drewN _).alloc _).grown hgr3 (fun q hq => own_ge HOWL.out q hq))
        case measure => simp [intOf]; omega
      · obtain ⟨q, hq⟩ : ∃ q, out.getLast? = some q := by
          cases hg : out.getLast? with
          | none => rw [List.getLast?_eq_none_iff] at hg; have := HLEN.out; rw [hg] at this; simp at this; omega
          | some q => exact ⟨q, rfl⟩
        obtain ⟨g, hB⟩ : ∃ g, B = some ⟨g, 0, none⟩ := by
          rcases HOWL.out.2 with ⟨-, e⟩ | ⟨g, cap, cur, e, -⟩
          · omega
          · injection e with e _ _; exact ⟨g, e⟩
        subst hB
        have hqi : out[L - 1]? = some q := by rw [← HLEN.out, ← List.getLast?_eq_getElem?]; exact hq
        obtain ⟨gb, go, hA2, hgb, g0, g1⟩ := (own_SlP HOWL.out HLEN.out).at_ hqi
        injection hA2 with hA2
        injection hA2 with hA2 hA3
        subst hA2 hA3
        rw [Nat.zero_add] at g0 g1
        have hfr : wo.frozen? ⟨g, (L - 1) * 2 + 1, none⟩ = false := by
          rcases HOWL.out.2 with ⟨e, -⟩ | ⟨g', cap, cur, e, -, e3, -⟩
          · cases e
          · injection e with e _ _
            injection e with e
            injection e with e
            subst e
            exact frozen_of_row _ _ _ _ _ e3
        obtain ⟨q1, q2⟩ := q
        simp only at g0 g1
        have hL0' : decide ((0 : Int) < (L : Int)) = true := by simp; omega
        have hL0m : decide (0 < L) = true := by simp; omega
        have i1 : (L : Int) - 1 < (L : Int) := by omega
        have i2 : (0 : Int) ≤ (L : Int) - 1 := by omega
        have i3 : 1 ≤ (L : Int) := by omega
        have hwr : IntKind.i64.wrap ((L : Int) - 1) = (L : Int) - 1 := IntWalk.i64_in _ (by omega)
        have e1 : ((L : Int) - 1).toNat = L - 1 := by omega
        have hgne : g ≠ wo.heap.size := by omega
        have hgne' : wo.heap.size ≠ g := by omega
        have HQL := Lib.hid hq
        clear hqi hq
        by_cases hj : p1 ≤ q2
        · have HSTEP : Hid (Tm.step out (p1, p2) = out.dropLast ++ [(q1, max q2 p2)]) := Lib.hid (Tm.step_join HQL.out hj)
          go_wp2
          go_quiet (fail)
          go_wp2_with fail
          go_region
          all_goals
            go_wp2
            go_roundw
            case rel =>
              have hox : World.ownsRow ((((wo.alloc (.cells #[.int .i64 p1, .int .i64 p2] 33)).drewN (nq + 1))).setCell ⟨g, (L - 1) * 2 + 1, none⟩ (.int .i64 (max q2 p2))) w2.heap.size 33 2 (.slice (some ⟨g, 0, none⟩) L bc) L _ := own_set (own_ext HOWL.out (((Ext.refl wo).alloc _).drewN _)) (by omega)
              have hls : (out.dropLast ++ [(q1, max q2 p2)]).length = L := by rw [List.length_append, List.length_dropLast, HLEN.out]; simp; omega
              refine ⟨k + 1, out.dropLast ++ [(q1, max q2 p2)], some ⟨g, 0, none⟩, bc, by omega, by go_num, by rw [hls], ?_, by rw [HT.out, HSTEP.out], by rw [hls]; omega, ?_⟩
              · rw [hls, ← Tm.flat_set HQL.out, HLEN.out]
                exact hox
              · exact Ext.setCell ((he.alloc _).drewN _) (own_ge HOWL.out g rfl) _
            case measure => simp [intOf]; omega
        · have HSTEP : Hid (Tm.step out (p1, p2) = out ++ [(p1, p2)]) := Lib.hid (Tm.step_new HQL.out hj)
          have hj' : decide (p1 ≤ q2) = false := by simp; omega
          have hj2 : q2 < p1 := by omega
          clear hj
          go_wp2
          go_quiet (fail)
          go_wp2_with (at_builtin; refine wpList_append_lies _ rfl _ _ 31 rfl w2.heap.size 33 i0 (.agg #[.int .i64 0, .int .i64 0]) 2 16 Try.underlying31 hi0 hz0 hz1 hz2 rfl (by decide) _ L _ rfl (own_ext HOWL.out ((((Ext.refl wo).alloc _).drewN _).alloc _)) ⟨wo.heap.size + 1, 0, none⟩ 1 1 (Tm.cells (p1, p2)) rfl rfl (World.news_of_block (heap_new_at _ _ _ (by simp))) (by simp [Value.oneCell', Tm.cells]) (by decide) (by unfold maxLen; omega) (by omega) (by simp; omega) _ rfl ?_; intro gg cap w3 hown3 hgr3 hat3 hlt3)
          go_wp2
          go_roundw
          case rel =>
            refine ⟨k + 1, out ++ [(p1, p2)], some ⟨gg, 0, none⟩, cap, by omega, by go_num, ?_, ?_, ?_, ?_, ?_⟩
            · rw [List.length_append, HLEN.out]; rfl
            · rw [List.map_append, List.flatten_append, List.length_append, HLEN.out]
              simpa using hown3
            · rw [HT.out, HSTEP.out]
            · rw [List.length_append, HLEN.out]; simp; omega
            · exact ((((he.alloc _).drewN _).alloc _).grown hgr3 (fun q hq => own_ge HOWL.out q hq))
          case measure => simp [intOf]; omega
    · have hkn : k = n := by omega
      have HFIN : Hid (Tm.nrm ps = out) := Lib.hid (by rw [HRES.out, ← HOUT.out, List.take_of_length_le (by rw [HSL.out]; omega)])
      go_wp2
      go_ret
      rw [HFIN.out]
      refine ⟨B, bc, by rw [HLEN.out]; rfl, ?_, (hb2.trans he)⟩
      exact own_low HOW.out hb2.size
end Go.Proofs.Ytpdboefaedocfaa
