/- The reference's check, covers and ends: contracts. Conditions: those of each theorem. -/
import Derived.Test.YtpdboefaedocfaaTmL
import Derived.Test.YtpdboefaedocfaaTmX
namespace Go.Proofs.Ytpdboefaedocfaa
open Go.RowKit

theorem own_app {w : World} {base : Nat} {A : Option Addr} {n m c : Nat} {a b l : List (Int × Int)} (h : w.ownsRow base 33 2 (.slice A (n + m) c) (n + m) ((a.map Tm.cells).flatten ++ (b.map Tm.cells).flatten)) (hl : a ++ b = l) (hn : a.length = n) (hm : b.length = m) : w.ownsRow base 33 2 (.slice A l.length c) l.length (l.map Tm.cells).flatten ∧ n + m = l.length := by
  subst hl hn hm
  rw [List.map_append, List.flatten_append, List.length_append]
  exact ⟨h, rfl⟩
theorem flat_ints (xs : List Int) : (xs.map fun x => [Value.int .i64 x]).flatten = xs.map (Value.int .i64) := by
  induction xs with
  | nil => rfl
  | cons x xs ih => simp [ih]
theorem own_SlI {w : World} {base c : Nat} {A : Option Addr} {xs : List Int} (h : w.ownsRow base 3 1 (.slice A xs.length c) xs.length (xs.map (Value.int .i64))) : SlI w A xs := by
  rw [← flat_ints] at h
  obtain ⟨X, xc, hv, -, -, hX⟩ := Sl.of_own (k := 1) (fun c hc => by obtain ⟨x, -, rfl⟩ := List.mem_map.1 hc; rfl) (by rw [List.length_map]) h
  injection hv with hv _ _
  rw [hv]
  exact hX

set_option maxRecDepth 100000 in
set_option maxHeartbeats 3200000 in
theorem refcheck_any (A : Option Addr) (c : Nat) (a : List (Int × Int)) (B : Option Addr) (d : Nat) (b : List (Int × Int)) (w : World) (h : (⟨A, c, a⟩ : PL).In w) (h2 : (⟨B, d, b⟩ : PL).In w) :
    Calls Try.prog 27 #[.slice A a.length c, .slice B b.length d] w fun e w' => e = .returned (.int .i64 (Tm.chk [a, b])) ∧ Ext w w' := by
  have HA := Lib.hid h
  have HB := Lib.hid h2
  have hla : a.length ≤ maxLen := Nat.le_trans h.2.1 h.2.2.1
  have hlb : b.length ≤ maxLen := Nat.le_trans h2.2.1 h2.2.2.1
  unfold maxLen at hla hlb
  clear h h2
  by_cases ha : 300 < a.length
  · have ha1 : decide ((300 : Int) < (a.length : Int)) = true := by simp; omega
    have ha2 : decide (300 < a.length) = true := by simp; omega
    have HR : Hid (Tm.chk [a, b] = 5) := Lib.hid (Tm.chk_big (List.any_eq_true.2 ⟨a, by simp, by unfold Tm.big; simpa using ha⟩))
    go_enter Try.func27, Try.ntmps27
    go_wp2
    go_ret
    exact ⟨ret_int HR.out.symm, Ext.refl _⟩
  have ha1 : decide ((300 : Int) < (a.length : Int)) = false := by simp; omega
  have ha2 : decide (300 < a.length) = false := by simp; omega
  by_cases hb : 300 < b.length
  · have hb1 : decide ((300 : Int) < (b.length : Int)) = true := by simp; omega
    have hb2 : decide (300 < b.length) = true := by simp; omega
    have HR : Hid (Tm.chk [a, b] = 5) := Lib.hid (Tm.chk_big (List.any_eq_true.2 ⟨b, by simp, by unfold Tm.big; simpa using hb⟩))
    go_enter Try.func27, Try.ntmps27
    go_wp2
    go_ret
    exact ⟨ret_int HR.out.symm, Ext.refl _⟩
  have hb1 : decide ((300 : Int) < (b.length : Int)) = false := by simp; omega
  have hb2 : decide (300 < b.length) = false := by simp; omega
  obtain ⟨l, hl⟩ : ∃ l, a ++ b = l := ⟨_, rfl⟩
  have HL := Lib.hid hl
  have hll : l.length ≤ 600 := by rw [← hl, List.length_append]; omega
  have HBIG : Hid ([a, b].any Tm.big = false) := Lib.hid (by
    simp only [List.any_cons, List.any_nil, Bool.or_false]
    rw [Tm.small (a := a) (by omega), Tm.small (a := b) (by omega)]; rfl)
  have HRN : Hid ([a, b].any (·.any Tm.rng) = l.any Tm.rng) := Lib.hid (by rw [← hl]; simp [List.any_append])
  have HOR : Hid ([a, b].any (·.any Tm.ord) = l.any Tm.ord) := Lib.hid (by rw [← hl]; simp [List.any_append])
  clear hl
  obtain ⟨i0, hi0, hz0, hz1, hz2⟩ := info_parts Try.infoPair
  go_enter Try.func27, Try.ntmps27
  go_wp2_with (at_builtin; first
    | (refine wpList_append_sl rfl _ _ 31 rfl w.heap.size 33 i0 (.agg #[.int .i64 0, .int .i64 0]) 2 16 Try.underlying31 hi0 hz0 hz1 hz2 rfl (by decide) _ a.length _ rfl hown2 B d b.length (b.map Tm.cells) (by simp) rfl (HB.out.1.ext eq1) (pair_cells b).1 (pair_cells b).2 (by unfold maxLen; omega) (by omega) hsq ?_; intro P2 pc2 w2 hown3 hgr3; have e2 := eq1.grown hgr3 (fun k hk => own_ge hown2 k hk); clear hgr3 hown2 eq1 hsq)
    | (refine wpList_append_sl rfl _ _ 31 rfl w.heap.size 33 i0 (.agg #[.int .i64 0, .int .i64 0]) 2 16 Try.underlying31 hi0 hz0 hz1 hz2 rfl (by decide) (.slice (some ⟨w.heap.size, 0, none⟩) 0 0) 0 [] rfl (own_zero _ _ _ _ rfl) A c a.length (a.map Tm.cells) (by simp) rfl (HA.out.1.ext ((Ext.refl _).alloc _)) (pair_cells a).1 (pair_cells a).2 (by unfold maxLen; omega) (by omega) (by simp) ?_; intro P1 pc1 wq hown2 hgr2; rw [Nat.zero_add, List.nil_append] at hown2; rw [Nat.zero_add]; have eq1 := ((Ext.refl w).alloc _).grown hgr2 (fun k hk => by simp [Value.ownBlock] at hk; omega); have hsq := eq1.size; clear hgr2))
  obtain ⟨hown4, hnm⟩ := own_app hown3 HL.out rfl rfl
  rw [hnm]
  have HS : Hid (SlP w2 P2 l) := Lib.hid (own_SlP hown4 rfl)
  clear hown3 hown4 hnm
  go_wp2_with fail
  go_loopw [6] (fun i wr => ∃ k : Nat, k ≤ l.length ∧ i = .int .i64 k ∧ (l.take k).any Tm.rng = false ∧ Ext w2 wr) (fun i _ => l.length - (intOf i).toNat)
  case atStart => exact ⟨0, by omega, rfl, by simp, Ext.refl _⟩
  case round =>
    obtain ⟨k, hk, rfl, hno, he⟩ := hrel
    have HNO := Lib.hid hno
    clear hno
    by_cases hlt : k < l.length
    · obtain ⟨p, hp⟩ : ∃ p, l[k]? = some p := ⟨l[k], List.getElem?_eq_getElem hlt⟩
      obtain ⟨pb, po, rfl, hpb, d0, d1⟩ := (HS.out.ext he).at_ hp
      obtain ⟨p1, p2⟩ := p
      simp only at d0 d1
      have HP := Lib.hid hp
      have ji0 : (0 : Int) ≤ (k : Int) := by omega
      have ji1 : (k : Int) < (l.length : Int) := by omega
      clear hp
      by_cases hbad : p1 < 0 ∨ 1099511627776 < p1 ∨ p2 < 0 ∨ 1099511627776 < p2
      · have HR : Hid (Tm.chk [a, b] = 3) := Lib.hid (Tm.chk_rng HBIG.out (by rw [HRN.out]; exact Tm.any_yes HP.out (by unfold Tm.rng; simpa using hbad)))
        have hb4 : p1 < 0 ∨ (0 ≤ p1 ∧ 1099511627776 < p1) ∨ (0 ≤ p1 ∧ p1 ≤ 1099511627776 ∧ p2 < 0) ∨ (0 ≤ p1 ∧ p1 ≤ 1099511627776 ∧ 0 ≤ p2 ∧ 1099511627776 < p2) := by omega
        clear hbad
        rcases hb4 with g1 | ⟨g1, g2⟩ | ⟨g1, g2, g3⟩ | ⟨g1, g2, g3, g4⟩
        all_goals
          go_wp2
          go_ret
          exact ⟨ret_int HR.out.symm, e2.trans he⟩
      · have HR : Hid (Tm.rng (p1, p2) = false) := Lib.hid (by unfold Tm.rng; simpa using hbad)
        have g1 : 0 ≤ p1 := by omega
        have g2 : p1 ≤ 1099511627776 := by omega
        have g3 : 0 ≤ p2 := by omega
        have g4 : p2 ≤ 1099511627776 := by omega
        clear hbad
        go_wp2
        go_roundw
        case rel => exact ⟨k + 1, by omega, by go_num, by rw [Tm.any_step HP.out, HNO.out, HR.out]; rfl, he⟩
        case measure => simp [intOf]; omega
    · have HRNG : Hid ([a, b].any (·.any Tm.rng) = false) := Lib.hid (by rw [HRN.out]; exact Tm.any_end (by omega) HNO.out)
      obtain ⟨w3, rfl⟩ : ∃ w3 : World, w3 = wr := ⟨_, rfl⟩
      have e3 : Ext w2 w3 := he
      go_wp2_with fail
      clear hlt
      go_loopw [7] (fun i wr => ∃ k : Nat, k ≤ l.length ∧ i = .int .i64 k ∧ (l.take k).any Tm.ord = false ∧ Ext w2 wr) (fun i _ => l.length - (intOf i).toNat)
      case atStart => exact ⟨0, by omega, rfl, by simp, e3⟩
      case round =>
        obtain ⟨k, hk, rfl, hno, he⟩ := hrel
        have HNO := Lib.hid hno
        clear hno
        by_cases hlt : k < l.length
        · obtain ⟨p, hp⟩ : ∃ p, l[k]? = some p := ⟨l[k], List.getElem?_eq_getElem hlt⟩
          obtain ⟨pb, po, rfl, hpb, d0, d1⟩ := (HS.out.ext he).at_ hp
          obtain ⟨p1, p2⟩ := p
          simp only at d0 d1
          have HP := Lib.hid hp
          have ji0 : (0 : Int) ≤ (k : Int) := by omega
          have ji1 : (k : Int) < (l.length : Int) := by omega
          clear hp
          by_cases hbad : p2 ≤ p1
          · have HR : Hid (Tm.chk [a, b] = 23) := Lib.hid (Tm.chk_ord HBIG.out HRNG.out (by rw [HOR.out]; exact Tm.any_yes HP.out (by unfold Tm.ord; simpa using hbad)))
            go_wp2
            go_quiet (fail)
            go_wp2
            go_ret
            exact ⟨ret_int HR.out.symm, e2.trans (he.drewN _)⟩
          · have HR : Hid (Tm.ord (p1, p2) = false) := Lib.hid (by unfold Tm.ord; simpa using hbad)
            have g2 : p1 < p2 := by omega
            go_wp2
            go_quiet (fail)
            go_wp2
            go_roundw
            case rel => exact ⟨k + 1, by omega, by go_num, by rw [Tm.any_step HP.out, HNO.out, HR.out]; rfl, he.drewN _⟩
            case measure => simp [intOf]; omega
        · have HORD : Hid ([a, b].any (·.any Tm.ord) = false) := Lib.hid (by rw [HOR.out]; exact Tm.any_end (by omega) HNO.out)
          go_wp2
          go_ret
          exact ⟨ret_int (Tm.chk_ok HBIG.out HRNG.out HORD.out).symm, e2.trans he⟩

set_option maxHeartbeats 800000 in
theorem refcovers_any (X : Option Addr) (xc : Nat) (ps : List (Int × Int)) (x : Int) (w : World) (ha : SlP w X ps) (hl1 : ps.length ≤ maxLen) :
    Calls Try.prog 35 #[.slice X ps.length xc, .int .i64 x] w fun e w' => e = .returned (.bool (Tm.cov ps x)) ∧ Ext w w' := by
  have HA := Lib.hid ha
  unfold maxLen at hl1
  clear ha
  go_enter Try.func35, Try.ntmps35
  go_wp2
  go_loopw [5] (fun i wr => ∃ k : Nat, k ≤ ps.length ∧ i = .int .i64 k ∧ Tm.cov (ps.take k) x = false ∧ Ext w wr) (fun i _ => ps.length - (intOf i).toNat)
  case atStart => exact ⟨0, by omega, rfl, rfl, Ext.refl _⟩
  case round =>
    obtain ⟨k, hk, rfl, hno, he⟩ := hrel
    have HNO := Lib.hid hno
    clear hno
    by_cases hlt : k < ps.length
    · obtain ⟨p, hp⟩ : ∃ p, ps[k]? = some p := ⟨ps[k], List.getElem?_eq_getElem hlt⟩
      obtain ⟨gb, go, rfl, hgb, x0, x1⟩ := (HA.out.ext he).at_ hp
      obtain ⟨p1, p2⟩ := p
      simp only at x0 x1
      have ki0 : (0 : Int) ≤ (k : Int) := by omega
      have ki1 : (k : Int) < (ps.length : Int) := by omega
      have HP := Lib.hid hp
      clear hp
      by_cases h1 : p1 ≤ x
      · by_cases h2 : x < p2
        · have HR : Hid (Tm.cov ps x = true) := Lib.hid (Tm.any_yes HP.out (by simp only [decide_eq_true_eq]; exact ⟨h1, h2⟩))
          go_wp2
          go_ret
          exact ⟨ret_bool HR.out.symm, he⟩
        · have HR : Hid (decide ((p1, p2).1 ≤ x ∧ x < (p1, p2).2) = false) := Lib.hid (by rw [decide_eq_false_iff_not]; exact fun g => h2 g.2)
          go_wp2
          go_roundw
          case rel => exact ⟨k + 1, by omega, by go_num, by unfold Tm.cov; rw [Tm.any_step HP.out]; have e := HNO.out; unfold Tm.cov at e; rw [e, HR.out]; rfl, he⟩
          case measure => simp [intOf]; omega
      · have HR : Hid (decide ((p1, p2).1 ≤ x ∧ x < (p1, p2).2) = false) := Lib.hid (by rw [decide_eq_false_iff_not]; exact fun g => h1 g.1)
        go_wp2
        go_roundw
        case rel => exact ⟨k + 1, by omega, by go_num, by unfold Tm.cov; rw [Tm.any_step HP.out]; have e := HNO.out; unfold Tm.cov at e; rw [e, HR.out]; rfl, he⟩
        case measure => simp [intOf]; omega
    · have HE : Hid (Tm.cov ps x = false) := Lib.hid (Tm.any_end (by omega) HNO.out)
      go_wp2
      go_ret
      exact ⟨ret_bool HE.out.symm, he⟩


set_option maxRecDepth 100000 in
set_option maxHeartbeats 6400000 in
theorem ends_any (A : Option Addr) (c : Nat) (l : List (Int × Int)) (w : World) (h : SlP w A l) (hl : l.length ≤ 600) (hok : ∀ p ∈ l, Tm.ok p) :
    Calls Try.prog 34 #[.slice A l.length c] w fun e w' => ∃ (X : Option Addr) (xc : Nat) (E : List Int), e = .returned (.slice X E.length xc) ∧ SlI w' X E ∧ E.length ≤ 1200 ∧ E.Pairwise (· < ·) ∧ (∀ x, x ∈ E ↔ Tm.isEnd l x) ∧ Ext w w' := by
  have H := Lib.hid h
  have HOK := Lib.hid hok
  clear h hok
  obtain ⟨i0, hi0, hz0, hz1, hz2⟩ := info_parts Try.infoInt
  go_enter Try.func34, Try.ntmps34
  go_wp2_with fail
  go_loopw [3, 4] (fun v u wr => ∃ (out : List Int) (last : Int) (O : Option Addr) (oc : Nat), v = .slice O out.length oc ∧ u = .int .i64 last ∧ wr.ownsRow w.heap.size 3 1 (.slice O out.length oc) out.length (out.map (Value.int .i64)) ∧ Tm.Ends l out last ∧ -1 ≤ last ∧ last ≤ 1099511627776 ∧ Ext w wr) (fun _ u _ => (1099511627777 - intOf u).toNat)
  case atStart => exact ⟨[], -1, none, 0, rfl, rfl, own_nil _ _ _ _, Tm.Ends.start HOK.out, by omega, by omega, Ext.refl _⟩
  case round =>
    obtain ⟨out, last, O, oc, rfl, rfl, hown, hends, hl1, hl2, he⟩ := hrel
    have HOW := Lib.hid hown
    have HEN := Lib.hid hends
    have holn := hends.len
    have hes := he.size
    clear hown hends
    obtain ⟨L, hL⟩ : ∃ L, out.length = L := ⟨_, rfl⟩
    have HLEN := Lib.hid hL
    rw [hL] at holn
    rw [hL]
    clear hL
    obtain ⟨wo, rfl⟩ : ∃ wo : World, wo = wr := ⟨_, rfl⟩
    go_wp2_with fail
    go_loopw [6, 5] (fun i v wr => ∃ (k : Nat) (best : Int), k ≤ l.length ∧ i = .int .i64 k ∧ v = .int .i64 best ∧ (l.take k).foldl (Tm.upd last) 1099511627777 = best ∧ Ext wo wr) (fun i _ _ => l.length - (intOf i).toNat)
    case atStart => exact ⟨0, _, by omega, rfl, rfl, rfl, Ext.refl _⟩
    case round =>
      obtain ⟨k, best, hk, rfl, rfl, hbest, hej⟩ := hrel
      have HBE := Lib.hid hbest
      clear hbest
      by_cases hlt : k < l.length
      · obtain ⟨p, hp⟩ : ∃ p, l[k]? = some p := ⟨l[k], List.getElem?_eq_getElem hlt⟩
        obtain ⟨pb, po, rfl, hpb, d0, d1⟩ := ((H.out.ext he).ext hej).at_ hp
        obtain ⟨p1, p2⟩ := p
        simp only at d0 d1
        have HT : Hid ((l.take (k + 1)).foldl (Tm.upd last) 1099511627777 = Tm.upd last best (p1, p2)) := Lib.hid (by rw [List.take_add_one, hp, List.foldl_append, HBE.out]; rfl)
        have ji0 : (0 : Int) ≤ (k : Int) := by omega
        have ji1 : (k : Int) < (l.length : Int) := by omega
        clear hp
        obtain ⟨b1, hb1⟩ : ∃ b1, (if last < p1 ∧ p1 < best then p1 else best) = b1 := ⟨_, rfl⟩
        obtain ⟨b2, hb2⟩ : ∃ b2, (if last < p2 ∧ p2 < b1 then p2 else b1) = b2 := ⟨_, rfl⟩
        have HU : Hid (Tm.upd last best (p1, p2) = b2) := Lib.hid (Tm.upd_eq hb1 hb2)
        have c1 : (last < p1 ∧ p1 < best ∧ b1 = p1) ∨ (last < p1 ∧ ¬ p1 < best ∧ b1 = best) ∨ (¬ last < p1 ∧ b1 = best) := by
          split at hb1 <;> omega
        have c2 : (last < p2 ∧ p2 < b1 ∧ b2 = p2) ∨ (last < p2 ∧ ¬ p2 < b1 ∧ b2 = b1) ∨ (¬ last < p2 ∧ b2 = b1) := by
          split at hb2 <;> omega
        clear hb1 hb2
        rcases c1 with ⟨t1, t2, rfl⟩ | ⟨t1, t2, rfl⟩ | ⟨t1, rfl⟩
        all_goals
          rcases c2 with ⟨s1, s2, rfl⟩ | ⟨s1, s2, rfl⟩ | ⟨s1, rfl⟩
          all_goals
            go_wp2
            go_roundw
            case rel => exact ⟨k + 1, _, by omega, by go_num, rfl, HT.out.trans HU.out, hej⟩
            case measure => simp [intOf]; omega
      · have HNX : Hid (Tm.nx last l = best) := Lib.hid (by unfold Tm.nx; rw [← HBE.out, List.take_of_length_le (by omega)])
        clear HBE
        by_cases hbig : 1099511627776 < best
        · obtain ⟨hd1, hd2⟩ := Tm.Ends.done HOK.out HEN.out HNX.out (by omega)
          have HD1 := Lib.hid hd1
          have HD2 := Lib.hid hd2
          clear hd1 hd2
          go_wp2
          go_ret
          refine ⟨O, oc, out, by rw [HLEN.out]; rfl, ?_, by rw [HLEN.out]; omega, HD1.out, HD2.out, he.trans hej⟩
          exact (own_SlI HOW.out).ext hej
        · have hbm := Tm.Ends.more HEN.out HNX.out (by omega)
          have hbl := hbm.2
          have HMO := Lib.hid hbm.1
          have hbe : best ≤ 1099511627776 := by omega
          clear hbm
          have HOWL : Hid (wr.ownsRow w.heap.size 3 1 (.slice O L oc) L (out.map (Value.int .i64))) := Lib.hid (by rw [← HLEN.out]; exact own_ext HOW.out hej)
          have hez := hej.size
          go_wp2_with (at_builtin; refine wpList_append_lies _ rfl _ _ 51 rfl w.heap.size 3 i0 (.int .i64 0) 1 8 Try.underlying51 hi0 hz0 hz1 hz2 rfl (by decide) _ L _ rfl (own_ext HOWL.out ((Ext.refl wr).alloc _)) ⟨wr.heap.size, 0, none⟩ 1 1 [.int .i64 best] rfl rfl (World.news_of_block (heap_alloc_new _ _)) (by simp [Value.oneCell']) (by decide) (by unfold maxLen; omega) (by omega) (by simp; omega) _ rfl ?_; intro gg cap w3 hown3 hgr3 hat3 hlt3)
          go_wp2
          go_roundw
          case rel =>
            refine ⟨out ++ [best], best, some ⟨gg, 0, none⟩, cap, ?_, rfl, ?_, HMO.out, by omega, hbe, ?_⟩
            · rw [List.length_append, HLEN.out]; rfl
            · rw [List.map_append, List.length_append, HLEN.out]
              simpa using hown3
            · exact (((he.trans hej).alloc _).grown hgr3 (fun q hq => own_ge HOWL.out q hq))
          case measure => simp [intOf]; omega
end Go.Proofs.Ytpdboefaedocfaa
