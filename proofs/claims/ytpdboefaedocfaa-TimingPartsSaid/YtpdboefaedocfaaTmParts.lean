/- TimingParts: the walk and the law. Conditions: those of each theorem. -/
import Derived.Test.YtpdboefaedocfaaTmL
import Derived.Test.YtpdboefaedocfaaTmV
namespace Go.Proofs.Ytpdboefaedocfaa
open Go.ChangeShapes Go.WideShapes Go.ChangeAt Go.RowKit

theorem total_to (A : Option Addr) (c : Nat) (ps : List (Int × Int)) {t er : Int} (ht : Tm.totV ps = t) (he : Tm.chk [ps] = er) (w : World) (h : (⟨A, c, ps⟩ : PL).In w) :
    Calls Try.prog 14 #[.slice A ps.length c] w fun e w' => e = .returned (.tuple #[.int .i64 t, .int .i64 er]) ∧ Ext w w' := by
  subst ht he
  exact total_any A c ps w h
theorem minV_ok (ps qs : List (Int × Int)) : ∀ d ∈ Tm.minV ps qs, Tm.ok d := by
  unfold Tm.minV
  split
  · rename_i hz
    exact Tm.mns_ok (Tm.nrm_ok (Tm.chk_zero hz ps (by simp)).2).1 (Tm.nrm_norm (Tm.ok_lt (Tm.chk_zero hz qs (by simp)).2)).1.1
  · intro d hd; cases hd
theorem minus_to (A : Option Addr) (c : Nat) (ps : List (Int × Int)) (B : Option Addr) (d : Nat) (qs : List (Int × Int)) {ms : List (Int × Int)} {er : Int} (hm : Tm.minV ps qs = ms) (he : Tm.chk [ps, qs] = er) (w : World) (h : (⟨A, c, ps⟩ : PL).In w) (h2 : (⟨B, d, qs⟩ : PL).In w) :
    Calls Try.prog 15 #[.slice A ps.length c, .slice B qs.length d] w fun e w' => ∃ (X : Option Addr) (xc : Nat), e = .returned (.tuple #[.slice X ms.length xc, .int .i64 er]) ∧ (⟨X, xc, ms⟩ : PL).In w' ∧ Ext w w' := by
  subst hm he
  refine (minus_any A c ps B d qs w h h2).mono ?_
  rintro e w' ⟨X, xc, rfl, ho, hx⟩
  exact ⟨X, xc, rfl, pl_own ho (minV_ok ps qs), hx⟩
theorem pl_own64 {w' : World} {A : Option Addr} {c : Nat} {ps : List (Int × Int)} {base : Nat} (h : w'.ownsRow base 33 2 (.slice A ps.length c) ps.length (ps.map Tm.cells).flatten) (hok : ∀ p ∈ ps, In64 p.1 ∧ In64 p.2) : (⟨A, c, ps⟩ : PL).In w' := by
  refine ⟨own_SlP h rfl, ?_, ?_, hok⟩
  · rcases h.2 with ⟨e, e2⟩ | ⟨g, cap, cur, e, -, -, h4, h5, -⟩
    · simp only; omega
    · injection e with _ _ e; simp only; omega
  · rcases h.2 with ⟨e, e2⟩ | ⟨g, cap, cur, e, -, -, h4, h5, -⟩
    · injection e with _ _ e; simp only; omega
    · injection e with _ _ e; simp only; omega
theorem ge_own {w : World} {base : Nat} {e : TypeId} {size : Nat} {A : Option Addr} {n c : Nat} {xs : List Value} (h : w.ownsRow base e size (.slice A n c) n xs) (q : Nat) (hq : (Value.slice A n c).ownBlock = some q) : base ≤ q := own_ge h q hq

set_option maxRecDepth 100000 in
set_option maxHeartbeats 6400000 in
theorem timingParts_walk (A : Option Addr) (c : Nat) (a : List (Int × Int)) (B : Option Addr) (d : Nat) (b : List (Int × Int)) (w : World) (h : (⟨A, c, a⟩ : PL).In w) (h2 : (⟨B, d, b⟩ : PL).In w) :
    Calls Try.prog 5 #[.slice A a.length c, .slice B b.length d] w fun e w' => e = .returned (.bool true) ∧ Ext w w' := by
  have HA := Lib.hid h
  have HB := Lib.hid h2
  have hla : a.length ≤ maxLen := Nat.le_trans h.2.1 h.2.2.1
  have hlb : b.length ≤ maxLen := Nat.le_trans h2.2.1 h2.2.2.1
  unfold maxLen at hla hlb
  clear h h2
  by_cases ha : 60 < a.length
  · have ha1 : decide ((60 : Int) < (a.length : Int)) = true := by simp; omega
    have ha2 : decide (60 < a.length) = true := by simp; omega
    go_enter Try.func5, Try.ntmps5
    go_wp2
    go_ret
    exact ⟨rfl, Ext.refl _⟩
  have ha1 : decide ((60 : Int) < (a.length : Int)) = false := by simp; omega
  have ha2 : decide (60 < a.length) = false := by simp; omega
  by_cases hb : 60 < b.length
  · have hb1 : decide ((60 : Int) < (b.length : Int)) = true := by simp; omega
    have hb2 : decide (60 < b.length) = true := by simp; omega
    go_enter Try.func5, Try.ntmps5
    go_wp2
    go_ret
    exact ⟨rfl, Ext.refl _⟩
  have hb1 : decide ((60 : Int) < (b.length : Int)) = false := by simp; omega
  have hb2 : decide (60 < b.length) = false := by simp; omega
  have hww : Ext w w := Ext.refl _
  obtain ⟨i0, hi0, hz0, hz1, hz2⟩ := info_parts Try.infoPair
  go_enter Try.func5, Try.ntmps5
  go_wp2_with fail
  go_loopw [6, 5] (fun i v wr => ∃ (k : Nat) (out : List (Int × Int)) (O : Option Addr) (oc : Nat), k ≤ a.length ∧ i = .int .i64 k ∧ v = .slice O out.length oc ∧ wr.ownsRow w.heap.size 33 2 (.slice O out.length oc) out.length (out.map Tm.cells).flatten ∧ out = a.take k ∧ out.length = k ∧ Ext w wr) (fun i _ _ => a.length - (intOf i).toNat)
  case atStart => exact ⟨0, [], none, 0, by omega, rfl, rfl, own_nil _ _ _ _, by simp, by simp, Ext.refl _⟩
  case round =>
    obtain ⟨k, out, O, oc, hk, rfl, rfl, hown, hout, hol, he⟩ := hrel
    obtain ⟨wo, rfl⟩ : ∃ wo : World, wo = wr := ⟨_, rfl⟩
    have hes := (hww.trans he).size
    have HOUT := Lib.hid hout
    have HOL := Lib.hid hol
    clear hout
    obtain ⟨L, hL⟩ : ∃ L, out.length = L := ⟨_, rfl⟩
    rw [hL] at hown hol
    have hLb : L ≤ 120 := by omega
    clear hol
    by_cases hlt : k < a.length
    · obtain ⟨p, hp⟩ : ∃ p, a[k]? = some p := ⟨a[k], List.getElem?_eq_getElem hlt⟩
      obtain ⟨xb, xo, rfl, hxb, d0, d1⟩ := ((HA.out.1.ext hww).ext he).at_ hp
      obtain ⟨p1, p2⟩ := p
      simp only at d0 d1
      have HT : Hid (a.take (k + 1) = out ++ [(p1, p2)]) := Lib.hid (by rw [HOUT.out, List.take_add_one, hp]; simp)
      have ki0 : (0 : Int) ≤ (k : Int) := by omega
      have ki1 : (k : Int) < (a.length : Int) := by omega
      have hLt : L < 120 := by have := HOL.out; omega
      have HLEN := Lib.hid hL
      rw [hL]
      clear hp hL
      have HOWL := Lib.hid hown
      clear hown
      go_wp2_with (at_builtin; refine wpList_append_lies _ rfl _ _ 31 rfl w.heap.size 33 i0 (.agg #[.int .i64 0, .int .i64 0]) 2 16 Try.underlying31 hi0 hz0 hz1 hz2 rfl (by decide) _ L _ rfl (own_ext HOWL.out ((Ext.refl wo).alloc _)) ⟨wo.heap.size, 0, none⟩ 1 1 (Tm.cells (p1, p2)) rfl rfl (World.news_of_block (heap_alloc_new _ _)) (by simp [Value.oneCell', Tm.cells]) (by decide) (by unfold maxLen; omega) (by omega) (by simp; omega) _ rfl ?_; intro gg cap w3 hown3 hgr3 hat3 hlt3)
      go_wp2
      go_roundw
      case rel =>
        refine ⟨k + 1, out ++ [(p1, p2)], some ⟨gg, 0, none⟩, cap, by omega, by go_num, ?_, ?_, ?_, ?_, ?_⟩
        · rw [List.length_append, HLEN.out]; rfl
        · rw [List.map_append, List.flatten_append, List.length_append, HLEN.out]
          simpa using hown3
        · exact HT.out.symm
        · rw [List.length_append, HOL.out]; simp; try omega
        · exact (((he.alloc _).grown hgr3 (fun q hq => ge_own HOWL.out q hq)))
      case measure => simp [intOf]; omega
    · have HEND : Hid (out = a) := Lib.hid (by rw [HOUT.out, List.take_of_length_le (by omega)])
      rw [← hL] at hown
      clear hL
      have HOWN := Lib.hid hown
      clear hown
      rw [HEND.out] at HOWN ⊢
      obtain ⟨w1, rfl⟩ : ∃ w1 : World, w1 = wo := ⟨_, rfl⟩
      have hww1 : Ext w w1 := he
      obtain ⟨SA, hSA⟩ : ∃ SA, SA = O := ⟨_, rfl⟩
      obtain ⟨sc, hsc⟩ : ∃ sc, sc = oc := ⟨_, rfl⟩
      subst hSA hsc
      have HS := HOWN
      clear HOWN HEND HOUT HOL hes hLb
      go_wp2_with fail
      clear hlt
      go_loopw [7, 5] (fun i v wr => ∃ (k : Nat) (out : List (Int × Int)) (O : Option Addr) (oc : Nat), k ≤ b.length ∧ i = .int .i64 k ∧ v = .slice O out.length oc ∧ wr.ownsRow w.heap.size 33 2 (.slice O out.length oc) out.length (out.map Tm.cells).flatten ∧ out = a ++ b.take k ∧ out.length = a.length + k ∧ Ext w wr) (fun i _ _ => b.length - (intOf i).toNat)
      case atStart => exact ⟨0, a, SA, sc, by omega, rfl, rfl, HS.out, by simp, by simp, hww1⟩
      case round =>
        obtain ⟨k, out, O, oc, hk, rfl, rfl, hown, hout, hol, he⟩ := hrel
        obtain ⟨wo, rfl⟩ : ∃ wo : World, wo = wr := ⟨_, rfl⟩
        have hes := (hww.trans he).size
        have HOUT := Lib.hid hout
        have HOL := Lib.hid hol
        clear hout
        obtain ⟨L, hL⟩ : ∃ L, out.length = L := ⟨_, rfl⟩
        rw [hL] at hown hol
        have hLb : L ≤ 120 := by omega
        clear hol
        by_cases hlt : k < b.length
        · obtain ⟨p, hp⟩ : ∃ p, b[k]? = some p := ⟨b[k], List.getElem?_eq_getElem hlt⟩
          obtain ⟨xb, xo, rfl, hxb, d0, d1⟩ := ((HB.out.1.ext hww).ext he).at_ hp
          obtain ⟨p1, p2⟩ := p
          simp only at d0 d1
          have HT : Hid (a ++ b.take (k + 1) = out ++ [(p1, p2)]) := Lib.hid (by rw [HOUT.out, List.take_add_one, hp]; simp)
          have ki0 : (0 : Int) ≤ (k : Int) := by omega
          have ki1 : (k : Int) < (b.length : Int) := by omega
          have hLt : L < 120 := by have := HOL.out; omega
          have HLEN := Lib.hid hL
          rw [hL]
          clear hp hL
          have HOWL := Lib.hid hown
          clear hown
          go_wp2_with (at_builtin; refine wpList_append_lies _ rfl _ _ 31 rfl w.heap.size 33 i0 (.agg #[.int .i64 0, .int .i64 0]) 2 16 Try.underlying31 hi0 hz0 hz1 hz2 rfl (by decide) _ L _ rfl (own_ext HOWL.out ((Ext.refl wo).alloc _)) ⟨wo.heap.size, 0, none⟩ 1 1 (Tm.cells (p1, p2)) rfl rfl (World.news_of_block (heap_alloc_new _ _)) (by simp [Value.oneCell', Tm.cells]) (by decide) (by unfold maxLen; omega) (by omega) (by simp; omega) _ rfl ?_; intro gg cap w3 hown3 hgr3 hat3 hlt3)
          go_wp2
          go_roundw
          case rel =>
            refine ⟨k + 1, out ++ [(p1, p2)], some ⟨gg, 0, none⟩, cap, by omega, by go_num, ?_, ?_, ?_, ?_, ?_⟩
            · rw [List.length_append, HLEN.out]; rfl
            · rw [List.map_append, List.flatten_append, List.length_append, HLEN.out]
              simpa using hown3
            · exact HT.out.symm
            · rw [List.length_append, HOL.out]; simp; try omega
            · exact (((he.alloc _).grown hgr3 (fun q hq => ge_own HOWL.out q hq)))
          case measure => simp [intOf]; omega
        · have HEND : Hid (out = a ++ b) := Lib.hid (by rw [HOUT.out, List.take_of_length_le (by omega)])
          rw [← hL] at hown
          clear hL
          have HOWN := Lib.hid hown
          clear hown
          obtain ⟨w2, rfl⟩ : ∃ w2 : World, w2 = wo := ⟨_, rfl⟩
          have e2 : Ext w w2 := he
          have HBO : Hid ((⟨O, oc, out⟩ : PL).In w2) := Lib.hid (pl_own64 HOWN.out (fun p hp => by
            rw [HEND.out] at hp
            rcases List.mem_append.1 hp with g | g
            · exact HA.out.2.2.2 p g
            · exact HB.out.2.2.2 p g))
          clear he HOUT HOL hLb hes HOWN
          have ha60 : Hid (a.length ≤ 60) := Lib.hid (by omega)
          have hb60 : Hid (b.length ≤ 60) := Lib.hid (by omega)
          by_cases hz : Tm.chk [b, a] = 0
          · obtain ⟨f1, f2, f3, f4, f5, f6, f7, f8, ⟨f9, f10⟩, ⟨f11, f12⟩, f13⟩ := Tm.parts_plain ha60.out hb60.out hz
            have F0 : Hid (Tm.chk [out] = 0) := Lib.hid (by rw [HEND.out, ← Tm.chk_parts ha60.out hb60.out]; exact hz)
            have HZ := Lib.hid hz
            obtain ⟨m, hm⟩ : ∃ m, Tm.minV b a = m := ⟨_, rfl⟩
            rw [hm] at f2 f3 f5 f7 f11 f12
            obtain ⟨t1, ht1⟩ : ∃ t, Tm.totV a = t := ⟨_, rfl⟩
            obtain ⟨t2, ht2⟩ : ∃ t, Tm.totV m = t := ⟨_, rfl⟩
            rw [ht1] at f5 f9 f10
            rw [ht2] at f5 f11 f12
            have HM := Lib.hid hm
            have H1 := Lib.hid ht1
            have H2 := Lib.hid ht2
            have F1 := Lib.hid f1
            have F2 := Lib.hid f2
            have F3 := Lib.hid f3
            have F4 := Lib.hid f4
            have F5 : Hid (Tm.totV out = t1 + t2) := Lib.hid (by rw [HEND.out]; exact f5)
            have F6 : Hid (0 < out.length → 1 ≤ t1 + t2) := Lib.hid (by rw [HEND.out, ← f5]; exact f6)
            have F7 := Lib.hid f7
            have F8 := Lib.hid f8
            clear f1 f2 f3 f4 f5 f6 f7 f8 f13 ht1 ht2 hm hz
            go_wp2_with fail
            refine (total_to A c a H1.out F1.out _ (HA.out.ext e2)).mono ?_
            rintro e w3 ⟨rfl, hb3⟩
            have e3 := e2.trans hb3
            go_wp2_with fail
            refine (minus_to B d b A c a HM.out HZ.out _ (HB.out.ext e3) (HA.out.ext e3)).mono ?_
            rintro e w4 ⟨X, xc, rfl, hX, hb4⟩
            have e4 := e3.trans hb4
            have HX := Lib.hid hX
            clear hX
            go_wp2_with fail
            refine (total_to O oc out F5.out F0.out _ (HBO.out.ext (hb3.trans hb4))).mono ?_
            rintro e w5 ⟨rfl, hb5⟩
            have e5 := e4.trans hb5
            go_wp2_with fail
            refine (total_to X xc m H2.out F2.out _ (HX.out.ext hb5)).mono ?_
            rintro e w6 ⟨rfl, hb6⟩
            have e6 := e5.trans hb6
            have hml : m.length ≤ maxLen := Nat.le_trans HX.out.2.1 HX.out.2.2.1
            have hol : out.length ≤ maxLen := Nat.le_trans HBO.out.2.1 HBO.out.2.2.1
            unfold maxLen at hol
            by_cases hpos : 0 < out.length
            · have hp1 : decide ((0 : Int) < (out.length : Int)) = true := by simp; omega
              have hp2 : decide (0 < out.length) = true := by simp; omega
              have hp3 := F6.out hpos
              have hp4 : decide (t1 + t2 < 1) = false := by simp; omega
              go_wp2_with fail
              refine (minus_to X xc m A c a F7.out F3.out _ (HX.out.ext (hb5.trans hb6)) (HA.out.ext e6)).mono ?_
              rintro e w7 ⟨Y, yc, rfl, hY, hb7⟩
              have e7 := e6.trans hb7
              have HY := Lib.hid hY
              clear hY
              go_wp2_with fail
              refine (minus_to A c a A c a F8.out F4.out _ (HA.out.ext e7) (HA.out.ext e7)).mono ?_
              rintro e w8 ⟨Z, zc, rfl, hZ, hb8⟩
              clear hZ
              go_wp2_with fail
              refine (pairs_eq Y yc X xc m _ (HY.out.1.ext hb8) (HX.out.1.ext (((hb5.trans hb6).trans hb7).trans hb8)) hml).mono ?_
              rintro e w9 ⟨rfl, hb9⟩
              go_wp2
              go_ret
              exact ⟨rfl, (e7.trans hb8).trans hb9⟩
            · have hp1 : decide ((0 : Int) < (out.length : Int)) = false := by rw [decide_eq_false_iff_not]; omega
              have hp2 : decide (0 < out.length) = false := by rw [decide_eq_false_iff_not]; omega
              go_wp2_with fail
              refine (minus_to X xc m A c a F7.out F3.out _ (HX.out.ext (hb5.trans hb6)) (HA.out.ext e6)).mono ?_
              rintro e w7 ⟨Y, yc, rfl, hY, hb7⟩
              have e7 := e6.trans hb7
              have HY := Lib.hid hY
              clear hY
              go_wp2_with fail
              refine (minus_to A c a A c a F8.out F4.out _ (HA.out.ext e7) (HA.out.ext e7)).mono ?_
              rintro e w8 ⟨Z, zc, rfl, hZ, hb8⟩
              clear hZ
              go_wp2_with fail
              refine (pairs_eq Y yc X xc m _ (HY.out.1.ext hb8) (HX.out.1.ext (((hb5.trans hb6).trans hb7).trans hb8)) hml).mono ?_
              rintro e w9 ⟨rfl, hb9⟩
              go_wp2
              go_ret
              exact ⟨rfl, (e7.trans hb8).trans hb9⟩
          · have hzb : (Tm.chk [b, a] != 0) = true := by rw [bne_iff_ne]; exact hz
            obtain ⟨g1, g2, g3⟩ := Tm.parts_bad ha60.out hb60.out hz
            obtain ⟨x, hx⟩ : ∃ x, Tm.chk [b, a] = x := ⟨_, rfl⟩
            rw [hx] at hzb g1
            obtain ⟨t1, ht1⟩ : ∃ t, Tm.totV a = t := ⟨_, rfl⟩
            obtain ⟨x1, hx1⟩ : ∃ t, Tm.chk [a] = t := ⟨_, rfl⟩
            have G1 : Hid (Tm.chk [out] = x) := Lib.hid (by rw [HEND.out]; exact g1)
            have G2 : Hid (Tm.totV out = 0) := Lib.hid (by rw [HEND.out]; exact g2)
            have G3 := Lib.hid g3
            have HX := Lib.hid hx
            have HX1 := Lib.hid hx1
            have H1 := Lib.hid ht1
            clear g1 g2 g3 hx hx1 ht1 hz
            go_wp2_with fail
            refine (total_to A c a H1.out HX1.out _ (HA.out.ext e2)).mono ?_
            rintro e w3 ⟨rfl, hb3⟩
            have e3 := e2.trans hb3
            go_wp2_with fail
            refine (minus_to B d b A c a G3.out HX.out _ (HB.out.ext e3) (HA.out.ext e3)).mono ?_
            rintro e w4 ⟨X, xc, rfl, hX, hb4⟩
            have e4 := e3.trans hb4
            clear hX
            go_wp2_with fail
            refine (total_to O oc out G2.out G1.out _ (HBO.out.ext (hb3.trans hb4))).mono ?_
            rintro e w5 ⟨rfl, hb5⟩
            go_wp2
            go_ret
            exact ⟨rfl, e4.trans hb5⟩

theorem timingParts_lifted (os : Os) (started : os.Started) (H : Type) (enc : TypeId × Value → H) :
    ReturnsInHanded {} Try.checked os 5 .any (Rows.timingPartsSpec.pre6 enc Try.prog Try.f5 Rows.timingPartsRow.domain false) (Rows.timingPartsSpec.post enc Try.prog Try.f5 false true false false) := by
  refine returnsInHanded_of_change (C := Try.checked) Try.own started (by kernel_rfl) Try.func5
    (ChangeSpec.witness6 (enc := enc) (C := Try.checked) false ⟨#[], #[.slice none 0 0, .slice none 0 0], []⟩ 8 (by kernel_rfl) (by kernel_rfl) (by kernel_rfl) (by kernel_rfl)) ?_
  intro W base args ds gs before hval0 hW _ _
  have hval : ∀ (j : Nat) t v, Try.f5.params[j]? = some t → args[j]? = some v → Value.okWide Try.prog W .any base t v := hval0
  have hW' := hW
  obtain ⟨p, q, hA0, hV, rfl, hfz, hnd⟩ := hW
  have hA : DataW.TrodAll enc Try.prog W 0 (fun _ => true) true Try.f5.params.toList args.toList ds p := hA0
  rw [Try.params5] at hA hval
  obtain ⟨v0, vs0, d0, ds0, p0, q0, hargs, rfl, rfl, h0, r0⟩ := trodAll_cons hA
  obtain ⟨v1, vs1, d1, ds1, p1, q1, rfl, rfl, rfl, h1, r1⟩ := trodAll_cons r0
  obtain ⟨rfl, rfl, rfl⟩ := trodAll_nil r1
  obtain rfl : args = #[v0, v1] := by cases args; simp_all
  obtain ⟨rfl, rfl⟩ := trodVars_none hV
  obtain ⟨L0, c0, a, rfl, hp0⟩ := pairs_open (hval 0 31 v0 rfl rfl) h0
  obtain ⟨L1, c1, b, rfl, hp1⟩ := pairs_open (hval 1 31 v1 rfl rfl) h1
  refine (timingParts_walk L0 c0 a L1 c1 b W hp0 hp1).mono fun e W' ⟨he, hw⟩ => ?_
  subst he
  exact ⟨_, rfl, law_post hW' Try.laidOut (by kernel_rfl) rfl (by rfl) rfl Try.underlying4 hw⟩

theorem timingParts_holds : Rows.TimingPartsSaid :=
  OpenClaim.holds_of_wide 5 Try.f5 rfl rfl rfl rfl rfl rfl rfl ⟨rfl, rfl, rfl, rfl, rfl⟩ rfl rfl rfl rfl rfl (by kernel_rfl) Try.func5 (by kernel_rfl)
    (of_decide_eq_true (by kernel_rfl)) (by unfold Func.isWrapper; first | (rw [if_pos (by decide +kernel)]; kernel_rfl) | (rw [if_neg (by decide +kernel)]; exact ⟨rfl, rfl⟩))
    (fun os started H enc _ => timingParts_lifted os started H enc)
#print axioms timingParts_holds
end Go.Proofs.Ytpdboefaedocfaa
