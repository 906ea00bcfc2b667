/- BundleTamper: for all keys, sessions, items, places and changes the law returns true. Conditions: the library's variables lie as the row says. -/
import Derived.Test.YtnlenappjjlbjaaGreatDoorP38
namespace Go.Proofs.YtnlenappjjlbjaaGreatDoor
open Go.ChangeShapes Go.WideShapes Go.ChangeAt Go.RowKit Go.Shelf
theorem SlU.setC {w : World} {g : Nat} {xs : List Int} (h : SlU w (some ⟨g, 0, none⟩) xs) {j : Nat} (hj : j < xs.length) (y : Int) : SlU (w.setCell ⟨g, j, none⟩ (.int .u8 y)) (some ⟨g, 0, none⟩) (xs.set j y) := by
  obtain ⟨b, off, e, hb, hc⟩ := h.at_ hj
  cases e
  refine Or.inr ⟨g, 0, rfl, by simpa [World.setCell] using hb, fun i cs hi q v hv => ?_⟩
  rw [List.getElem?_map] at hi
  obtain ⟨z, hz, rfl⟩ := Option.map_eq_some_iff.1 hi
  have hq : q = 0 := by
    rcases Nat.eq_zero_or_pos q with hq | hq
    · exact hq
    · rw [List.getElem?_eq_none (by simp; omega)] at hv; cases hv
  subst hq
  obtain rfl : Value.int .u8 z = v := by simpa using hv
  rw [Nat.mul_one, Nat.add_zero, Nat.zero_add]
  by_cases hij : i = j
  · subst hij
    rw [List.getElem?_set_self hj] at hz
    obtain rfl : y = z := by simpa using hz
    rw [Nat.zero_add] at hc
    exact World.cell?_setCell_same _ _ _ hc
  · rw [List.getElem?_set_ne (fun e => hij e.symm)] at hz
    obtain ⟨hlt, hze⟩ := List.getElem?_eq_some_iff.1 hz
    obtain ⟨b', o', e', -, hc'⟩ := h.at_ hlt
    cases e'
    rw [World.cell?_setCell_other _ _ _ _ (by simp <;> omega), ← hze]
    rw [Nat.zero_add] at hc'
    exact hc'
theorem RowU.free {base : Nat} {xs : List Int} {w : World} {g n c : Nat} (h : RowU base xs w (.slice (some ⟨g, 0, none⟩) n c)) (i : Nat) : w.frozen? ⟨g, i, none⟩ = false := by
  rcases h.2 with ⟨e, -⟩ | ⟨g', cap, cur, e, -, hg, -⟩
  · cases e
  · cases e
    simp [World.frozen?, hg]
theorem Bu.xr_ne {a b : Int} (ha : 0 ≤ a ∧ a < 256) (hb : 0 ≤ b ∧ b < 256) (h : b ≠ 0) : a ≠ Bu.xr a b := by
  obtain ⟨a, rfl⟩ := Int.eq_ofNat_of_zero_le ha.1
  obtain ⟨b, rfl⟩ := Int.eq_ofNat_of_zero_le hb.1
  have h1 := ha.2
  have h2 := hb.2
  rw [Bu.xr_nat (by omega) (by omega)]
  intro e
  have e2 : a = a ^^^ b := Int.ofNat.inj e
  have e3 : a ^^^ a = a ^^^ (a ^^^ b) := by rw [← e2]
  rw [Nat.xor_self, ← Nat.xor_assoc, Nat.xor_self, Nat.zero_xor] at e3
  omega
set_option maxRecDepth 100000 in
set_option maxHeartbeats 51200000 in
theorem bundleTamper_walk (key : Int) (hkey : Bu.U64 key) (nonce : Int) (hnonce : Bu.U64 nonce) (ses : Int) (A2 : Option Addr) (c2 : Nat) (xs : List Rt.ItL) {k : Nat} (hk : xs.length = k) (hl2 : k ≤ 9223372036854775807) (at_ : Int) (hat_ : 0 ≤ at_ ∧ at_ < 65536) (chg : Int) (hchg : 0 ≤ chg ∧ chg < 256) (w : World) (h2 : Rt.SlIt w A2 xs) (hg : Gm w) :
    Calls Tryz.prog 7 #[.int .u64 key, .int .u64 nonce, .int .i64 ses, .slice A2 k c2, .int .u16 at_, .int .u8 chg] w fun e w' => e = .returned (.bool true) ∧ Ext w w' := by
  have HG : Hid (∀ w', Ext w w' → Gm w') := Lib.hid (fun w' he => hg.ext he)
  clear hg
  obtain ⟨j, rfl⟩ := Int.eq_ofNat_of_zero_le hat_.1
  have hj : j < 65536 := by have := hat_.2; omega
  clear hat_
  obtain ⟨B, h_B⟩ : ∃ q, Bu.buildB key nonce ses (Rt.its xs) = q := ⟨_, rfl⟩
  obtain ⟨er, h_er⟩ : ∃ q, Bu.buildE ses (Rt.its xs) = q := ⟨_, rfl⟩
  obtain ⟨nb, h_nb⟩ : ∃ q, B.length = q := ⟨_, rfl⟩
  have K1 := Lib.hid (fun W h hg => (bbuild_any key nonce ses hkey hnonce A2 c2 xs hk W h hl2 hg).mono fun e w' h => And.intro (BldP.use h.1 h_B h_er h_nb) h.2)
  have HNB := Lib.hid h_nb
  have HER := Lib.hid h_er
  have HOK : Hid (∀ it ∈ Rt.its xs, It.Ok it) := Lib.hid (fun it hi => by
    obtain ⟨y, hy, rfl⟩ := List.mem_map.1 hi
    exact (h2.2 y hy).ok)
  have HXK := Lib.hid hk
  have HKEY := Lib.hid hkey
  have HNON := Lib.hid hnonce
  have HBU : Hid (er = 0 → B = Bu.bundB key nonce ses (Rt.its xs) ∧ Bu.buildE ses (Rt.its xs) = 0) := Lib.hid (fun h0 => by
    rw [h0] at h_er
    refine ⟨?_, h_er⟩
    rw [← h_B]
    unfold Bu.buildB
    rw [h_er, if_pos rfl])
  have HB0 : Hid (er ≠ 0 → nb = 0) := Lib.hid (fun h0 => by
    rw [← h_nb, ← h_B]
    unfold Bu.buildB
    rw [h_er, if_neg h0]
    rfl)
  have HBL : Hid (er = 0 → nb ≤ 1048612 ∧ 36 ≤ nb) := Lib.hid (fun h0 => by
    obtain ⟨e1, e2⟩ := HBU.out h0
    have e3 := (Bu.fits_treeB HOK.out (Bu.buildE_parts e2).2.2).2
    rw [← h_nb, e1, Bu.bund_len]
    omega)
  have H2 := Lib.hid h2
  have HI0 := Lib.hid h2
  clear h2 h_B h_er h_nb hkey hnonce hk
  go_enter Tryz.func7, Tryz.ntmps7
  have X_0 := Lib.hid (Ext.refl w)
  go_wp2_with fail
  with_reducible refine (K1.out w H2.out (fun w' hx => HG.out w' (X_0.out.trans hx))).mono ?_
  rintro e w1 ⟨⟨A4, c4, rfl, hs4, hc4⟩, hb⟩
  have HI_1 := Lib.hid (H2.out.ext hb)
  clear H2
  have X_1 := Lib.hid (X_0.out.trans hb)
  clear X_0
  have S4_1 := Lib.hid (hs4)
  clear hb hs4
  clear K1
  rcases Classical.em (er = 0) with h0 | h0
  · have t0 : (er != 0) = false := by rw [h0]; rfl
    subst h0
    obtain ⟨e1, e2⟩ := HBU.out (by first | rfl | trivial)
    obtain ⟨e3, e4⟩ := HBL.out (by first | rfl | trivial)
    have hBy := Bu.bund_byt (k := key) (n := nonce) e2 HOK.out
    rw [← e1] at hBy
    by_cases hlt : nb ≤ j
    · have hlt' : (nb : Int) ≤ (j : Int) := by omega
      have t9 : decide ((nb : Int) ≤ (j : Int)) = true := decide_eq_true hlt'
      go_wp2_with fail
      with_reducible refine (awake_any w1 (fun w' he => HG.out _ (X_1.out.trans he))).mono ?_
      rintro e w2 ⟨rfl, hb⟩
      have XL := Lib.hid (X_1.out.trans hb)
      clear hb
      go_wp2
      go_ret
      exact ⟨rfl, XL.out⟩
    · have hlt' : ¬ (nb : Int) ≤ (j : Int) := by omega
      have t9 : decide ((nb : Int) ≤ (j : Int)) = false := decide_eq_false hlt'
      by_cases hz : chg = 0
      · subst hz
        go_wp2_with fail
        with_reducible refine (awake_any w1 (fun w' he => HG.out _ (X_1.out.trans he))).mono ?_
        rintro e w2 ⟨rfl, hb⟩
        have XL := Lib.hid (X_1.out.trans hb)
        clear hb
        go_wp2
        go_ret
        exact ⟨rfl, XL.out⟩
      · have tz : (chg == 0) = false := by rw [beq_eq_false_iff_ne]; exact hz
        have hjB : j < B.length := by rw [HNB.out]; omega
        obtain ⟨x, hx⟩ : ∃ x, B[j] = x := ⟨_, rfl⟩
        have hxb : 0 ≤ x ∧ x < 256 := by rw [← hx]; exact hBy _ (List.getElem_mem hjB)
        have hta := Bu.tamper (k := key) e2 HOK.out HNON.out (i := j) (x := x) (y := Bu.xr x chg) (by rw [← e1, List.getElem?_eq_getElem hjB, hx]) (Bu.xr_byt hxb hchg) (Bu.xr_ne hxb hchg hz)
        rw [← e1] at hta
        obtain ⟨C, hC⟩ : ∃ C, B.set j (Bu.xr x chg) = C := ⟨_, rfl⟩
        have hCB : Bu.Byt C := by rw [← hC]; exact Bu.set_byt hBy j (Bu.xr_byt hxb hchg)
        have hCl : C.length = nb := by rw [← hC, List.length_set, HNB.out]
        rw [hC] at hta
        obtain ⟨r, hr⟩ : ∃ r, Bu.opnR key C = r := ⟨_, rfl⟩
        rw [hr] at hta
        obtain ⟨e9, l9⟩ := r
        obtain ⟨s9, hs9⟩ : ∃ q, Bu.opnS key C = q := ⟨_, rfl⟩
        have hs99 : e9 ≠ 0 → s9 = 0 := fun h0 => by rw [← hs9]; unfold Bu.opnS; rw [hr, if_neg h0]
        have hs90 : e9 = 0 → s9 = Bu.headS C := fun h0 => by rw [← hs9]; unfold Bu.opnS; rw [hr, if_pos h0]
        generalize Bu.headS C = hS at *
        obtain ⟨n9, hn9⟩ : ∃ q, l9.length = q := ⟨_, rfl⟩
        obtain ⟨i1, hi1, hy0, hy1, hy2⟩ := info_parts Tryz.infoU8
        have HOP := Lib.hid (fun A6 c6 W (hc : nb ≤ c6) (h : SlU W A6 C) hg => (bopen_any key HKEY.out A6 c6 C hCl hc hCB (by omega) W h hg).mono fun e w' h => And.intro (RetO.use h.1 hr hs9 hn9) h.2)
        have HSET := Lib.hid hC
        have HBX := Lib.hid hx
        have HN9 := Lib.hid hn9
        have HTA := Lib.hid hta
        have HS99 := Lib.hid hs99
        have HS90 := Lib.hid hs90
        have HB2 := Lib.hid hjB
        obtain ⟨W2, hW2⟩ : ∃ W, w1.alloc (.cells #[] 5) = W := ⟨_, rfl⟩
        have HRM : Hid (RowM w1.heap.size [] W2 (.slice (some ⟨w1.heap.size, 0, none⟩) 0 0)) := Lib.hid (Or.inl (by rw [← hW2]; exact own_zeroD _ _ _ (Nat.le_refl _)))
        have E12 : Ext w1 W2 := by rw [← hW2]; exact (Ext.refl _).alloc _
        have HE12 := Lib.hid E12
        have HW2 := Lib.hid hW2
        have HS42 := Lib.hid (S4_1.out.ext E12)
        have HX2 := Lib.hid X_1.out
        clear hta hx hC hCB hCl hr hs9 hs99 hs90 hn9 e1 e2 hBy hxb hW2 E12
        have hm0 : 0 < nb := by omega
        have kj0 : (0 : Int) ≤ (j : Int) := by omega
        have kj1 : (j : Int) < (nb : Int) := by omega
        go_wp2_with (first
          | (rw [HW2.out])
          | (at_builtin; refine wpList_append_slM rfl _ _ 24 rfl w1.heap.size 5 rfl i1 (.int .u8 0) Tryz.underlying24 hi1 hy0 hy1 hy2 rfl (.slice (some ⟨w1.heap.size, 0, none⟩) 0 0) 0 [] (by with_unfolding_all rfl) HRM.out rfl A4 nb c4 B HNB.out (by with_unfolding_all rfl) HS42.out hm0 (by unfold maxLen; omega) (by omega) HE12.out.size ?_
             intro gg cap w3 hr3 hg3
             rw [List.nil_append, Nat.zero_add] at hr3
             rw [Nat.zero_add]
             have HR3 := Lib.hid hr3
             have HX3 := Lib.hid ((HX2.out.trans HE12.out).grown hg3 (fun q hq => by have h1 := HRM.out.ge q hq; have h2 := HX2.out.size; omega))
             have HCP := Lib.hid (own_cap0 hr3)
             have hsl3 : SlU w3 (some ⟨gg, 0, none⟩) B := by
               obtain ⟨A', c', e', h'⟩ := RowU.sl hr3
               rw [HNB.out] at e'
               cases e'
               exact h'
             obtain ⟨b', o', e', -, hcell⟩ := hsl3.at_ HB2.out
             cases e'
             rw [HBX.out, Nat.zero_add] at hcell
             have hfree := RowU.free hr3 j
             have HSL3 := Lib.hid hsl3
             have HGE : Hid (w.heap.size ≤ gg) := Lib.hid (by
               have := own_ge hr3 gg (by simp [Value.ownBlock])
               have h2 := HX2.out.size
               omega)
             clear hr3 hg3 hsl3))
        have HSL4 := Lib.hid (show SlU (w3.setCell ⟨gg, j, none⟩ (.int .u8 (bits BinOp.xor IntKind.u8 x chg))) (some ⟨gg, 0, none⟩) C by rw [← HSET.out]; exact HSL3.out.setC hjB _)
        have HX4 := Lib.hid (HX3.out.setCell (p := ⟨gg, j, none⟩) HGE.out (.int .u8 (bits BinOp.xor IntKind.u8 x chg)))
        with_reducible refine (HOP.out _ cap _ HCP.out HSL4.out (fun w' hx => HG.out w' (HX4.out.trans hx))).mono ?_
        rintro e w5 ⟨⟨A6, c6, ys, rfl, -, -⟩, hb⟩
        have HX5 := Lib.hid (HX4.out.trans hb)
        clear hb hcell hfree HOP
        have X_2 := Lib.hid HX5.out
        clear HX5
        rcases Nat.lt_or_ge j 4 with h4 | h4
        · skip
          obtain ⟨q1, q2⟩ := Prod.mk.inj (HTA.out.1 h4)
          subst q1 q2
          obtain rfl : 0 = n9 := HN9.out
          have d4 : decide ((j : Int) < 4) = true := decide_eq_true (by omega)
          go_wp2_with fail
          with_reducible refine (awake_any w5 (fun w' he => HG.out _ (X_2.out.trans he))).mono ?_
          rintro e w10 ⟨rfl, hb⟩
          have XL := Lib.hid (X_2.out.trans hb)
          clear hb
          go_wp2
          go_ret
          exact ⟨rfl, XL.out⟩
        rcases Nat.lt_or_ge j 8 with h8 | h8
        · skip
          rcases HTA.out.2.1 h4 h8 with q | ⟨q, qs⟩
          · skip
            obtain ⟨q1, q2⟩ := Prod.mk.inj q
            subst q1 q2
            obtain rfl : 0 = n9 := HN9.out
            have d4 : decide ((j : Int) < 4) = false := decide_eq_false (by omega)
            have d8 : decide ((j : Int) < 8) = true := decide_eq_true (by omega)
            go_wp2_with fail
            with_reducible refine (awake_any w5 (fun w' he => HG.out _ (X_2.out.trans he))).mono ?_
            rintro e w10 ⟨rfl, hb⟩
            have XL := Lib.hid (X_2.out.trans hb)
            clear hb
            go_wp2
            go_ret
            exact ⟨rfl, XL.out⟩
          · skip
            change e9 = 0 at q
            subst q
            obtain rfl := HS90.out (by first | rfl | trivial)
            have ts : (s9 != ses) = true := by rw [bne_iff_ne]; exact qs
            have d4 : decide ((j : Int) < 4) = false := decide_eq_false (by omega)
            have d8 : decide ((j : Int) < 8) = true := decide_eq_true (by omega)
            go_wp2_with fail
            with_reducible refine (awake_any w5 (fun w' he => HG.out _ (X_2.out.trans he))).mono ?_
            rintro e w10 ⟨rfl, hb⟩
            have XL := Lib.hid (X_2.out.trans hb)
            clear hb
            go_wp2
            go_ret
            exact ⟨rfl, XL.out⟩
        rcases Nat.lt_or_ge j 20 with h20 | h20
        · skip
          obtain ⟨q, q2⟩ := HTA.out.2.2.1 h8 h20
          change e9 ≠ 0 at q
          change l9 = [] at q2
          subst q2
          obtain rfl : 0 = n9 := HN9.out
          obtain rfl := HS99.out q
          have te : (e9 != 0) = true := by rw [bne_iff_ne]; exact q
          have d4 : decide ((j : Int) < 4) = false := decide_eq_false (by omega)
          have d8 : decide ((j : Int) < 8) = false := decide_eq_false (by omega)
          have d20 : decide ((j : Int) < 20) = true := decide_eq_true (by omega)
          go_wp2_with fail
          with_reducible refine (awake_any w5 (fun w' he => HG.out _ (X_2.out.trans he))).mono ?_
          rintro e w10 ⟨rfl, hb⟩
          have XL := Lib.hid (X_2.out.trans hb)
          clear hb
          go_wp2
          go_ret
          exact ⟨rfl, XL.out⟩
        · skip
          obtain ⟨q1, q2⟩ := Prod.mk.inj (HTA.out.2.2.2 h20)
          subst q1 q2
          obtain rfl : 0 = n9 := HN9.out
          obtain rfl := HS99.out (by decide)
          have d4 : decide ((j : Int) < 4) = false := decide_eq_false (by omega)
          have d8 : decide ((j : Int) < 8) = false := decide_eq_false (by omega)
          have d20 : decide ((j : Int) < 20) = false := decide_eq_false (by omega)
          go_wp2_with fail
          with_reducible refine (awake_any w5 (fun w' he => HG.out _ (X_2.out.trans he))).mono ?_
          rintro e w10 ⟨rfl, hb⟩
          have XL := Lib.hid (X_2.out.trans hb)
          clear hb
          go_wp2
          go_ret
          exact ⟨rfl, XL.out⟩
  · have t0 : (er != 0) = true := by rw [bne_iff_ne]; exact h0
    obtain rfl := HB0.out h0
    go_wp2_with fail
    with_reducible refine (awake_any w1 (fun w' he => HG.out _ (X_1.out.trans he))).mono ?_
    rintro e w2 ⟨rfl, hb⟩
    have XL := Lib.hid (X_1.out.trans hb)
    clear hb
    go_wp2
    go_ret
    exact ⟨rfl, XL.out⟩
theorem bundleTamper_laid (os : Os) : laidMet Tryz.prog Rows.bundleTamperRow.laid ((laidW os).forCall (fun _ _ => 0) ⟨#[], #[.int .u64 0, .int .u64 0, .int .i64 0, .slice none 0 0, .int .u16 0, .int .u8 0], []⟩).memory :=
  laidMet_of_run' 8 (by kernel_rfl) (by kernel_rfl)
theorem bundleTamper_reads (os : Os) {H : Type} (enc : TypeId × Value → H) : ∃ places, DataW.whole enc Tryz.prog ((laidW os).forCall (fun _ _ => 0) ⟨#[], #[.int .u64 0, .int .u64 0, .int .i64 0, .slice none 0 0, .int .u16 0, .int .u8 0], []⟩).memory Tryz.f7.params.toList Rows.bundleTamperSpec.vars false (#[.int .u64 0, .int .u64 0, .int .i64 0, .slice none 0 0, .int .u16 0, .int .u8 0] : Array Value).toList 8 = some ([.lit (.int .u64 0), .lit (.int .u64 0), .lit (.int .i64 0), .nil, .lit (.int .u16 0), .lit (.int .u8 0)], [], places) :=
  ⟨[], by kernel_rfl⟩
set_option maxRecDepth 100000 in
theorem bundleTamper_lifted (os : Os) (started : os.Started) (H : Type) (enc : TypeId × Value → H) (F : Stop.Interp) :
    ReturnsInHanded {} Tryz.checked os 7 .any ((OpenSpec.ofChange Rows.bundleTamperSpec).preRow enc Tryz.prog Tryz.f7 Rows.bundleTamperRow.domain false Rows.bundleTamperRow.laid) (((OpenSpec.ofChange Rows.bundleTamperSpec).at F).post enc Tryz.prog Tryz.f7 false true false false) := by
  obtain ⟨places, hx⟩ := bundleTamper_reads os enc
  refine returnsInHanded_of_row (C := Tryz.checked) (s := (OpenSpec.ofChange Rows.bundleTamperSpec)) Tryz.own started (by kernel_rfl) Tryz.func7
    (witness_row_at (enc := enc) (C := Tryz.checked) false (laidW os) #[.int .u64 0, .int .u64 0, .int .i64 0, .slice none 0 0, .int .u16 0, .int .u8 0] rfl (by kernel_rfl) (by kernel_rfl) (by kernel_rfl)
      (OpenSpec.preRow_of_cond 8 hx (by kernel_rfl) (fun k hk => by cases hk) (by kernel_rfl) (bundleTamper_laid os))) ?_
  intro W base args ds gs before hval0 hW _ hcond hsz0 hL hsh _
  have hval : ∀ (j : Nat) t v, Tryz.f7.params[j]? = some t → args[j]? = some v → Value.okWide Tryz.prog W .any base t v := hval0
  have hW' : DataW.Whole enc Tryz.prog Tryz.f7.params.toList Rows.bundleTamperSpec.vars false W args.toList ds gs before := hW
  have hW2 := hW'
  obtain ⟨p, q, hA0, hV, rfl, hfz, hnd⟩ := hW2
  have hA : DataW.TrodAll enc Tryz.prog W 0 (fun _ => true) true Tryz.f7.params.toList args.toList ds p := hA0
  rw [Tryz.params7] at hA hval
  obtain ⟨v0, vs0, d0, ds0, p0, q0, hargs, rfl, rfl, h0, r0⟩ := trodAll_cons hA
  obtain ⟨v1, vs1, d1, ds1, p1, q1, rfl, rfl, rfl, h1, r1⟩ := trodAll_cons r0
  obtain ⟨v2, vs2, d2, ds2, p2, q2, rfl, rfl, rfl, h2, r2⟩ := trodAll_cons r1
  obtain ⟨v3, vs3, d3, ds3, p3, q3, rfl, rfl, rfl, h3, r3⟩ := trodAll_cons r2
  obtain ⟨v4, vs4, d4, ds4, p4, q4, rfl, rfl, rfl, h4, r4⟩ := trodAll_cons r3
  obtain ⟨v5, vs5, d5, ds5, p5, q5, rfl, rfl, rfl, h5, r5⟩ := trodAll_cons r4
  obtain ⟨rfl, rfl, rfl⟩ := trodAll_nil r5
  obtain rfl : args = #[v0, v1, v2, v3, v4, v5] := by cases args; simp_all
  obtain ⟨rfl, rfl⟩ := trodVars_none hV
  obtain ⟨mx, hmx⟩ := Go.Proofs.cell_of_shapedOpen_int (g := 0) (zero := #[.int .i64 0]) (t := 3) hsh (by decide +kernel) (by kernel_rfl) (by decide) (by kernel_rfl) (by kernel_rfl) Tryz.underlying3
  have hsz : (DataW.weightsEach Tryz.prog (Tryz.f7.params.toList ++ Rows.bundleTamperSpec.plain.varTypes Tryz.prog) _).all (· ≤ reachBytes) = true := hsz0
  rw [Tryz.params7] at hsz
  obtain ⟨x_0, rfl, hd_0, -, wf_0⟩ := open_int Tryz.underlying22 (hval 0 22 v0 rfl rfl) h0
  obtain ⟨x_1, rfl, hd_1, -, wf_1⟩ := open_int Tryz.underlying22 (hval 1 22 v1 rfl rfl) h1
  obtain ⟨x_2, rfl, hd_2, -, wf_2⟩ := open_int Tryz.underlying3 (hval 2 3 v2 rfl rfl) h2
  obtain ⟨A_3, c_3, l_3, rfl, s_3, k_3, -, y_3⟩ := items_open (hval 3 23 v3 rfl rfl) h3 (light_arg hsz (j := 3) rfl rfl)
  have b_3 : l_3.length ≤ 9223372036854775807 := by omega
  obtain ⟨x_4, rfl, hd_4, -, wf_4⟩ := open_int Tryz.underlying47 (hval 4 47 v4 rfl rfl) h4
  obtain ⟨x_5, rfl, hd_5, -, wf_5⟩ := open_int Tryz.underlying5 (hval 5 5 v5 rfl rfl) h5
  refine (bundleTamper_walk x_0 (u64_wf wf_0) x_1 (u64_wf wf_1) x_2 A_3 c_3 l_3 rfl b_3 x_4 (u16_wf wf_4) x_5 (u8_wf wf_5) W s_3 ⟨mx, hmx⟩).mono fun e W' ⟨he, hw⟩ => ?_
  subst he
  exact ⟨_, rfl, law_post (s := Rows.bundleTamperSpec) hW' Tryz.laidOut (by kernel_rfl) rfl (by rfl) rfl Tryz.underlying4 hw⟩

theorem bundleTamper_holds : Rows.BundleTamperSaid :=
  OpenClaim.holds_of_cond 7 Tryz.f7 rfl rfl rfl rfl rfl rfl rfl ⟨rfl, rfl, rfl, rfl, rfl⟩ rfl rfl rfl rfl rfl (by kernel_rfl) Tryz.func7 (by kernel_rfl)
    (of_decide_eq_true (by kernel_rfl)) (by unfold Func.isWrapper; first | (rw [if_pos (by decide +kernel)]; kernel_rfl) | (rw [if_neg (by decide +kernel)]; exact ⟨rfl, rfl⟩))
    (fun os started H enc _ F => by rw [OpenClaim.pre_eq_preRow]; exact bundleTamper_lifted os started H enc F)
theorem bundleTamper_card : Rows.BundleTamperCardSaid :=
  Claim7.holds_tied_plain_at .later [] _ _ _ _
    bundleTamper_holds (fun _ h => by cases h) (by kernel_rfl) (fun _ h => by cases h) bundleTamper_row_tie rfl ⟨rfl, rfl⟩ (by kernel_rfl) rfl
    (fun f fn hf hfn => by
      obtain rfl : f = 7 := Option.some.inj ((show Tryz.prog.funcNamed Rows.bundleTamperRow.func = some 7 by kernel_rfl).symm.trans hf) |>.symm
      obtain rfl : fn = Tryz.f7 := (Option.some.inj (Tryz.func7.symm.trans hfn)).symm
      exact ⟨by kernel_rfl, fun j t ht => by
        rw [Tryz.params7] at ht
        have hm : t ∈ [22, 3, 23, 47, 5] := by simpa using Array.mem_of_getElem? ht
        have hall : ([22, 3, 23, 47, 5].all fun u => !Tryz.prog.wantsStandIn u) = true := by kernel_rfl
        exact (show Tryz.prog.wantsStandIn t = false by simpa using List.all_eq_true.1 hall t hm)⟩)
    (by kernel_rfl)
#print axioms bundleTamper_card
end Go.Proofs.YtnlenappjjlbjaaGreatDoor
