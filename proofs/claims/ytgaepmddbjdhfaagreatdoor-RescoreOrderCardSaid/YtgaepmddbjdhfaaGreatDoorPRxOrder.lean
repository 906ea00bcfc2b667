/- RescoreOrder: for all grids, pools, steps and numbers the law returns true. Conditions: the library's variables lie as the row says. -/
import Derived.Test.YtgaepmddbjdhfaaGreatDoorP35
import Derived.Test.YtgaepmddbjdhfaaGreatDoorP29
import Derived.Test.YtgaepmddbjdhfaaGreatDoorP33
import Derived.Test.YtgaepmddbjdhfaaGreatDoorP28
import Derived.Test.YtgaepmddbjdhfaaGreatDoorP37
import Derived.Test.YtgaepmddbjdhfaaGreatDoorP26
namespace Go.Proofs.YtgaepmddbjdhfaaGreatDoor
open Go.ChangeShapes Go.WideShapes Go.ChangeAt Go.RowKit
namespace Rw
theorem u8_of {x : Int} (h : (Lit.int .u8 x).wf = true) : 0 ≤ x ∧ x ≤ 255 := by
  simp [Lit.wf, IntKind.min, IntKind.max, IntKind.signed, IntKind.bits] at h
  omega
end Rw
/-- What each operation of the region leaves. -/
def rxoL (_g n c m c' np cp ns cs k : Nat) (A A' Ap As : Option Addr) (ss : List Rs.Stp) (vs : List Nat) (B0 : World) : List (Option Value → World → Prop) := [fun u _ => u = some (.agg #[.slice A n c, .slice A' m c']),
  fun u _ => u = some (.slice Ap np cp),
  fun u w => ∃ b : Nat, u = some (.slice (some ⟨b, 0, none⟩) 0 0) ∧ w.ownsRow B0.heap.size 50 2 (.slice (some ⟨b, 0, none⟩) 0 0) 0 [],
  fun u _ => u = some (.slice As ns cs),
  fun u _ => u = some (.int .i64 (k : Int)),
  fun u _ => u = some (.slice (moved As cs k 2) (ns - k) (cs - k)),
  fun u w => ∃ v : Value, u = some v ∧ w.ownsRow B0.heap.size 50 2 v (ns - k) ((ss.drop k).map Rt.scl).flatten,
  fun u _ => u = some (.slice As ns cs),
  fun u _ => u = some (.int .i64 (k : Int)),
  fun u _ => u = some (.slice (moved As cs 0 2) k cs),
  fun u w => ∃ W : Option Addr × Nat, u = some (.slice W.1 ns W.2) ∧ Rt.SlSt w W.1 (ss.drop k ++ ss.take k),
  fun u w => ∃ V : WL, u = some (.tuple #[V.val, .int .i64 0]) ∧ (V.In w ∧ V.vs = vs),
  fun u w => ∃ V : WL, u = some (.tuple #[V.val, .int .i64 0]) ∧ (V.In w ∧ V.vs = vs),
  fun u w => ∃ V : WL, u = some V.val ∧ (V.In w ∧ V.vs = vs),
  fun u _ => u = some (.int .i64 0),
  fun u w => ∃ V : WL, u = some V.val ∧ (V.In w ∧ V.vs = vs),
  fun u _ => u = some (.int .i64 0)]
theorem rxoL_mono (g n c m c' np cp ns cs k : Nat) (A A' Ap As : Option Addr) (ss : List Rs.Stp) (vs : List Nat) (B0 : World) : AllMono (rxoL g n c m c' np cp ns cs k A A' Ap As ss vs B0) := ⟨mono_val _, mono_val _, fun _ _ _ he h => h.elim fun b h => ⟨b, h.1, own_ext h.2 he⟩, mono_val _, mono_val _, mono_val _, fun _ _ _ he h => h.elim fun b h => ⟨b, h.1, own_ext h.2 he⟩, mono_val _, mono_val _, mono_val _, fun _ _ _ he h => h.elim fun b h => ⟨b, h.1, h.2.ext he⟩, fun _ _ _ he h => h.elim fun b h => ⟨b, h.1, h.2.1.ext he, h.2.2⟩, fun _ _ _ he h => h.elim fun b h => ⟨b, h.1, h.2.1.ext he, h.2.2⟩, fun _ _ _ he h => h.elim fun b h => ⟨b, h.1, h.2.1.ext he, h.2.2⟩, mono_val _, fun _ _ _ he h => h.elim fun b h => ⟨b, h.1, h.2.1.ext he, h.2.2⟩, mono_val _, trivial⟩
def rxoR (g n c m c' np cp ns cs k : Nat) (A A' Ap As : Option Addr) (ss : List Rs.Stp) (vs : List Nat) (B0 : World) (j : Nat) (u : Option Value) (w : World) : Prop := (rxoL g n c m c' np cp ns cs k A A' Ap As ss vs B0).getD j (fun _ _ => True) u w
theorem rxoR_ext (g n c m c' np cp ns cs k : Nat) (A A' Ap As : Option Addr) (ss : List Rs.Stp) (vs : List Nat) (B0 : World) (j : Nat) (u : Option Value) (w w' : World) (he : Ext w w') (hR : rxoR g n c m c' np cp ns cs k A A' Ap As ss vs B0 j u w) : rxoR g n c m c' np cp ns cs k A A' Ap As ss vs B0 j u w' := ((rxoL_mono g n c m c' np cp ns cs k A A' Ap As ss vs B0).at_ j) u w w' he hR
def rxoD : List Nat := [37, 38, 39, 40, 41, 42, 43, 44, 45, 46, 47, 48, 36, 49, 50, 12, 10]
def rxoC (j : Nat) : Option Nat := if j = 2 then some 6 else if j = 6 then some 10 else none
def rxoE (g np cp ns cs k : Nat) (Ap As : Option Addr) (t : Array Value) : Prop := t.getD 1 undef = .slice Ap np cp ∧ t.getD 2 undef = .slice As ns cs ∧ t.getD 4 undef = .pointer (some ⟨g, 0, none⟩) ∧ t.getD 11 undef = .int .i64 (k : Int) ∧ t.size = 85
set_option maxRecDepth 100000 in
set_option maxHeartbeats 25600000 in
theorem rescoreOrder_walk (A : Option Addr) (c : Nat) (A' : Option Addr) (c' : Nat) (pt pr : List Int) {n m : Nat} (hn : pt.length = n) (hm : pr.length = m) (Ap : Option Addr) (cp : Nat) (ps : List PL) {np : Nat} (hnp : ps.length = np) (As : Option Addr) (cs : Nat) (ss : List Rs.Stp) {ns : Nat} (hns : ss.length = ns) (kz : Int) (hkz : 0 ≤ kz ∧ kz ≤ 255) (hnc : ns ≤ cs) (hby : ns * 16 ≤ 140737488355328) (w : World) (h : SlI w A pt) (h' : SlI w A' pr) (hp : SlPo w Ap ps) (hs : Rt.SlSt w As ss) (hl : n ≤ 9223372036854775807) (hl' : m ≤ 9223372036854775807) (hlp : np ≤ 9223372036854775807) (hls : ns ≤ 9223372036854775807) (hg : Gm w) :
    Calls Tryz.prog 8 #[.agg #[.slice A n c, .slice A' m c'], .slice Ap np cp, .slice As ns cs, .int .u8 kz] w fun e w' => e = .returned (.bool true) ∧ Ext w w' := by
  obtain ⟨k, rfl⟩ := Int.eq_ofNat_of_zero_le hkz.1
  have hk256 : k ≤ 255 := by omega
  clear hkz
  obtain ⟨i0, pi0, pz0, pz1, pz2⟩ := info_parts Tryz.infoStep
  have ENW := Lib.hid (enters_of Tryz.func16 (by kernel_rfl) rfl)
  have K1 := Lib.hid (fun w h h' hp hs hg => kweights_any A c A' c' pt pr hn hm Ap cp ps hnp As cs ss hns w h h' hp hs hl hl' hlp hls hg)
  have HNS := Lib.hid hns
  obtain ⟨er, h_er⟩ : ∃ q, Rw.wgtE pt pr (pool ps) ss = q := ⟨_, rfl⟩
  obtain ⟨vs, h_vs⟩ : ∃ q, Rw.wgtV pt pr (pool ps) ss = q := ⟨_, rfl⟩
  have KW := Lib.hid (fun (As : Option Addr) (cs : Nat) (ts : List Rs.Stp) (ns : Nat) (hns : ts.length = ns) w h h' hp hs (hls : ns ≤ 9223372036854775807) hg => kweights_any A c A' c' pt pr hn hm Ap cp ps hnp As cs ts hns w h h' hp hs hl hl' hlp hls hg)
  have KS := Lib.hid (fun (v : Int) (hv : Rw.gridE pt pr = v) (vs : List Nat) (hvs : Rw.priV pt pr = vs) w h h' => kstart_any A c A' c' pt pr hn hm hv hvs w h h' hl hl')
  have HLW : Hid (er = 0 → k ≤ ns → _) := Lib.hid (fun q (_ : k ≤ ns) => Rw.order_law (pt := pt) (pr := pr) (p := pool ps) (ss := ss) (ts := ss.drop k ++ ss.take k) (by
    have h1 := List.perm_append_comm (l₁ := ss.take k) (l₂ := ss.drop k)
    rwa [List.take_append_drop] at h1) (h_er.trans q))
  rw [h_er, h_vs] at K1
  rw [h_vs] at HLW
  unfold RetW at K1 KW KS
  have t1 : IntKind.i64.wrap (k : Int) = (k : Int) := IntWalk.i64_in _ (by omega)
  have HG : Hid (∀ w', Ext w w' → Gm w') := Lib.hid (fun w' he => hg.ext he)
  have HDR0 : Hid (∀ w, Rt.SlSt w As ss → Sl w 2 (moved As cs k 2) ((ss.drop k).map Rt.scl)) := Lib.hid (fun w hs => by rw [List.map_drop]; exact sl_drop hs (by rw [List.length_map, hns]; exact hnc) k)
  have HTK0 : Hid (∀ w, Rt.SlSt w As ss → Sl w 2 (moved As cs 0 2) ((ss.take k).map Rt.scl)) := Lib.hid (fun w hs => by rw [List.map_take]; exact sl_take (c := cs) hs k)
  have H := Lib.hid h
  have H' := Lib.hid h'
  have HP := Lib.hid hp
  have HS := Lib.hid hs
  clear h_er h_vs h h' hp hs hg hn hm hnp hns hl hl' hlp
  go_enter Tryz.func8, Tryz.ntmps8
  have X_0 := Lib.hid (Ext.refl w)
  have E0 : Ext w (w.alloc (.cells #[.slice A n c, .slice A' m c'] 36)) := (Ext.refl _).alloc _
  have H_1 := Lib.hid (H.out.ext E0)
  have H'_1 := Lib.hid (H'.out.ext E0)
  have HP_1 := Lib.hid (HP.out.ext E0)
  have HS_1 := Lib.hid (HS.out.ext E0)
  clear H H' HP HS
  have X_1 := Lib.hid (X_0.out.trans E0)
  clear X_0
  have B_1 := Lib.hid (heap_alloc_new w (.cells #[.slice A n c, .slice A' m c'] 36))
  clear E0
  go_wp2_with fail
  with_reducible refine (K1.out _ H_1.out H'_1.out HP_1.out HS_1.out (HG.out _ X_1.out)).mono ?_
  rintro e w1 ⟨⟨V, rfl, hV, hv⟩, hb⟩
  have H_2 := Lib.hid (H_1.out.ext hb)
  have H'_2 := Lib.hid (H'_1.out.ext hb)
  have HP_2 := Lib.hid (HP_1.out.ext hb)
  have HS_2 := Lib.hid (HS_1.out.ext hb)
  have B_2 := Lib.hid (hb.blockAt B_1.out)
  clear H_1 H'_1 HP_1 HS_1 B_1
  have X_2 := Lib.hid (X_1.out.trans hb)
  clear X_1
  have V_2 := Lib.hid (hV)
  clear hb hV
  have HV1 := Lib.hid hv
  clear hv
  obtain ⟨qV, hqV⟩ : ∃ q, V.val = q := ⟨_, rfl⟩
  have HQV := Lib.hid hqV
  rw [hqV]
  clear hqV
  rcases Classical.em (er = 0) with h0 | h0
  · have t0 : (er != 0) = false := by rw [h0]; rfl
    subst h0
    rcases Nat.lt_or_ge ns k with hk | hk
    · have t2 : decide ((ns : Int) < (k : Int)) = true := decide_eq_true (by omega)
      go_wp2_with fail
      with_reducible refine (awake_any w1 (fun w' he => HG.out _ (X_2.out.trans he))).mono ?_
      rintro e w2 ⟨rfl, hb⟩
      have XL := Lib.hid (X_2.out.trans hb)
      clear hb
      go_wp2
      go_ret
      exact ⟨rfl, XL.out⟩
    · have t2 : decide ((ns : Int) < (k : Int)) = false := decide_eq_false (by omega)
      obtain ⟨a1, a2, a3, a4, a5⟩ := HLW.out rfl hk
      clear HLW
      have HROT : Hid ((ss.drop k ++ ss.take k).length = ns) := Lib.hid (by rw [List.length_append, List.length_drop, List.length_take, HNS.out, Nat.min_eq_left hk]; omega)
      have hK := fun A9 c9 w h h' hp hs hg => KW.out A9 c9 (ss.drop k ++ ss.take k) ns HROT.out w h h' hp hs hls hg
      rw [a1, a2] at hK
      have K2 := Lib.hid hK
      clear hK
      have hK := fun w h h' hp hg => KW.out none 0 [] 0 rfl w h h' hp (Or.inl rfl) (Nat.zero_le _) hg
      rw [a4, a5] at hK
      have K3 := Lib.hid hK
      clear hK
      have K4 := Lib.hid (KS.out 0 a3 (Rw.prior pr) (Rw.priV_ok a3))
      clear KS KW a1 a2 a3 a4 a5
      have HB := Lib.hid B_2.out
      have H0 := Lib.hid H_2.out
      have H0' := Lib.hid H'_2.out
      have HP0 := Lib.hid HP_2.out
      have HDR := Lib.hid (HDR0.out _ HS_2.out)
      have HTK := Lib.hid (HTK0.out _ HS_2.out)
      have HGB := Lib.hid (fun w' he => HG.out w' (X_2.out.trans he))
      go_wp2_with fail
      refine region_tb (by kernel_rfl) (by decide +kernel) (rxoE w.heap.size np cp ns cs k Ap As) ⟨rfl, rfl, rfl, rfl, rfl⟩ 17 rxoD rxoC (rxoR w.heap.size n c m c' np cp ns cs k A A' Ap As ss vs w1) w1 (Ext.refl _) (fun i h1 h2 => absurd h2 (Nat.not_lt.2 h1)) ?_ ?_
      · intro Tv dd lv U wz i o hE ho hlv hd hT
        obtain ⟨t1, t2, t4, t11, tz⟩ := hE
        have hx := hT.ext
        match i, ho, hlv, hd with
        | 0, ho, hlv, hd =>
          obtain rfl := Option.some.inj ho
          have v0 := eval_old (d := dd) (hT.out 4 (by decide)) (by omega) t4
          refine tbw_yield (v := .agg #[.slice A n c, .slice A' m c']) (rxoR_ext w.heap.size n c m c' np cp ns cs k A A' Ap As ss vs w1) hT ho hd (wanted_plain rfl) rfl (by decide) (by decide) (exec_load_row _ _ rfl w.heap.size v0 _ _ _ _ (hx.blockAt HB.out) Tryz.underlying36 rfl (by kernel_rfl)) (Ext.refl _) rfl
        | 1, ho, hlv, hd =>
          obtain rfl := Option.some.inj ho
          have v0 := eval_old (d := dd) (hT.out 1 (by decide)) (by omega) t1
          refine tbw_yield (v := .slice Ap np cp) (rxoR_ext w.heap.size n c m c' np cp ns cs k A A' Ap As ss vs w1) hT ho hd (wanted_plain rfl) rfl (by decide) (by decide) ?_ (Ext.refl _) rfl
          generalize Act.eval ⟨over Tv U, dd⟩ = ev at *
          simp [execOp, go_sem, v0]
        | 2, ho, hlv, hd =>
          obtain rfl := Option.some.inj ho
          refine tbw_yield (v := .slice (some ⟨wz.heap.size, 0, none⟩) 0 0) (w' := wz.alloc (.cells #[] 50)) (rxoR_ext w.heap.size n c m c' np cp ns cs k A A' Ap As ss vs w1) hT ho hd (wanted_plain rfl) rfl (by decide) (by decide) ?_ ((Ext.refl _).alloc _) ⟨wz.heap.size, rfl, own_zeroB _ _ _ hT.ext.size⟩
          generalize Act.eval ⟨over Tv U, dd⟩ = ev at *
          simp [execOp, go_sem]
        | 3, ho, hlv, hd =>
          obtain rfl := Option.some.inj ho
          have v0 := eval_old (d := dd) (hT.out 2 (by decide)) (by omega) t2
          refine tbw_yield (v := .slice As ns cs) (rxoR_ext w.heap.size n c m c' np cp ns cs k A A' Ap As ss vs w1) hT ho hd (wanted_plain rfl) rfl (by decide) (by decide) ?_ (Ext.refl _) rfl
          generalize Act.eval ⟨over Tv U, dd⟩ = ev at *
          simp [execOp, go_sem, v0]
        | 4, ho, hlv, hd =>
          obtain rfl := Option.some.inj ho
          have v0 := eval_old (d := dd) (hT.out 11 (by decide)) (by omega) t11
          refine tbw_yield (v := .int .i64 (k : Int)) (rxoR_ext w.heap.size n c m c' np cp ns cs k A A' Ap As ss vs w1) hT ho hd (wanted_plain rfl) rfl (by decide) (by decide) ?_ (Ext.refl _) rfl
          generalize Act.eval ⟨over Tv U, dd⟩ = ev at *
          simp [execOp, go_sem, v0]
        | 5, ho, hlv, hd =>
          obtain rfl := Option.some.inj ho
          have f0 : U 40 = some (.slice As ns cs) := hT.facts 3 (by decide) (dep hd 3 (by kernel_rfl)) (fun c e => by cases e)
          have v0 : Act.eval ⟨over Tv U, dd⟩ (.tmp 40) = _ := eval_new (t := Tv) (d := dd) f0 (by show 40 < Tv.size; omega)
          have f1 : U 41 = some (.int .i64 (k : Int)) := hT.facts 4 (by decide) (dep hd 4 (by kernel_rfl)) (fun c e => by cases e)
          have v1 : Act.eval ⟨over Tv U, dd⟩ (.tmp 41) = _ := eval_new (t := Tv) (d := dd) f1 (by show 41 < Tv.size; omega)
          refine tbw_yield (v := .slice (moved As cs k 2) (ns - k) (cs - k)) (rxoR_ext w.heap.size n c m c' np cp ns cs k A A' Ap As ss vs w1) hT ho hd (wanted_plain rfl) rfl (by decide) (by decide) (exec_slice_low Tryz.underlying24 rfl v0 v1 (run_slice_low wz _ _ 2 As ns cs k Tryz.underlying24 Tryz.infoStp hk)) (Ext.refl _) rfl
        | 6, ho, hlv, hd =>
          obtain rfl := Option.some.inj ho
          obtain ⟨b, f0, ho0⟩ := hT.facts 2 (by decide) (dep hd 2 (by kernel_rfl)) (fun c e => by cases e; exact hlv)
          have f1 : U 42 = some (.slice (moved As cs k 2) (ns - k) (cs - k)) := hT.facts 5 (by decide) (dep hd 5 (by kernel_rfl)) (fun c e => by cases e)
          have v1 : Act.eval ⟨over Tv U, dd⟩ (.tmp 42) = _ := eval_new (t := Tv) (d := dd) f1 (by show 42 < Tv.size; omega)
          have v0 : Act.eval ⟨over Tv U, dd⟩ (.tmp 39) = _ := eval_new (t := Tv) (d := dd) f0 (by show 39 < Tv.size; omega)
          have hlen : ((ss.drop k).map Rt.scl).length = ns - k := by rw [List.length_map, List.length_drop, HNS.out]
          obtain ⟨v', w', hrun, hown, hgr, -⟩ := run_append_sl (P := Tryz.prog) wz w1.heap.size 24 24 50 i0 (.agg #[.int .i64 0, .int .i64 0]) 2 16 Tryz.underlying24 pi0 pz0 pz1 pz2 rfl (by decide) (.slice (some ⟨b, 0, none⟩) 0 0) 0 [] ho0 (moved As cs k 2) (cs - k) ((ss.drop k).map Rt.scl) (HDR.out.ext hx) (scl_len _) (scl_ones _) (by rw [hlen]; unfold maxLen; omega) (by rw [hlen]; omega) hT.ext.size
          rw [hlen, Nat.zero_add, List.nil_append] at hown
          rw [hlen] at hrun
          refine tb_yield (v := v') (w' := w') hT ho hd rfl rfl (by decide) (by decide) (exec_append rfl v0 v1 hrun) (hT.ext.grown hgr (fun q hq => own_ge ho0 q hq)) ⟨v', rfl, hown⟩ ?_
          intro j hj hji hlj hcj hR
          match j, hj, hR with
          | 0, _, hR => exact hR
          | 1, _, hR => exact hR
          | 2, _, _ => exact absurd rfl (hcj 6 rfl).1
          | 3, _, hR => exact hR
          | 4, _, hR => exact hR
          | 5, _, hR => exact hR
          | 6, _, _ => exact absurd rfl hji
          | 7, _, hR => exact hR
          | 8, _, hR => exact hR
          | 9, _, hR => exact hR
          | 10, _, _ => exact absurd (dep (hT.shut 10 _ rfl hlj) 6 (by kernel_rfl)) (by rw [hlv]; decide)
          | 11, _, _ => exact absurd (dep (hT.shut 10 _ rfl (dep (hT.shut 11 _ rfl hlj) 10 (by kernel_rfl))) 6 (by kernel_rfl)) (by rw [hlv]; decide)
          | 12, _, _ => exact absurd (dep (hT.shut 10 _ rfl (dep (hT.shut 11 _ rfl (dep (hT.shut 12 _ rfl hlj) 11 (by kernel_rfl))) 10 (by kernel_rfl))) 6 (by kernel_rfl)) (by rw [hlv]; decide)
          | 13, _, _ => exact absurd (dep (hT.shut 10 _ rfl (dep (hT.shut 11 _ rfl (dep (hT.shut 12 _ rfl (dep (hT.shut 13 _ rfl hlj) 12 (by kernel_rfl))) 11 (by kernel_rfl))) 10 (by kernel_rfl))) 6 (by kernel_rfl)) (by rw [hlv]; decide)
          | 14, _, _ => exact absurd (dep (hT.shut 10 _ rfl (dep (hT.shut 11 _ rfl (dep (hT.shut 12 _ rfl (dep (hT.shut 14 _ rfl hlj) 12 (by kernel_rfl))) 11 (by kernel_rfl))) 10 (by kernel_rfl))) 6 (by kernel_rfl)) (by rw [hlv]; decide)
          | 15, _, _ => exact absurd (dep (hT.shut 10 _ rfl (dep (hT.shut 11 _ rfl (dep (hT.shut 12 _ rfl (dep (hT.shut 13 _ rfl (dep (hT.shut 15 _ rfl hlj) 13 (by kernel_rfl))) 12 (by kernel_rfl))) 11 (by kernel_rfl))) 10 (by kernel_rfl))) 6 (by kernel_rfl)) (by rw [hlv]; decide)
          | 16, _, _ => exact absurd (dep (hT.shut 10 _ rfl (dep (hT.shut 11 _ rfl (dep (hT.shut 12 _ rfl (dep (hT.shut 14 _ rfl (dep (hT.shut 16 _ rfl hlj) 14 (by kernel_rfl))) 12 (by kernel_rfl))) 11 (by kernel_rfl))) 10 (by kernel_rfl))) 6 (by kernel_rfl)) (by rw [hlv]; decide)
          | j + 17, hj, _ => exact absurd hj (by omega)
        | 7, ho, hlv, hd =>
          obtain rfl := Option.some.inj ho
          have v0 := eval_old (d := dd) (hT.out 2 (by decide)) (by omega) t2
          refine tbw_yield (v := .slice As ns cs) (rxoR_ext w.heap.size n c m c' np cp ns cs k A A' Ap As ss vs w1) hT ho hd (wanted_plain rfl) rfl (by decide) (by decide) ?_ (Ext.refl _) rfl
          generalize Act.eval ⟨over Tv U, dd⟩ = ev at *
          simp [execOp, go_sem, v0]
        | 8, ho, hlv, hd =>
          obtain rfl := Option.some.inj ho
          have v0 := eval_old (d := dd) (hT.out 11 (by decide)) (by omega) t11
          refine tbw_yield (v := .int .i64 (k : Int)) (rxoR_ext w.heap.size n c m c' np cp ns cs k A A' Ap As ss vs w1) hT ho hd (wanted_plain rfl) rfl (by decide) (by decide) ?_ (Ext.refl _) rfl
          generalize Act.eval ⟨over Tv U, dd⟩ = ev at *
          simp [execOp, go_sem, v0]
        | 9, ho, hlv, hd =>
          obtain rfl := Option.some.inj ho
          have f0 : U 44 = some (.slice As ns cs) := hT.facts 7 (by decide) (dep hd 7 (by kernel_rfl)) (fun c e => by cases e)
          have v0 : Act.eval ⟨over Tv U, dd⟩ (.tmp 44) = _ := eval_new (t := Tv) (d := dd) f0 (by show 44 < Tv.size; omega)
          have f1 : U 45 = some (.int .i64 (k : Int)) := hT.facts 8 (by decide) (dep hd 8 (by kernel_rfl)) (fun c e => by cases e)
          have v1 : Act.eval ⟨over Tv U, dd⟩ (.tmp 45) = _ := eval_new (t := Tv) (d := dd) f1 (by show 45 < Tv.size; omega)
          refine tbw_yield (v := .slice (moved As cs 0 2) k cs) (rxoR_ext w.heap.size n c m c' np cp ns cs k A A' Ap As ss vs w1) hT ho hd (wanted_plain rfl) rfl (by decide) (by decide) (exec_slice_high Tryz.underlying24 rfl v0 v1 (run_slice_high wz _ _ 2 As ns cs k Tryz.underlying24 Tryz.infoStp (Nat.le_trans hk hnc))) (Ext.refl _) rfl
        | 10, ho, hlv, hd =>
          obtain rfl := Option.some.inj ho
          have l6 := dep hd 6 (by kernel_rfl)
          obtain ⟨b, f0, ho0⟩ := hT.facts 6 (by decide) l6 (fun c e => by cases e; exact hlv)
          have f1 : U 46 = some (.slice (moved As cs 0 2) k cs) := hT.facts 9 (by decide) (dep hd 9 (by kernel_rfl)) (fun c e => by cases e)
          have v1 : Act.eval ⟨over Tv U, dd⟩ (.tmp 46) = _ := eval_new (t := Tv) (d := dd) f1 (by show 46 < Tv.size; omega)
          have v0 : Act.eval ⟨over Tv U, dd⟩ (.tmp 43) = _ := eval_new (t := Tv) (d := dd) f0 (by show 43 < Tv.size; omega)
          have hlen : ((ss.take k).map Rt.scl).length = k := by rw [List.length_map, List.length_take, HNS.out, Nat.min_eq_left hk]
          obtain ⟨v', w', hrun, hown, hgr, -⟩ := run_append_sl (P := Tryz.prog) wz w1.heap.size 24 24 50 i0 (.agg #[.int .i64 0, .int .i64 0]) 2 16 Tryz.underlying24 pi0 pz0 pz1 pz2 rfl (by decide) b (ns - k) _ ho0 (moved As cs 0 2) cs ((ss.take k).map Rt.scl) (HTK.out.ext hx) (scl_len _) (scl_ones _) (by rw [hlen]; unfold maxLen; omega) (by rw [hlen]; omega) hT.ext.size
          rw [hlen] at hown
          rw [hlen] at hrun
          rw [← List.flatten_append, ← List.map_append, Nat.sub_add_cancel hk] at hown
          obtain ⟨A9, c9, rfl⟩ := own_form hown
          obtain ⟨A8, c8, e8, -, -, hs9⟩ := Sl.of_own (scl_len _) (by rw [List.length_map]; exact HROT.out) hown
          rw [List.length_map, HROT.out] at e8
          cases e8
          refine tb_yield (v := _) (w' := w') hT ho hd rfl rfl (by decide) (by decide) (exec_append rfl v0 v1 hrun) (hT.ext.grown hgr (fun q hq => own_ge ho0 q hq)) ⟨(A9, c9), rfl, hs9⟩ ?_
          intro j hj hji hlj hcj hR
          match j, hj, hR with
          | 0, _, hR => exact hR
          | 1, _, hR => exact hR
          | 2, _, _ => exact absurd l6 (by rw [(hcj 6 rfl).2]; decide)
          | 3, _, hR => exact hR
          | 4, _, hR => exact hR
          | 5, _, hR => exact hR
          | 6, _, _ => exact absurd rfl (hcj 10 rfl).1
          | 7, _, hR => exact hR
          | 8, _, hR => exact hR
          | 9, _, hR => exact hR
          | 10, _, _ => exact absurd rfl hji
          | 11, _, _ => exact absurd (dep (hT.shut 11 _ rfl hlj) 10 (by kernel_rfl)) (by rw [hlv]; decide)
          | 12, _, _ => exact absurd (dep (hT.shut 11 _ rfl (dep (hT.shut 12 _ rfl hlj) 11 (by kernel_rfl))) 10 (by kernel_rfl)) (by rw [hlv]; decide)
          | 13, _, _ => exact absurd (dep (hT.shut 11 _ rfl (dep (hT.shut 12 _ rfl (dep (hT.shut 13 _ rfl hlj) 12 (by kernel_rfl))) 11 (by kernel_rfl))) 10 (by kernel_rfl)) (by rw [hlv]; decide)
          | 14, _, _ => exact absurd (dep (hT.shut 11 _ rfl (dep (hT.shut 12 _ rfl (dep (hT.shut 14 _ rfl hlj) 12 (by kernel_rfl))) 11 (by kernel_rfl))) 10 (by kernel_rfl)) (by rw [hlv]; decide)
          | 15, _, _ => exact absurd (dep (hT.shut 11 _ rfl (dep (hT.shut 12 _ rfl (dep (hT.shut 13 _ rfl (dep (hT.shut 15 _ rfl hlj) 13 (by kernel_rfl))) 12 (by kernel_rfl))) 11 (by kernel_rfl))) 10 (by kernel_rfl)) (by rw [hlv]; decide)
          | 16, _, _ => exact absurd (dep (hT.shut 11 _ rfl (dep (hT.shut 12 _ rfl (dep (hT.shut 14 _ rfl (dep (hT.shut 16 _ rfl hlj) 14 (by kernel_rfl))) 12 (by kernel_rfl))) 11 (by kernel_rfl))) 10 (by kernel_rfl)) (by rw [hlv]; decide)
          | j + 17, hj, _ => exact absurd hj (by omega)
        | 11, ho, hlv, hd =>
          obtain rfl := Option.some.inj ho
          have f0 : U 37 = some (.agg #[.slice A n c, .slice A' m c']) := hT.facts 0 (by decide) (dep hd 0 (by kernel_rfl)) (fun c e => by cases e)
          have v0 : Act.eval ⟨over Tv U, dd⟩ (.tmp 37) = _ := eval_new (t := Tv) (d := dd) f0 (by show 37 < Tv.size; omega)
          have f1 : U 38 = some (.slice Ap np cp) := hT.facts 1 (by decide) (dep hd 1 (by kernel_rfl)) (fun c e => by cases e)
          have v1 : Act.eval ⟨over Tv U, dd⟩ (.tmp 38) = _ := eval_new (t := Tv) (d := dd) f1 (by show 38 < Tv.size; omega)
          obtain ⟨⟨A9, c9⟩, f2, hs9⟩ := hT.facts 10 (by decide) (dep hd 10 (by kernel_rfl)) (fun c e => by cases e)
          dsimp only at f2 hs9
          have v2 : Act.eval ⟨over Tv U, dd⟩ (.tmp 47) = _ := eval_new (t := Tv) (d := dd) f2 (by show 47 < Tv.size; omega)
          refine tbw_call (f := 16) (args := #[.agg #[.slice A n c, .slice A' m c'], .slice Ap np cp, .slice A9 ns c9]) (rxoR_ext w.heap.size n c m c' np cp ns cs k A A' Ap As ss vs w1) hT ho hd (wanted_plain rfl) rfl (by decide) (by decide) (exec_call3 rfl rfl v0 v1 v2 ENW.out) ?_
          refine (K2.out A9 c9 wz (H0.out.ext hx) (H0'.out.ext hx) (HP0.out.ext hx) hs9 (HGB.out wz hx)).mono ?_
          rintro e w' ⟨⟨V, rfl, hV, hv⟩, hb⟩
          exact ⟨_, rfl, hb, V, rfl, hV, hv⟩
        | 12, ho, hlv, hd =>
          obtain rfl := Option.some.inj ho
          obtain ⟨W, e0, hW⟩ := hT.facts 11 (by decide) (dep hd 11 (by kernel_rfl)) (fun c e => by cases e)
          have v0 : Act.eval ⟨over Tv U, dd⟩ (.tmp 48) = _ := eval_new (t := Tv) (d := dd) e0 (by show 48 < Tv.size; omega)
          refine tbw_yield (v := .tuple #[W.val, .int .i64 0]) (rxoR_ext w.heap.size n c m c' np cp ns cs k A A' Ap As ss vs w1) hT ho hd (wanted_plain rfl) rfl (by decide) (by decide) ?_ (Ext.refl _) ⟨W, rfl, hW⟩
          generalize Act.eval ⟨over Tv U, dd⟩ = ev at *
          simp [execOp, go_sem, v0]
        | 13, ho, hlv, hd =>
          obtain rfl := Option.some.inj ho
          obtain ⟨W, e0, hW⟩ := hT.facts 12 (by decide) (dep hd 12 (by kernel_rfl)) (fun c e => by cases e)
          have v0 : Act.eval ⟨over Tv U, dd⟩ (.tmp 36) = _ := eval_new (t := Tv) (d := dd) e0 (by show 36 < Tv.size; omega)
          refine tbw_yield (v := W.val) (rxoR_ext w.heap.size n c m c' np cp ns cs k A A' Ap As ss vs w1) hT ho hd (wanted_plain rfl) rfl (by decide) (by decide) ?_ (Ext.refl _) ⟨W, rfl, hW⟩
          generalize Act.eval ⟨over Tv U, dd⟩ = ev at *
          simp [execOp, go_sem, v0]
        | 14, ho, hlv, hd =>
          obtain rfl := Option.some.inj ho
          obtain ⟨W, e0, hW⟩ := hT.facts 12 (by decide) (dep hd 12 (by kernel_rfl)) (fun c e => by cases e)
          have v0 : Act.eval ⟨over Tv U, dd⟩ (.tmp 36) = _ := eval_new (t := Tv) (d := dd) e0 (by show 36 < Tv.size; omega)
          refine tbw_yield (v := .int .i64 0) (rxoR_ext w.heap.size n c m c' np cp ns cs k A A' Ap As ss vs w1) hT ho hd (wanted_plain rfl) rfl (by decide) (by decide) ?_ (Ext.refl _) rfl
          generalize Act.eval ⟨over Tv U, dd⟩ = ev at *
          simp [execOp, go_sem, v0]
        | 15, ho, hlv, hd =>
          obtain rfl := Option.some.inj ho
          obtain ⟨W, e0, hW⟩ := hT.facts 13 (by decide) (dep hd 13 (by kernel_rfl)) (fun c e => by cases e)
          have v0 : Act.eval ⟨over Tv U, dd⟩ (.tmp 49) = _ := eval_new (t := Tv) (d := dd) e0 (by show 49 < Tv.size; omega)
          refine tbw_yield (v := W.val) (rxoR_ext w.heap.size n c m c' np cp ns cs k A A' Ap As ss vs w1) hT ho hd (wanted_plain rfl) rfl (by decide) (by decide) ?_ (Ext.refl _) ⟨W, rfl, hW⟩
          generalize Act.eval ⟨over Tv U, dd⟩ = ev at *
          simp [execOp, go_sem, v0]
        | 16, ho, hlv, hd =>
          obtain rfl := Option.some.inj ho
          have f0 : U 50 = some (.int .i64 0) := hT.facts 14 (by decide) (dep hd 14 (by kernel_rfl)) (fun c e => by cases e)
          have v0 : Act.eval ⟨over Tv U, dd⟩ (.tmp 50) = _ := eval_new (t := Tv) (d := dd) f0 (by show 50 < Tv.size; omega)
          refine tbw_yield (v := .int .i64 0) (rxoR_ext w.heap.size n c m c' np cp ns cs k A A' Ap As ss vs w1) hT ho hd (wanted_plain rfl) rfl (by decide) (by decide) ?_ (Ext.refl _) rfl
          generalize Act.eval ⟨over Tv U, dd⟩ = ev at *
          simp [execOp, go_sem, v0]
        | i + 17, ho, _, _ => exact absurd ho (by simp)
      intro U wz hex hout hfin
      obtain ⟨W12, f12, hW12⟩ := hfin 15 (by decide) rfl
      change U 12 = _ at f12
      have f10 : U 10 = some (.int .i64 0) := hfin 16 (by decide) rfl
      have XE := Lib.hid hex
      clear hex hfin
      rw [over_list]
      simp (disch := decide) only [overL, Nat.reduceAdd, hout, Option.getD_none]
      rw [f12, f10]
      simp only [Option.getD_some]
      clear hout f12 f10
      obtain ⟨hU, hu⟩ := hW12
      have H_3 := Lib.hid (H_2.out.ext XE.out)
      have H'_3 := Lib.hid (H'_2.out.ext XE.out)
      have HP_3 := Lib.hid (HP_2.out.ext XE.out)
      have HS_3 := Lib.hid (HS_2.out.ext XE.out)
      have B_3 := Lib.hid (XE.out.blockAt B_2.out)
      have V_3 := Lib.hid (V_2.out.ext XE.out)
      clear H_2 H'_2 HP_2 HS_2 B_2 V_2
      have X_3 := Lib.hid (X_2.out.trans XE.out)
      clear X_2
      have U_3 := Lib.hid (hU)
      have HU1 := Lib.hid hu
      clear hu hU
      obtain ⟨U', hU'⟩ : ∃ q, W12 = q := ⟨_, rfl⟩
      subst hU'
      obtain ⟨qU, hqU⟩ : ∃ q, W12.val = q := ⟨_, rfl⟩
      have HQU := Lib.hid hqU
      rw [hqU]
      clear hqU
      clear HB H0 H0' HP0 HDR HTK HGB K2 XE
      go_wp2_with (first | (refine wpList_load_row_w rfl _ _ rfl w.heap.size rfl _ #[.slice A n c, .slice A' m c'] _ _ B_3.out Tryz.underlying36 rfl (by kernel_rfl) ?_))
      with_reducible refine (K3.out _ H_3.out H'_3.out HP_3.out (HG.out _ X_3.out)).mono ?_
      rintro e w2 ⟨⟨P3, rfl, hP3, hp3⟩, hb⟩
      have H_4 := Lib.hid (H_3.out.ext hb)
      have H'_4 := Lib.hid (H'_3.out.ext hb)
      have HP_4 := Lib.hid (HP_3.out.ext hb)
      have HS_4 := Lib.hid (HS_3.out.ext hb)
      have B_4 := Lib.hid (hb.blockAt B_3.out)
      have V_4 := Lib.hid (V_3.out.ext hb)
      have U_4 := Lib.hid (U_3.out.ext hb)
      clear H_3 H'_3 HP_3 HS_3 B_3 V_3 U_3
      have X_4 := Lib.hid (X_3.out.trans hb)
      clear X_3
      have P3_4 := Lib.hid (hP3)
      clear hb hP3
      have HP3 := Lib.hid hp3
      clear hp3
      obtain ⟨qP3, hqP3⟩ : ∃ q, P3.val = q := ⟨_, rfl⟩
      have HQP3 := Lib.hid hqP3
      rw [hqP3]
      clear hqP3
      go_wp2_with (first | (refine wpList_load_row_w rfl _ _ rfl w.heap.size rfl _ #[.slice A n c, .slice A' m c'] _ _ B_4.out Tryz.underlying36 rfl (by kernel_rfl) ?_))
      with_reducible refine (K4.out _ H_4.out H'_4.out).mono ?_
      rintro e w3 ⟨⟨Q3, rfl, hQ3, hq3⟩, hb⟩
      have H_5 := Lib.hid (H_4.out.ext hb)
      have H'_5 := Lib.hid (H'_4.out.ext hb)
      have HP_5 := Lib.hid (HP_4.out.ext hb)
      have HS_5 := Lib.hid (HS_4.out.ext hb)
      have B_5 := Lib.hid (hb.blockAt B_4.out)
      have V_5 := Lib.hid (V_4.out.ext hb)
      have U_5 := Lib.hid (U_4.out.ext hb)
      have P3_5 := Lib.hid (P3_4.out.ext hb)
      clear H_4 H'_4 HP_4 HS_4 B_4 V_4 U_4 P3_4
      have X_5 := Lib.hid (X_4.out.trans hb)
      clear X_4
      have Q3_5 := Lib.hid (hQ3)
      clear hb hQ3
      have HQ3 := Lib.hid hq3
      clear hq3
      obtain ⟨qQ3, hqQ3⟩ : ∃ q, Q3.val = q := ⟨_, rfl⟩
      have HQQ3 := Lib.hid hqQ3
      rw [hqQ3]
      clear hqQ3
      have KE := Lib.hid (wequal_eq V W12 (HV1.out.trans HU1.out.symm) _ V_5.out U_5.out)
      rw [HQV.out, HQU.out] at KE
      go_wp2_with fail
      with_reducible refine (KE.out).mono ?_
      rintro e w4 ⟨rfl, hb⟩
      have H_6 := Lib.hid (H_5.out.ext hb)
      have H'_6 := Lib.hid (H'_5.out.ext hb)
      have HP_6 := Lib.hid (HP_5.out.ext hb)
      have HS_6 := Lib.hid (HS_5.out.ext hb)
      have B_6 := Lib.hid (hb.blockAt B_5.out)
      have V_6 := Lib.hid (V_5.out.ext hb)
      have U_6 := Lib.hid (U_5.out.ext hb)
      have P3_6 := Lib.hid (P3_5.out.ext hb)
      have Q3_6 := Lib.hid (Q3_5.out.ext hb)
      clear H_5 H'_5 HP_5 HS_5 B_5 V_5 U_5 P3_5 Q3_5
      have X_6 := Lib.hid (X_5.out.trans hb)
      clear X_5
      clear hb
      have KF := Lib.hid (wequal_eq P3 Q3 (HP3.out.trans HQ3.out.symm) _ P3_6.out Q3_6.out)
      rw [HQP3.out, HQQ3.out] at KF
      go_wp2_with fail
      with_reducible refine (KF.out).mono ?_
      rintro e w5 ⟨rfl, hb⟩
      have H_7 := Lib.hid (H_6.out.ext hb)
      have H'_7 := Lib.hid (H'_6.out.ext hb)
      have HP_7 := Lib.hid (HP_6.out.ext hb)
      have HS_7 := Lib.hid (HS_6.out.ext hb)
      have B_7 := Lib.hid (hb.blockAt B_6.out)
      have V_7 := Lib.hid (V_6.out.ext hb)
      have U_7 := Lib.hid (U_6.out.ext hb)
      have P3_7 := Lib.hid (P3_6.out.ext hb)
      have Q3_7 := Lib.hid (Q3_6.out.ext hb)
      clear H_6 H'_6 HP_6 HS_6 B_6 V_6 U_6 P3_6 Q3_6
      have X_7 := Lib.hid (X_6.out.trans hb)
      clear X_6
      clear hb
      go_wp2_with fail
      with_reducible refine (awake_any w5 (fun w' he => HG.out _ (X_7.out.trans he))).mono ?_
      rintro e w6 ⟨rfl, hb⟩
      have XL := Lib.hid (X_7.out.trans hb)
      clear hb
      go_wp2
      go_ret
      exact ⟨rfl, XL.out⟩
  · have t0 : (er != 0) = true := by rw [bne_iff_ne]; exact h0
    go_wp2_with fail
    with_reducible refine (awake_any w1 (fun w' he => HG.out _ (X_2.out.trans he))).mono ?_
    rintro e w2 ⟨rfl, hb⟩
    have XL := Lib.hid (X_2.out.trans hb)
    clear hb
    go_wp2
    go_ret
    exact ⟨rfl, XL.out⟩
theorem rescoreOrder_laid (os : Os) : laidMet Tryz.prog Rows.rescoreOrderRow.laid ((laidW os).forCall (fun _ _ => 0) ⟨#[], #[.agg #[.slice none 0 0, .slice none 0 0], .slice none 0 0, .slice none 0 0, .int .u8 0], []⟩).memory :=
  laidMet_of_run' 8 (by kernel_rfl) (by kernel_rfl)
theorem rescoreOrder_reads (os : Os) {H : Type} (enc : TypeId × Value → H) : ∃ places, DataW.whole enc Tryz.prog ((laidW os).forCall (fun _ _ => 0) ⟨#[], #[.agg #[.slice none 0 0, .slice none 0 0], .slice none 0 0, .slice none 0 0, .int .u8 0], []⟩).memory Tryz.f8.params.toList Rows.rescoreOrderSpec.vars false (#[.agg #[.slice none 0 0, .slice none 0 0], .slice none 0 0, .slice none 0 0, .int .u8 0] : Array Value).toList 8 = some ([.agg [.nil, .nil], .nil, .nil, .lit (.int .u8 0)], [], places) :=
  ⟨[], by kernel_rfl⟩
set_option maxRecDepth 100000 in
theorem rescoreOrder_lifted (os : Os) (started : os.Started) (H : Type) (enc : TypeId × Value → H) (F : Stop.Interp) :
    ReturnsInHanded {} Tryz.checked os 8 .any ((OpenSpec.ofChange Rows.rescoreOrderSpec).preRow enc Tryz.prog Tryz.f8 Rows.rescoreOrderRow.domain false Rows.rescoreOrderRow.laid) (((OpenSpec.ofChange Rows.rescoreOrderSpec).at F).post enc Tryz.prog Tryz.f8 false true false false) := by
  obtain ⟨places, hx⟩ := rescoreOrder_reads os enc
  refine returnsInHanded_of_row (C := Tryz.checked) (s := (OpenSpec.ofChange Rows.rescoreOrderSpec)) Tryz.own started (by kernel_rfl) Tryz.func8
    (witness_row_at (enc := enc) (C := Tryz.checked) false (laidW os) #[.agg #[.slice none 0 0, .slice none 0 0], .slice none 0 0, .slice none 0 0, .int .u8 0] rfl (by kernel_rfl) (by kernel_rfl) (by kernel_rfl)
      (OpenSpec.preRow_of_cond 8 hx (by kernel_rfl) (fun k hk => by cases hk) (by kernel_rfl) (rescoreOrder_laid os))) ?_
  intro W base args ds gs before hval0 hW _ hcond hsz0 hL hsh _
  have hval : ∀ (j : Nat) t v, Tryz.f8.params[j]? = some t → args[j]? = some v → Value.okWide Tryz.prog W .any base t v := hval0
  have hW' : DataW.Whole enc Tryz.prog Tryz.f8.params.toList Rows.rescoreOrderSpec.vars false W args.toList ds gs before := hW
  have hW2 := hW'
  obtain ⟨p, q, hA0, hV, rfl, hfz, hnd⟩ := hW2
  have hA : DataW.TrodAll enc Tryz.prog W 0 (fun _ => true) true Tryz.f8.params.toList args.toList ds p := hA0
  rw [Tryz.params8] at hA hval
  obtain ⟨v0, vs0, d0, ds0, p0, q0, hargs, rfl, rfl, h0, r0⟩ := trodAll_cons hA
  obtain ⟨v1, vs1, d1, ds1, p1, q1, rfl, rfl, rfl, h1, r1⟩ := trodAll_cons r0
  obtain ⟨v2, vs2, d2, ds2, p2, q2, rfl, rfl, rfl, h2, r2⟩ := trodAll_cons r1
  obtain ⟨v3, vs3, d3, ds3, p3, q3, rfl, rfl, rfl, h3, r3⟩ := trodAll_cons r2
  obtain ⟨rfl, rfl, rfl⟩ := trodAll_nil r3
  obtain rfl : args = #[v0, v1, v2, v3] := by cases args; simp_all
  obtain ⟨rfl, rfl⟩ := trodVars_none hV
  obtain ⟨mx, hmx⟩ := Go.Proofs.cell_of_shapedOpen_int (g := 0) (zero := #[.int .i64 0]) (t := 3) hsh (by decide +kernel) (by kernel_rfl) (by decide) (by kernel_rfl) (by kernel_rfl) Tryz.underlying3
  have hsz : (DataW.weightsEach Tryz.prog (Tryz.f8.params.toList ++ Rows.rescoreOrderSpec.plain.varTypes Tryz.prog) _).all (· ≤ reachBytes) = true := hsz0
  rw [Tryz.params8] at hsz
  obtain ⟨gx, gy, rfl, hgx, hgy⟩ := grid_open (hval 0 36 v0 rfl rfl) h0
  obtain ⟨gA, gc, gl⟩ := gx
  obtain ⟨gA2, gc2, gl2⟩ := gy
  have w_1 : gl.length ≤ 9223372036854775807 := Nat.le_trans hgx.2.1 (Nat.le_trans hgx.2.2.1 (by decide))
  have w_2 : gl2.length ≤ 9223372036854775807 := Nat.le_trans hgy.2.1 (Nat.le_trans hgy.2.2.1 (by decide))
  obtain ⟨A_1, c_1, l_1, rfl, s_1, k_1, -, y_1⟩ := pool_open (hval 1 37 v1 rfl rfl) h1 (light_arg hsz (j := 1) rfl rfl)
  have b_1 : l_1.length ≤ 9223372036854775807 := by omega
  obtain ⟨A_2, c_2, l_2, rfl, s_2, -, k_2, -, y_2⟩ := steps_open (hval 2 24 v2 rfl rfl) h2 (light_arg hsz (j := 2) rfl rfl)
  have b_2 : l_2.length ≤ 9223372036854775807 := by omega
  obtain ⟨at_, rfl, hd0, -, hat⟩ := open_int Tryz.underlying5 (hval 3 5 v3 rfl rfl) h3
  refine (rescoreOrder_walk gA gc gA2 gc2 gl gl2 rfl rfl A_1 c_1 l_1 rfl A_2 c_2 l_2 rfl at_ (Rw.u8_of hat) k_2 (by omega) W hgx.1 hgy.1 s_1 s_2 w_1 w_2 b_1 b_2 ⟨mx, hmx⟩).mono fun e W' ⟨he, hw⟩ => ?_
  subst he
  exact ⟨_, rfl, law_post (s := Rows.rescoreOrderSpec) hW' Tryz.laidOut (by kernel_rfl) rfl (by rfl) rfl Tryz.underlying4 hw⟩

theorem rescoreOrder_holds : Rows.RescoreOrderSaid :=
  OpenClaim.holds_of_cond 8 Tryz.f8 rfl rfl rfl rfl rfl rfl rfl ⟨rfl, rfl, rfl, rfl, rfl⟩ rfl rfl rfl rfl rfl (by kernel_rfl) Tryz.func8 (by kernel_rfl)
    (of_decide_eq_true (by kernel_rfl)) (by unfold Func.isWrapper; first | (rw [if_pos (by decide +kernel)]; kernel_rfl) | (rw [if_neg (by decide +kernel)]; exact ⟨rfl, rfl⟩))
    (fun os started H enc _ F => by rw [OpenClaim.pre_eq_preRow]; exact rescoreOrder_lifted os started H enc F)
theorem rescoreOrder_card : Rows.RescoreOrderCardSaid :=
  Claim7.holds_tied_plain_at .later [] _ _ _ _
    rescoreOrder_holds (fun _ h => by cases h) (by kernel_rfl) (fun _ h => by cases h) rescoreOrder_row_tie rfl ⟨rfl, rfl⟩ (by kernel_rfl) rfl
    (fun f fn hf hfn => by
      obtain rfl : f = 8 := Option.some.inj ((show Tryz.prog.funcNamed Rows.rescoreOrderRow.func = some 8 by kernel_rfl).symm.trans hf) |>.symm
      obtain rfl : fn = Tryz.f8 := (Option.some.inj (Tryz.func8.symm.trans hfn)).symm
      exact ⟨by kernel_rfl, fun j t ht => by
        rw [Tryz.params8] at ht
        have hm : t ∈ [36, 37, 24, 5] := by simpa using Array.mem_of_getElem? ht
        have hall : ([36, 37, 24, 5].all fun u => !Tryz.prog.wantsStandIn u) = true := by kernel_rfl
        exact (show Tryz.prog.wantsStandIn t = false by simpa using List.all_eq_true.1 hall t hm)⟩)
    (by kernel_rfl)
#print axioms rescoreOrder_card
end Go.Proofs.YtgaepmddbjdhfaaGreatDoor
