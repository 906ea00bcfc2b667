/- The score of an answer, in the reference: a contract. Conditions: those of each theorem. -/
import Derived.Test.YtgaepmddbjdhfaaGreatDoorP20
import Derived.Test.YtgaepmddbjdhfaaGreatDoorP21
import Derived.Test.YtgaepmddbjdhfaaGreatDoorP26
namespace Go.Proofs.YtgaepmddbjdhfaaGreatDoor
open Go.ChangeShapes Go.WideShapes Go.ChangeAt Go.RowKit
theorem mono_sls (n : Nat) (l : List ByteArray) : Mono (fun u w => ∃ (A : Option Addr) (c : Nat), u = some (.slice A n c) ∧ SlS w A l) := fun _ _ _ he ⟨A, c, e, h⟩ => ⟨A, c, e, h.ext he⟩
/-- What each operation of the region leaves. -/
def rjL (g bx ox by1 oy mc lc : Nat) (CA : Array Value) (x y p : Int) (q : Bool) : List (Option Value → World → Prop) := [fun u _ => u = some (.agg CA),
  fun u _ => u = some (.pointer (some ⟨g + 1, 1, none⟩)),
  fun u _ => u = some (.slice (some ⟨bx, ox, none⟩) 1 mc),
  fun u _ => u = some (.pointer (some ⟨bx, ox, none⟩)),
  fun u _ => u = some (.int .i64 x),
  fun u _ => u = some (.pointer (some ⟨g, 5, none⟩)),
  fun u _ => u = some (.slice (some ⟨by1, oy, none⟩) 1 lc),
  fun u _ => u = some (.pointer (some ⟨by1, oy, none⟩)),
  fun u _ => u = some (.int .i64 y),
  fun u _ => u = some (.bool q),
  fun u _ => u = some (.int .i64 p),
  fun u _ => u = some (.int .i64 p),
  fun u _ => u = some (.int .i64 0)]
theorem rjL_mono (g bx ox by1 oy mc lc : Nat) (CA : Array Value) (x y p : Int) (q : Bool) : AllMono (rjL g bx ox by1 oy mc lc CA x y p q) := ⟨mono_val _, mono_val _, mono_val _, mono_val _, mono_val _, mono_val _, mono_val _, mono_val _, mono_val _, mono_val _, mono_val _, mono_val _, mono_val _, trivial⟩
def rjR (g bx ox by1 oy mc lc : Nat) (CA : Array Value) (x y p : Int) (q : Bool) (j : Nat) (u : Option Value) (w : World) : Prop := (rjL g bx ox by1 oy mc lc CA x y p q).getD j (fun _ _ => True) u w
theorem rjR_ext (g bx ox by1 oy mc lc : Nat) (CA : Array Value) (x y p : Int) (q : Bool) (j : Nat) (u : Option Value) (w w' : World) (he : Ext w w') (h : rjR g bx ox by1 oy mc lc CA x y p q j u w) : rjR g bx ox by1 oy mc lc CA x y p q j u w' := ((rjL_mono g bx ox by1 oy mc lc CA x y p q).at_ j) u w w' he h
def rjD : List Nat := [24, 25, 26, 27, 28, 29, 30, 31, 32, 33, 34, 4, 5]
def rjE (g : Nat) (t : Array Value) : Prop := t.getD 2 undef = .pointer (some ⟨g, 0, none⟩) ∧ t.getD 3 undef = .pointer (some ⟨g + 1, 0, none⟩) ∧ t.size = 84
theorem ryes_to (it : It.Item) (L : It.Loc) (q : Bool) {v : Int} (hv : (if q = true then it.pts else 0) = v) (w : World) :
    Calls Tryz.prog 57 #[It.agg it L, .bool q] w fun e w' => e = .returned (.int .i64 v) ∧ Ext w w' := by subst hv; exact ryes_any it L q w
set_option maxRecDepth 100000 in
set_option maxHeartbeats 64000000 in
theorem rscore_any (it : It.Item) (L : It.Loc) (a : Rs.Ans) (M : Rs.ALoc) (w : World) (h : It.In w it L) (ha : a.In w M) :
    Calls Tryz.prog 29 #[It.agg it L, a.agg M] w fun e w' => e = .returned (.tuple #[.int .i64 (Rs.sc it a), .int .i64 (Rs.scE it a)]) ∧ Ext w w' := by
  obtain ⟨CA, hca, hna, -, hka⟩ := rs_packed it L
  obtain ⟨CB, hcb, hnb, -, hkb⟩ := Rs.Ans.packed a M
  have HV := Lib.hid (rvalid40_any it L a M)
  have HM2 := Lib.hid (fun (n m : Nat) (hn : a.chs.length = n) (hm : it.chs.length = m) => rmulti_any it L M.1 M.2 a.chs hn hm)
  have HO2 := Lib.hid (fun (n m : Nat) (hn : a.chs.length = n) (hm : it.chs.length = m) => rorder_any it L M.1 M.2 a.chs hn hm)
  have HY2 := Lib.hid (fun (q : Bool) (v : Int) (hv : (if q = true then it.pts else 0) = v) => ryes_to it L q hv)
  rw [hca] at HM2 HO2 HY2
  rw [hca, hcb] at HV
  rw [hca, hcb]
  have ja2 : CA[2]? = some (.int .i64 it.kind) := by rw [← hka]; rfl
  have ja5 : CA[5]? = some (.slice L.cA it.chs.length L.cc) := by rw [← hka]; rfl
  have ja6 : CA[6]? = some (.int .i64 it.value) := by rw [← hka]; rfl
  have ja7 : CA[7]? = some (.int .i64 it.tol) := by rw [← hka]; rfl
  have ja8 : CA[8]? = some (.slice L.tA it.texts.length L.tc) := by rw [← hka]; rfl
  have ja9 : CA[9]? = some (.int .i64 it.pts) := by rw [← hka]; rfl
  have jb1 : CB[1]? = some (.slice M.1 a.chs.length M.2) := by rw [← hkb]; rfl
  have jb2 : CB[2]? = some (.int .i64 a.val) := by rw [← hkb]; rfl
  have jb3 : CB[3]? = some (.string a.text) := by rw [← hkb]; rfl
  have jb4 : CB[4]? = some (.bool a.om) := by rw [← hkb]; rfl
  have JA := Lib.hid (And.intro ja2 (And.intro ja5 (And.intro ja6 (And.intro ja7 (And.intro ja8 ja9)))))
  have JB := Lib.hid (And.intro jb1 (And.intro jb2 (And.intro jb3 jb4)))
  clear ja2 ja5 ja6 ja7 ja8 ja9 jb1 jb2 jb3 jb4
  have HI := Lib.hid h
  have HA := Lib.hid ha
  have IA := Lib.hid (rs_infoItem hna)
  have IB := Lib.hid (rs_infoAns hnb)
  have HCL : Hid (SlI w L.cA it.chs) := Lib.hid h.c
  have HTL : Hid (SlS w L.tA it.texts) := Lib.hid h.t
  have HSL : Hid (SlI w M.1 a.chs) := Lib.hid ha.c
  clear hca hcb hna hnb hka hkb h ha
  obtain ⟨er, her⟩ : ∃ er, Rs.vla it a = er := ⟨_, rfl⟩
  rw [her] at HV
  obtain ⟨sv, hv1⟩ : ∃ v, Rs.sc it a = v := ⟨_, rfl⟩
  obtain ⟨v2, hv2⟩ : ∃ v, Rs.scE it a = v := ⟨_, rfl⟩
  rw [hv1, hv2]
  have HE := Lib.hid her
  have HV1 := Lib.hid hv1
  have HV2 := Lib.hid hv2
  clear her hv1 hv2
  have ENY := Lib.hid (enters_of Tryz.func57 (by kernel_rfl) rfl)
  go_enter Tryz.func29, Tryz.ntmps29
  go_wp2_with (first
    | (with_reducible refine wpList_load_row rfl 55 (.tmp 2) rfl w.heap.size (by with_unfolding_all rfl) _ CA _ _ (two_fst _ _ _) Tryz.underlying55 rfl IA.out ?_)
    | (with_reducible refine wpList_load_row rfl 64 (.tmp 3) rfl (w.heap.size + 1) (by with_unfolding_all rfl) _ CB _ _ (two_snd _ _ _) Tryz.underlying64 rfl IB.out ?_))
  have X0 := ((Ext.refl w).alloc (.cells CA 55)).alloc (.cells CB 64)
  with_reducible refine (HV.out _ (HI.out.ext X0) (HA.out.ext X0)).mono ?_
  rintro e w1 ⟨rfl, hb1⟩
  have A1 := hb1.blockAt (two_fst w (.cells CA 55) (.cells CB 64))
  have B1 := hb1.blockAt (two_snd w (.cells CA 55) (.cells CB 64))
  have a2 : w1.cell? ⟨w.heap.size, 2, none⟩ = some (.int .i64 it.kind) := (cell_of_row _ _ 2 _ _ _ A1).trans JA.out.1
  have a5 : w1.cell? ⟨w.heap.size, 5, none⟩ = some (.slice L.cA it.chs.length L.cc) := (cell_of_row _ _ 5 _ _ _ A1).trans JA.out.2.1
  have a6 : w1.cell? ⟨w.heap.size, 6, none⟩ = some (.int .i64 it.value) := (cell_of_row _ _ 6 _ _ _ A1).trans JA.out.2.2.1
  have a7 : w1.cell? ⟨w.heap.size, 7, none⟩ = some (.int .i64 it.tol) := (cell_of_row _ _ 7 _ _ _ A1).trans JA.out.2.2.2.1
  have a8 : w1.cell? ⟨w.heap.size, 8, none⟩ = some (.slice L.tA it.texts.length L.tc) := (cell_of_row _ _ 8 _ _ _ A1).trans JA.out.2.2.2.2.1
  have a9 : w1.cell? ⟨w.heap.size, 9, none⟩ = some (.int .i64 it.pts) := (cell_of_row _ _ 9 _ _ _ A1).trans JA.out.2.2.2.2.2
  have b1 : w1.cell? ⟨w.heap.size + 1, 1, none⟩ = some (.slice M.1 a.chs.length M.2) := (cell_of_row _ _ 1 _ _ _ B1).trans JB.out.1
  have b2 : w1.cell? ⟨w.heap.size + 1, 2, none⟩ = some (.int .i64 a.val) := (cell_of_row _ _ 2 _ _ _ B1).trans JB.out.2.1
  have b3 : w1.cell? ⟨w.heap.size + 1, 3, none⟩ = some (.string a.text) := (cell_of_row _ _ 3 _ _ _ B1).trans JB.out.2.2.1
  have b4 : w1.cell? ⟨w.heap.size + 1, 4, none⟩ = some (.bool a.om) := (cell_of_row _ _ 4 _ _ _ B1).trans JB.out.2.2.2
  have X1 := Lib.hid (X0.trans hb1)
  have BA := Lib.hid A1
  clear hb1 X0 A1 B1 HV
  by_cases he : er = 0
  case neg =>
    have t0 : (er != 0) = true := by rw [bne_iff_ne]; exact he
    have HF2 : Hid (v2 = er) := Lib.hid (by rw [← HV2.out, Rs.scE_bad (by rw [HE.out]; exact he), HE.out])
    have HF1 : Hid (sv = 0) := Lib.hid (by rw [← HV1.out, Rs.sc_bad (by rw [HV2.out, HF2.out]; exact he)])
    clear he
    go_wp2
    go_ret2
    exact ⟨ret_two HF1.out.symm HF2.out.symm, X1.out⟩
  have t0 : (er != 0) = false := by rw [he]; rfl
  have HZ : Hid (Rs.vla it a = 0) := Lib.hid (by rw [HE.out]; exact he)
  clear he
  have HVLD : Hid (It.vld it = 0) := Lib.hid (Rs.vla_vld HZ.out).1
  obtain ⟨kd, hkd⟩ : ∃ kd, it.kind = kd := ⟨_, rfl⟩
  have hk : kd = 1 ∨ kd = 2 ∨ kd = 3 ∨ kd = 4 ∨ kd = 5 ∨ kd = 6 := by rw [← hkd]; exact Rs.vld_kind HVLD.out
  rw [hkd] at a2
  have HKD := Lib.hid hkd
  clear hkd
  obtain ⟨om, hom⟩ : ∃ q, a.om = q := ⟨_, rfl⟩
  rw [hom] at b4
  have HOM := Lib.hid hom
  clear hom
  by_cases h6 : kd = 6
  · subst h6
    have HF2 : Hid (v2 = 8) := Lib.hid (by rw [← HV2.out, Rs.scE_6 HZ.out HKD.out])
    have HF1 : Hid (sv = 0) := Lib.hid (by rw [← HV1.out, Rs.sc_bad (by rw [HV2.out, HF2.out]; decide)])
    go_wp2
    go_ret2
    exact ⟨ret_two HF1.out.symm HF2.out.symm, X1.out⟩
  have HF2 : Hid (v2 = 0) := Lib.hid (by rw [← HV2.out, Rs.scE_0 HZ.out (by rw [HKD.out]; exact h6)])
  have HC : Hid (sv = Rs.cat it a) := Lib.hid (by rw [← HV1.out, Rs.sc_0 (HV2.out.trans HF2.out)])
  have t6 : (kd == 6) = false := by rw [beq_eq_false_iff_ne]; exact h6
  cases om with
  | true =>
    have HF1 : Hid (sv = 0) := Lib.hid (by rw [HC.out, Rs.cat_om HOM.out])
    clear hk
    go_wp2
    go_ret2
    exact ⟨ret_two HF1.out.symm HF2.out.symm, X1.out⟩
  | false =>
    obtain ⟨hp1, hp2⟩ := (Rs.vld_key HVLD.out).2
    have hsm := It.vld_small HVLD.out
    obtain ⟨sm1, sm2, sm3, sm4⟩ := hsm
    rcases hk with rfl | rfl | rfl | rfl | rfl | rfl
    · -- one choice
      have hl1 := Rs.ans_1 HZ.out HKD.out HOM.out
      have hk1 := Rs.key_1 HVLD.out HKD.out
      obtain ⟨x, hx⟩ : ∃ x, a.chs = [x] := List.length_eq_one_iff.1 hl1
      obtain ⟨y, hy⟩ : ∃ y, it.chs = [y] := List.length_eq_one_iff.1 hk1
      have HC1 := Lib.hid (Rs.cat_1 HOM.out HKD.out hx hy)
      rw [hl1] at b1
      rw [hk1] at a5
      have hs1 := HSL.out.ext X1.out
      have hs2 := HCL.out.ext X1.out
      rw [hx] at hs1
      rw [hy] at hs2
      obtain ⟨bx, ox, x', hA1, -, hx1, cx⟩ := hs1.at_ (i := 0) (by simp)
      obtain ⟨by1, oy, y', hA2, -, hy1, cy⟩ := hs2.at_ (i := 0) (by simp)
      obtain rfl : x = x' := by simpa using hx1
      obtain rfl : y = y' := by simpa using hy1
      rw [hA1] at b1
      rw [hA2] at a5
      rw [Nat.add_zero] at cx cy
      clear hs1 hs2 hx1 hy1 hA1 hA2 hx hy hl1 hk1
      obtain ⟨q, hq⟩ : ∃ q, (x == y) = q := ⟨_, rfl⟩
      have HQ := Lib.hid hq
      have HF1 : Hid ((if q = true then it.pts else 0) = sv) := Lib.hid (by rw [HC.out, HC1.out, ← hq]; simp)
      clear hq
      have HB1 := Lib.hid b1
      have HA5 := Lib.hid a5
      have HCX := Lib.hid cx
      have HCY := Lib.hid cy
      clear a5 a6 a7 a8 a9 b1 b2 b3 cx cy
      go_wp2_with fail
      refine region_tb (by kernel_rfl) (by decide +kernel) (rjE w.heap.size) ⟨rfl, rfl, rfl⟩ 13 rjD (fun _ => none) (rjR w.heap.size bx ox by1 oy M.2 L.cc CA x y sv q) w1 (Ext.refl _) (fun i h1 h2 => absurd h2 (Nat.not_lt.2 h1)) ?_ ?_
      · intro Tv dd lv U wz i o hE ho hlv hd hT
        obtain ⟨t2, t3, tz⟩ := hE
        have hx := hT.ext
        match i, ho, hlv, hd with
        | 0, ho, hlv, hd =>
          obtain rfl := Option.some.inj ho
          have vb := eval_old (d := dd) (hT.out 2 (by decide)) (by omega) t2
          refine tbw_yield (v := .agg CA) (rjR_ext w.heap.size bx ox by1 oy M.2 L.cc CA x y sv q) hT ho hd (wanted_plain rfl) rfl (by decide) (by decide) (exec_load_row _ _ rfl w.heap.size vb _ _ _ _ (hx.blockAt BA.out) Tryz.underlying55 rfl IA.out) (Ext.refl _) rfl
        | 1, ho, hlv, hd =>
          obtain rfl := Option.some.inj ho
          have v0 := eval_old (d := dd) (hT.out 3 (by decide)) (by omega) t3
          refine tb_pure (v := .pointer (some ⟨w.heap.size + 1, 1, none⟩)) hT ho hd rfl rfl (by decide) (by decide) ?_ rfl
          generalize Act.eval ⟨over Tv U, dd⟩ = ev at *
          simp [execOp, go_sem, v0]
        | 2, ho, hlv, hd =>
          obtain rfl := Option.some.inj ho
          have f0 : U 25 = some (.pointer (some ⟨w.heap.size + 1, 1, none⟩)) := hT.facts 1 (by decide) (dep hd 1 (by kernel_rfl)) (fun c e => by cases e)
          have v0 : Act.eval ⟨over Tv U, dd⟩ (.tmp 25) = _ := eval_new (t := Tv) (d := dd) f0 (by show 25 < Tv.size; omega)
          have hc := hx.keep HB1.out
          refine tb_pure (v := .slice (some ⟨bx, ox, none⟩) 1 M.2) hT ho hd rfl rfl (by decide) (by decide) ?_ rfl
          generalize Act.eval ⟨over Tv U, dd⟩ = ev at *
          simp [execOp, go_sem, v0, hc]
        | 3, ho, hlv, hd =>
          obtain rfl := Option.some.inj ho
          have f0 : U 26 = some (.slice (some ⟨bx, ox, none⟩) 1 M.2) := hT.facts 2 (by decide) (dep hd 2 (by kernel_rfl)) (fun c e => by cases e)
          have v0 : Act.eval ⟨over Tv U, dd⟩ (.tmp 26) = _ := eval_new (t := Tv) (d := dd) f0 (by show 26 < Tv.size; omega)
          have w0 : Act.eval ⟨over Tv U, dd⟩ (.const (.int .i64 0)) = .int .i64 0 := rfl
          refine tb_pure (v := .pointer (some ⟨bx, ox, none⟩)) hT ho hd rfl rfl (by decide) (by decide) ?_ rfl
          generalize Act.eval ⟨over Tv U, dd⟩ = ev at *
          simp [execOp, go_sem, v0, w0]
        | 4, ho, hlv, hd =>
          obtain rfl := Option.some.inj ho
          have f0 : U 27 = some (.pointer (some ⟨bx, ox, none⟩)) := hT.facts 3 (by decide) (dep hd 3 (by kernel_rfl)) (fun c e => by cases e)
          have v0 : Act.eval ⟨over Tv U, dd⟩ (.tmp 27) = _ := eval_new (t := Tv) (d := dd) f0 (by show 27 < Tv.size; omega)
          have hc := hx.keep HCX.out
          refine tb_pure (v := .int .i64 x) hT ho hd rfl rfl (by decide) (by decide) ?_ rfl
          generalize Act.eval ⟨over Tv U, dd⟩ = ev at *
          simp [execOp, go_sem, v0, hc]
        | 5, ho, hlv, hd =>
          obtain rfl := Option.some.inj ho
          have v0 := eval_old (d := dd) (hT.out 2 (by decide)) (by omega) t2
          refine tb_pure (v := .pointer (some ⟨w.heap.size, 5, none⟩)) hT ho hd rfl rfl (by decide) (by decide) ?_ rfl
          generalize Act.eval ⟨over Tv U, dd⟩ = ev at *
          simp [execOp, go_sem, v0]
        | 6, ho, hlv, hd =>
          obtain rfl := Option.some.inj ho
          have f0 : U 29 = some (.pointer (some ⟨w.heap.size, 5, none⟩)) := hT.facts 5 (by decide) (dep hd 5 (by kernel_rfl)) (fun c e => by cases e)
          have v0 : Act.eval ⟨over Tv U, dd⟩ (.tmp 29) = _ := eval_new (t := Tv) (d := dd) f0 (by show 29 < Tv.size; omega)
          have hc := hx.keep HA5.out
          refine tb_pure (v := .slice (some ⟨by1, oy, none⟩) 1 L.cc) hT ho hd rfl rfl (by decide) (by decide) ?_ rfl
          generalize Act.eval ⟨over Tv U, dd⟩ = ev at *
          simp [execOp, go_sem, v0, hc]
        | 7, ho, hlv, hd =>
          obtain rfl := Option.some.inj ho
          have f0 : U 30 = some (.slice (some ⟨by1, oy, none⟩) 1 L.cc) := hT.facts 6 (by decide) (dep hd 6 (by kernel_rfl)) (fun c e => by cases e)
          have v0 : Act.eval ⟨over Tv U, dd⟩ (.tmp 30) = _ := eval_new (t := Tv) (d := dd) f0 (by show 30 < Tv.size; omega)
          have w0 : Act.eval ⟨over Tv U, dd⟩ (.const (.int .i64 0)) = .int .i64 0 := rfl
          refine tb_pure (v := .pointer (some ⟨by1, oy, none⟩)) hT ho hd rfl rfl (by decide) (by decide) ?_ rfl
          generalize Act.eval ⟨over Tv U, dd⟩ = ev at *
          simp [execOp, go_sem, v0, w0]
        | 8, ho, hlv, hd =>
          obtain rfl := Option.some.inj ho
          have f0 : U 31 = some (.pointer (some ⟨by1, oy, none⟩)) := hT.facts 7 (by decide) (dep hd 7 (by kernel_rfl)) (fun c e => by cases e)
          have v0 : Act.eval ⟨over Tv U, dd⟩ (.tmp 31) = _ := eval_new (t := Tv) (d := dd) f0 (by show 31 < Tv.size; omega)
          have hc := hx.keep HCY.out
          refine tb_pure (v := .int .i64 y) hT ho hd rfl rfl (by decide) (by decide) ?_ rfl
          generalize Act.eval ⟨over Tv U, dd⟩ = ev at *
          simp [execOp, go_sem, v0, hc]
        | 9, ho, hlv, hd =>
          obtain rfl := Option.some.inj ho
          have f0 : U 28 = some (.int .i64 x) := hT.facts 4 (by decide) (dep hd 4 (by kernel_rfl)) (fun c e => by cases e)
          have v0 : Act.eval ⟨over Tv U, dd⟩ (.tmp 28) = _ := eval_new (t := Tv) (d := dd) f0 (by show 28 < Tv.size; omega)
          have f1 : U 32 = some (.int .i64 y) := hT.facts 8 (by decide) (dep hd 8 (by kernel_rfl)) (fun c e => by cases e)
          have v1 : Act.eval ⟨over Tv U, dd⟩ (.tmp 32) = _ := eval_new (t := Tv) (d := dd) f1 (by show 32 < Tv.size; omega)
          have hq := HQ.out
          refine tb_pure (v := .bool q) hT ho hd rfl rfl (by decide) (by decide) ?_ rfl
          generalize Act.eval ⟨over Tv U, dd⟩ = ev at *
          rw [← hq]
          simp [execOp, go_sem, v0, v1]
        | 10, ho, hlv, hd =>
          obtain rfl := Option.some.inj ho
          have f0 : U 24 = some (.agg CA) := hT.facts 0 (by decide) (dep hd 0 (by kernel_rfl)) (fun c e => by cases e)
          have v0 : Act.eval ⟨over Tv U, dd⟩ (.tmp 24) = _ := eval_new (t := Tv) (d := dd) f0 (by show 24 < Tv.size; omega)
          have f1 : U 33 = some (.bool q) := hT.facts 9 (by decide) (dep hd 9 (by kernel_rfl)) (fun c e => by cases e)
          have v1 : Act.eval ⟨over Tv U, dd⟩ (.tmp 33) = _ := eval_new (t := Tv) (d := dd) f1 (by show 33 < Tv.size; omega)
          refine tbw_call (f := 57) (args := #[.agg CA, .bool q]) (rjR_ext w.heap.size bx ox by1 oy M.2 L.cc CA x y sv q) hT ho hd (wanted_plain rfl) rfl (by decide) (by decide) (exec_call2 rfl rfl v0 v1 ENY.out) ?_
          refine (HY2.out q sv HF1.out wz).mono ?_
          rintro e w' ⟨rfl, hb⟩
          exact ⟨_, rfl, hb, rfl⟩
        | 11, ho, hlv, hd =>
          obtain rfl := Option.some.inj ho
          have f0 : U 34 = some (.int .i64 sv) := hT.facts 10 (by decide) (dep hd 10 (by kernel_rfl)) (fun c e => by cases e)
          have v0 : Act.eval ⟨over Tv U, dd⟩ (.tmp 34) = _ := eval_new (t := Tv) (d := dd) f0 (by show 34 < Tv.size; omega)
          refine tb_pure (v := .int .i64 sv) hT ho hd rfl rfl (by decide) (by decide) ?_ rfl
          generalize Act.eval ⟨over Tv U, dd⟩ = ev at *
          simp [execOp, go_sem, v0]
        | 12, ho, hlv, hd =>
          obtain rfl := Option.some.inj ho
          have w0 : Act.eval ⟨over Tv U, dd⟩ (.const (.int .i64 0)) = .int .i64 0 := rfl
          refine tb_pure (v := .int .i64 0) hT ho hd rfl rfl (by decide) (by decide) ?_ rfl
          generalize Act.eval ⟨over Tv U, dd⟩ = ev at *
          simp [execOp, go_sem, w0]
        | i + 13, ho, _, _ => exact absurd ho (by simp)
      · intro U wz hex hout hfin
        have f4 : U 4 = some (.int .i64 sv) := hfin 11 (by decide) rfl
        have f5 : U 5 = some (.int .i64 0) := hfin 12 (by decide) rfl
        have XE := Lib.hid (X1.out.trans hex)
        clear hex hfin
        rw [over_list]
        simp (disch := decide) only [overL, Nat.reduceAdd, hout, Option.getD_none]
        rw [f4, f5]
        simp only [Option.getD_some]
        clear hout f4 f5
        go_wp2
        go_ret2
        exact ⟨ret_two rfl HF2.out.symm, XE.out⟩
    · -- several choices
      have h10 := Rs.ans_2 HZ.out HKD.out HOM.out
      obtain ⟨hk1, hnd⟩ := Rs.key_2 HVLD.out HKD.out
      have HC1 := Lib.hid (Rs.cat_2 HOM.out HKD.out)
      go_wp2_with (with_reducible refine wpList_load_row rfl 55 (.tmp 2) rfl w.heap.size (by with_unfolding_all rfl) _ CA _ _ BA.out Tryz.underlying55 rfl IA.out ?_)
      with_reducible refine (HM2.out _ _ rfl rfl h10 hk1 sm2 ⟨hp1, hp2⟩ hnd (v := sv) (by rw [HC.out, HC1.out]) _ (HCL.out.ext X1.out) (HSL.out.ext X1.out)).mono ?_
      rintro e w2 ⟨rfl, hb2⟩
      have X2 := Lib.hid (X1.out.trans hb2)
      clear hb2
      go_wp2
      go_ret2
      exact ⟨ret_two rfl HF2.out.symm, X2.out⟩
    · -- an order
      obtain ⟨h10, h2⟩ := Rs.ans_3 HZ.out HKD.out HOM.out
      have HC1 := Lib.hid (Rs.cat_3 HOM.out HKD.out)
      go_wp2_with (with_reducible refine wpList_load_row rfl 55 (.tmp 2) rfl w.heap.size (by with_unfolding_all rfl) _ CA _ _ BA.out Tryz.underlying55 rfl IA.out ?_)
      with_reducible refine (HO2.out _ _ rfl rfl h10 h2 sm2 ⟨hp1, hp2⟩ (v := sv) (by rw [HC.out, HC1.out]) _ (HCL.out.ext X1.out) (HSL.out.ext X1.out)).mono ?_
      rintro e w2 ⟨rfl, hb2⟩
      have X2 := Lib.hid (X1.out.trans hb2)
      clear hb2
      go_wp2
      go_ret2
      exact ⟨ret_two rfl HF2.out.symm, X2.out⟩
    · -- a number
      obtain ⟨n1, n2⟩ := Rs.ans_4 HZ.out HKD.out HOM.out
      obtain ⟨n3, n4, n5, n6⟩ := Rs.key_4 HVLD.out HKD.out
      have HC1 := Lib.hid (Rs.cat_4 HOM.out HKD.out)
      by_cases h1 : a.val - it.value ≤ it.tol
      · have HFY : Hid ((if decide (it.value - a.val ≤ it.tol) = true then it.pts else 0) = sv) := Lib.hid (by rw [HC.out, HC1.out]; simp [h1])
        go_wp2_with (with_reducible refine wpList_load_row rfl 55 (.tmp 2) rfl w.heap.size (by with_unfolding_all rfl) _ CA _ _ BA.out Tryz.underlying55 rfl IA.out ?_)
        with_reducible refine (HY2.out (decide (it.value - a.val ≤ it.tol)) sv HFY.out _).mono ?_
        rintro e w2 ⟨rfl, hb2⟩
        have X2 := Lib.hid (X1.out.trans hb2)
        clear hb2
        go_wp2
        go_ret2
        exact ⟨ret_two rfl HF2.out.symm, X2.out⟩
      · have HF1 : Hid (sv = 0) := Lib.hid (by rw [HC.out, HC1.out, if_neg (by omega)])
        go_wp2_with (with_reducible refine wpList_load_row rfl 55 (.tmp 2) rfl w.heap.size (by with_unfolding_all rfl) _ CA _ _ BA.out Tryz.underlying55 rfl IA.out ?_)
        have HFY : (if false = true then it.pts else 0) = sv := by rw [HF1.out]; rfl
        with_reducible refine (HY2.out false sv HFY _).mono ?_
        rintro e w2 ⟨rfl, hb2⟩
        have X2 := Lib.hid (X1.out.trans hb2)
        clear hb2
        go_wp2
        go_ret2
        exact ⟨ret_two rfl HF2.out.symm, X2.out⟩
    · -- a text
      have n1 := Rs.ans_5 HZ.out HKD.out HOM.out
      have HC1 := Lib.hid (Rs.cat_5 HOM.out HKD.out)
      have HT1 : Hid (SlS w1 L.tA it.texts) := Lib.hid (HTL.out.ext X1.out)
      obtain ⟨n, hn⟩ : ∃ n, it.texts.length = n := ⟨_, rfl⟩
      rw [hn] at a8 sm3
      have HN := Lib.hid hn
      clear hn
      have HA9 := Lib.hid a9
      have HB3 := Lib.hid b3
      go_wp2
      go_loopw [72] (fun i wr => ∃ k : Nat, k ≤ n ∧ i = .int .i64 k ∧ Hid (∀ j, j < k → it.texts[j]? ≠ some (Rs.nrmB a.text)) ∧ Hid (Ext w1 wr)) (fun i _ => n - (intOf i).toNat)
      case atStart => exact ⟨0, by omega, rfl, Lib.hid (fun j hj => absurd hj (by omega)), Lib.hid (Ext.refl _)⟩
      case round =>
        obtain ⟨k, hkn, rfl, HNO, HEE⟩ := hrel
        by_cases hlt : k < n
        · obtain ⟨b, off, hA, hb, cx⟩ := (HT1.out.ext HEE.out).at_ (i := k) (by rw [HN.out]; exact hlt)
          have hx : it.texts[k]? = some (it.texts[k]'(by rw [HN.out]; exact hlt)) := List.getElem?_eq_getElem _
          generalize it.texts[k]'(by rw [HN.out]; exact hlt) = x at cx hx
          have d3 := HEE.out.keep HB3.out
          have d9 := HEE.out.keep HA9.out
          have ki1 : (k : Int) < (n : Int) := by omega
          rw [hA]
          go_wp2_with fail
          with_reducible refine (rnormal_any a.text _ n1).mono ?_
          rintro e w2 ⟨⟨o, rfl, ho⟩, hb2⟩
          obtain rfl : o = Rs.nrmB a.text := by
            cases o
            exact congrArg ByteArray.mk (by rw [← ho])
          have e9 := hb2.keep d9
          have X2 := Lib.hid (HEE.out.trans hb2)
          clear hb2 ho
          by_cases hxv : x = Rs.nrmB a.text
          · have t1 : (x.toList == (Rs.nrmB a.text).toList) = true := by rw [Rs.eqL]; exact decide_eq_true hxv
            have HF1 : Hid (sv = it.pts) := Lib.hid (by rw [HC.out, HC1.out, Rs.inL_yes (by rw [hx, hxv]), if_pos rfl])
            clear hxv hx
            go_wp2
            go_ret2
            exact ⟨ret_two HF1.out.symm HF2.out.symm, X1.out.trans X2.out⟩
          · have t1 : (x.toList == (Rs.nrmB a.text).toList) = false := by rw [Rs.eqL]; exact decide_eq_false hxv
            have HF : Hid (∀ j, j < k + 1 → it.texts[j]? ≠ some (Rs.nrmB a.text)) := Lib.hid (fun j hj e => by
              rcases Nat.lt_or_ge j k with g | g
              · exact HNO.out j g e
              · obtain rfl : j = k := by omega
                rw [hx] at e
                injection e with e
                exact hxv e)
            clear hxv hx
            go_wp2
            go_roundw
            case rel => exact ⟨k + 1, by omega, by go_num, HF, X2⟩
            case measure => simp [intOf]; omega
        · have HF1 : Hid (sv = 0) := Lib.hid (by rw [HC.out, HC1.out, Rs.inL_no (fun j hj => HNO.out j (by rw [HN.out] at hj; omega)), if_neg (by decide)])
          go_wp2
          go_ret2
          exact ⟨ret_two HF1.out.symm HF2.out.symm, X1.out.trans HEE.out⟩
    · exact absurd rfl h6
end Go.Proofs.YtgaepmddbjdhfaaGreatDoor
