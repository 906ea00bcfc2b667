/- Copies of models, in the package and in the reference: contracts. Conditions: those of each theorem. -/
import Derived.Test.YtfnmgcblhebdbaaGreatDoorBkD
import Derived.Test.YtfnmgcblhebdbaaGreatDoorBkR
namespace Go.Proofs.YtfnmgcblhebdbaaGreatDoor
open Go.RowKit
namespace Bk
theorem infoMd {CS : Array Value} (h : CS.size = 1) : (Tryz.prog.info? 46).map (·.size) = some CS.size := by rw [h]; kernel_rfl
def rxs (rows : List IL) : List (List Int) := rows.map (·.xs)
theorem rxs_next {rows ys : List IL} {k : Nat} {x y : IL} (h : rxs ys = rxs (rows.take k)) (hx : rows[k]? = some x) (hy : y.xs = x.xs) : rxs (ys ++ [y]) = rxs (rows.take (k + 1)) := by
  unfold rxs at *
  rw [List.map_append, h, List.take_add_one, hx]
  simp [hy]
/-- A copy of a model. -/
def RetMd (w : World) (rows : List IL) (e : Ending) (w' : World) : Prop := ∃ A c ys, e = .returned (.agg #[.slice A rows.length c]) ∧ rxs ys = rxs rows ∧ Got eILt w' w.heap.size A ys c
/-- What each operation of the region leaves. -/
def cmdL (g N k cr xn xc : Nat) (Ar xA : Option Addr) (ys : List IL) (xl : List Int) : List (Option Value → World → Prop) := [fun u _ => u = some (.pointer (some ⟨g, 0, none⟩)),
  fun u _ => u = some (.slice Ar k cr),
  fun u _ => u = some (.slice xA xn xc),
  fun u w => PNew eILt (N) (fun y : IL => y.xs = xl) (IL.val) u w,
  fun u w => POne eILt (N) (fun y : IL => y.xs = xl) u w,
  fun u w => PApp eILt (fun y : IL => y.xs = xl) 22 (g + 1) ys (g) (#[.slice Ar k cr]) 46 (Kp.none) u w,
  fun u _ => u = some (.pointer (some ⟨g, 0, none⟩)),
  fun _ w => PSto eILt (fun y : IL => y.xs = xl) 22 (g + 1) ys (g) 0 (#[.slice Ar k cr]) 46 (Kp.none) w,
  fun _ w => PRow eILt 22 (N) (g + 1) (.slice Ar k cr) ys (g) (#[.slice Ar k cr]) 46 (Kp.none) (Kp.none) w]
theorem cmdL_mono (g N k cr xn xc : Nat) (Ar xA : Option Addr) (ys : List IL) (xl : List Int) : AllMono (cmdL g N k cr xn xc Ar xA ys xl) := ⟨mono_val _, mono_val _, mono_val _, (fun _ _ _ he h => PNew.mono he h), (fun _ _ _ he h => POne.mono he h), (fun _ _ _ he h => PApp.mono he h), mono_val _, (fun _ _ _ he h => PSto.mono he h), (fun _ _ _ he h => PRow.mono he h), trivial⟩
def cmdR (g N k cr xn xc : Nat) (Ar xA : Option Addr) (ys : List IL) (xl : List Int) (j : Nat) (u : Option Value) (w : World) : Prop := (cmdL g N k cr xn xc Ar xA ys xl).getD j (fun _ _ => True) u w
theorem cmdR_ext (g N k cr xn xc : Nat) (Ar xA : Option Addr) (ys : List IL) (xl : List Int) (j : Nat) (u : Option Value) (w w' : World) (he : Ext w w') (hR : cmdR g N k cr xn xc Ar xA ys xl j u w) : cmdR g N k cr xn xc Ar xA ys xl j u w' := ((cmdL_mono g N k cr xn xc Ar xA ys xl).at_ j) u w w' he hR
def cmdD : List Nat := [13, 14, 15, 16, 17, 18, 19, 900, 901]
def cmdC (j : Nat) : Option Nat := if j = 3 then some 4 else if j = 4 then some 5 else if j = 5 then some 7 else if j = 8 then some 5 else none
def cmdE (g xn xc : Nat) (xA : Option Addr) (t : Array Value) : Prop := t.getD 3 undef = .pointer (some ⟨g, 0, none⟩) ∧ t.getD 5 undef = .slice xA xn xc ∧ t.size = 22

set_option maxRecDepth 100000 in
set_option maxHeartbeats 25600000 in
theorem bcopyModel_any (A : Option Addr) (c : Nat) (rows : List IL) {n : Nat} (hn : rows.length = n) (w : World) (h : SlX eIL w A rows) (hzn : n * 24 ≤ 140737488355328) (hr : ∀ r ∈ rows, r.xs.length * 8 ≤ 140737488355328) :
    Calls Tryz.prog 80 #[.agg #[.slice A n c]] w fun e w' => RetMd w rows e w' ∧ Ext w w' := by
  have H := Lib.hid h
  have HN := Lib.hid hn
  have HR := Lib.hid hr
  clear h hn hr
  obtain ⟨iL, hi, hz, hs, hb⟩ := info_parts infoIL
  have EN := Lib.hid (enters_of Tryz.func58 (by kernel_rfl) rfl)
  obtain ⟨B, hB⟩ : ∃ B, (w.alloc (.cells #[.slice A n c] 46)).alloc (.cells #[.slice none 0 0] 46) = B := ⟨_, rfl⟩
  have HBX : Hid (Ext w B) := Lib.hid (by rw [← hB]; exact ((Ext.refl _).alloc _).alloc _)
  have HBS : Hid (B.heap.size = w.heap.size + 1 + 1) := Lib.hid (by rw [← hB]; simp)
  have HBA : Hid (B.heap[w.heap.size]? = some (.cells #[.slice A n c] 46 (0, 0))) := Lib.hid (by rw [← hB]; exact two_fst' _ _ _)
  have HBB0 : Hid (B.heap[w.heap.size + 1]? = some (.cells #[.slice none 0 0] 46 (0, 0))) := Lib.hid (by rw [← hB]; exact heap_new_at _ _ _ (by simp))
  have HBH := Lib.hid hB
  have XB0 : Hid (Ext B (B.alloc (.cells #[.slice none 0 0] 46))) := Lib.hid ((Ext.refl _).alloc _)
  have HCB : Hid ((B.alloc (.cells #[.slice none 0 0] 46)).heap[w.heap.size + 1 + 1]? = some (.cells #[.slice none 0 0] 46 (0, 0))) := Lib.hid (heap_new_at _ _ _ HBS.out.symm)
  clear hB
  go_enter Tryz.func80, Tryz.ntmps80
  go_wp2
  go_loopw [9] (fun i wr => ∃ (k : Nat) (ys : List IL) (Ar : Option Addr) (cr : Nat), k ≤ n ∧ i = .int .i64 k ∧ Hid (rxs ys = rxs (rows.take k)) ∧ Hid (ys.length = k) ∧ Hid (RowX eILt 22 wr (w.heap.size + 1 + 1 + 1) (.slice Ar k cr) ys) ∧ Hid (∀ y ∈ ys, eILt.From (w.heap.size + 1 + 1 + 1) y) ∧ Hid (wr.heap[w.heap.size + 1 + 1]? = some (.cells #[.slice Ar k cr] 46 (0, 0))) ∧ Hid (Ext B wr)) (fun i _ => n - (intOf i).toNat)
  case atStart => exact ⟨0, [], none, 0, by omega, rfl, Lib.hid rfl, Lib.hid rfl, Lib.hid (RowX.nil _ _ _), Lib.hid (fun y hy => by simp at hy), by rw [HBH.out]; exact HCB, by rw [HBH.out]; exact XB0⟩
  case round =>
    obtain ⟨k, ys, Ar, cr, hk, rfl, HY, HYL, HROW, HYF, HG, HXB⟩ := hrel
    skip
    by_cases hlt : k < n
    · obtain ⟨x, hx⟩ : ∃ x, rows[k]? = some x := ⟨rows[k]'(by rw [HN.out]; exact hlt), List.getElem?_eq_getElem _⟩
      obtain ⟨b, off, rfl, hbl, hc, hin⟩ := (H.out.ext HBX.out).at_ hx
      have cx0 : B.cell? ⟨b, off + k, none⟩ = some (.slice x.A x.xs.length x.c) := by
        have := hc 0 _ rfl
        simpa [eIL, IL.val] using this
      obtain ⟨n1, hn1⟩ : ∃ n, x.xs.length = n := ⟨_, rfl⟩
      rw [hn1] at cx0
      have cx := HXB.out.keep cx0
      have HXL := Lib.hid hn1
      have HCX := Lib.hid cx0
      have HXZ : Hid (n1 * 8 ≤ 140737488355328) := Lib.hid (by rw [← hn1]; exact HR.out x (List.mem_of_getElem? hx))
      have HSX : Hid (SlX eI B x.A x.xs) := Lib.hid (SlX.ofI hin.1 hin.2.2.2)
      have HX := Lib.hid hx
      have ki0 : (0 : Int) ≤ (k : Int) := by omega
      have ki1 : (k : Int) < (n : Int) := by omega
      have KI := Lib.hid (And.intro ki0 ki1)
      clear hx hc hin hn1 cx0
      have HCO : Hid ((#[.slice Ar k cr] : Array Value)[0]? = some (.slice Ar k cr)) := Lib.hid rfl
      have HOB : Hid (∀ q, (Value.slice Ar k cr).ownBlock = some q → q < wr.heap.size) := Lib.hid (fun q hq => own_lt HROW.out.own q hq)
      have HBN : Hid (w.heap.size + 1 + 1 + 1 ≤ wr.heap.size) := Lib.hid (blk_lt HG.out)
      have HBB : Hid (B.heap.size ≤ w.heap.size + 1 + 1 + 1) := Lib.hid (by rw [HBS.out]; omega)
      have HBG : Hid (B.heap.size ≤ w.heap.size + 1 + 1) := Lib.hid (by rw [HBS.out]; omega)
      have HGB : Hid (w.heap.size + 1 + 1 < w.heap.size + 1 + 1 + 1) := Lib.hid (Nat.lt_succ_self _)
      have HLM : Hid (ys.length + 1 ≤ maxLen) := Lib.hid (by rw [HYL.out]; unfold maxLen; omega)
      have HLB : Hid ((ys.length + 1) * 24 ≤ 140737488355328) := Lib.hid (by rw [HYL.out]; omega)
      have HFR := HYF
      have HROW0 : Hid (PRow eILt 22 wr.heap.size (w.heap.size + 1 + 1 + 1) (.slice Ar k cr) ys (w.heap.size + 1 + 1) #[.slice Ar k cr] 46 Kp.none Kp.none wr) := Lib.hid ⟨HROW.out, HG.out, Nat.le_refl _, trivial, trivial⟩
      have HKO := Lib.hid (Kp.none_o (T := 22))
      have HKG := Lib.hid (Kp.none_g (g := w.heap.size + 1 + 1))
      go_wp2_with fail
      refine region_tb (by kernel_rfl) (by decide +kernel) (cmdE (w.heap.size + 1 + 1) n1 x.c x.A) ⟨rfl, rfl, rfl⟩ 9 cmdD cmdC (cmdR (w.heap.size + 1 + 1) wr.heap.size k cr n1 x.c Ar x.A ys x.xs) B HXB.out (fun i h1 h2 => by
      have h3 : 8 ≤ i := h1
      have h4 : i < 9 := h2
      obtain rfl : i = 8 := by omega
      exact PRow.mono ((Ext.refl _).drew) HROW0.out) ?_ ?_
      · intro Tv dd lv U wz i o hE ho hlv hd hT
        obtain ⟨t3, t5, tz⟩ := hE
        have hx := hT.ext
        match i, ho, hlv, hd with
        | 0, ho, hlv, hd =>
          obtain rfl := Option.some.inj ho
          have v0 := eval_old (d := dd) (hT.out 3 (by decide)) (by omega) t3
          refine tbw_yield (v := .pointer (some ⟨w.heap.size + 1 + 1, 0, none⟩)) (cmdR_ext (w.heap.size + 1 + 1) wr.heap.size k cr n1 x.c Ar x.A ys x.xs) hT ho hd (wanted_plain rfl) rfl (by decide) (by decide) ?_ (Ext.refl _) rfl
          generalize Act.eval ⟨over Tv U, dd⟩ = ev at *
          simp [execOp, go_sem, v0]
        | 1, ho, hlv, hd =>
          obtain rfl := Option.some.inj ho
          have f0 : U 13 = some (.pointer (some ⟨w.heap.size + 1 + 1, 0, none⟩)) := hT.facts 0 (by decide) (dep hd 0 (by kernel_rfl)) (fun c e => by cases e)
          have v0 : Act.eval ⟨over Tv U, dd⟩ (.tmp 13) = _ := eval_new (t := Tv) (d := dd) f0 (by show 13 < Tv.size; omega)
          have hnA : lv 5 = false := by
            cases hA : lv 5 with
            | false => rfl
            | true => exact absurd (dep (hT.shut 5 _ rfl hA) 1 (by kernel_rfl)) (by rw [hlv]; decide)
          have hrow : PRow eILt 22 (wr.heap.size) (w.heap.size + 1 + 1 + 1) (.slice Ar k cr) ys (w.heap.size + 1 + 1) (#[.slice Ar k cr]) 46 (Kp.none) (Kp.none) wz := hT.facts 8 (by decide) (hT.past 8 (by decide)) (fun c e => by injection e with e; subst e; exact hnA)
          have hc := (cell_of_row _ _ 0 _ _ _ hrow.2.1).trans HCO.out
          refine tbw_yield (v := .slice Ar k cr) (cmdR_ext (w.heap.size + 1 + 1) wr.heap.size k cr n1 x.c Ar x.A ys x.xs) hT ho hd (wanted_plain rfl) rfl (by decide) (by decide) ?_ (Ext.refl _) rfl
          generalize Act.eval ⟨over Tv U, dd⟩ = ev at *
          simp [execOp, go_sem, v0, hc]
        | 2, ho, hlv, hd =>
          obtain rfl := Option.some.inj ho
          have v0 := eval_old (d := dd) (hT.out 5 (by decide)) (by omega) t5
          refine tbw_yield (v := .slice x.A n1 x.c) (cmdR_ext (w.heap.size + 1 + 1) wr.heap.size k cr n1 x.c Ar x.A ys x.xs) hT ho hd (wanted_plain rfl) rfl (by decide) (by decide) ?_ (Ext.refl _) rfl
          generalize Act.eval ⟨over Tv U, dd⟩ = ev at *
          simp [execOp, go_sem, v0]
        | 3, ho, hlv, hd =>
          obtain rfl := Option.some.inj ho
          have f0 : U 15 = some (.slice x.A n1 x.c) := hT.facts 2 (by decide) (dep hd 2 (by kernel_rfl)) (fun c e => by cases e)
          have v0 : Act.eval ⟨over Tv U, dd⟩ (.tmp 15) = _ := eval_new (t := Tv) (d := dd) f0 (by show 15 < Tv.size; omega)
          have hnA : lv 5 = false := by
            cases hA : lv 5 with
            | false => rfl
            | true => exact absurd (dep (hT.shut 4 _ rfl (dep (hT.shut 5 _ rfl hA) 4 (by kernel_rfl))) 3 (by kernel_rfl)) (by rw [hlv]; decide)
          have hrow : PRow eILt 22 (wr.heap.size) (w.heap.size + 1 + 1 + 1) (.slice Ar k cr) ys (w.heap.size + 1 + 1) (#[.slice Ar k cr]) 46 (Kp.none) (Kp.none) wz := hT.facts 8 (by decide) (hT.past 8 (by decide)) (fun c e => by injection e with e; subst e; exact hnA)
          refine tbw_call (f := 58) (args := #[.slice x.A n1 x.c]) (cmdR_ext (w.heap.size + 1 + 1) wr.heap.size k cr n1 x.c Ar x.A ys x.xs) hT ho hd (wanted_plain rfl) rfl (by decide) (by decide) (exec_call1 rfl rfl v0 EN.out) ?_
          refine (cloneI x.A x.c x.xs HXL.out wz (HSX.out.ext hx) HXZ.out).mono ?_
          rintro e w' hr
          obtain ⟨A1, c1, rfl, hg, hb⟩ := hr.got HXL.out (fun _ _ => trivial)
          exact ⟨_, rfl, hb, ⟨⟨A1, c1, x.xs⟩, by unfold IL.val; rw [HXL.out], ⟨hg.il, hg.ty⟩, (hg.low hrow.2.2.1).frm.a, rfl⟩⟩
        | 4, ho, hlv, hd =>
          obtain rfl := Option.some.inj ho
          obtain ⟨y0, e0, h2, h3, h4⟩ : PNew eILt (wr.heap.size) (fun y : IL => y.xs = x.xs) (IL.val) (U 16) wz := hT.facts 3 (by decide) (dep hd 3 (by kernel_rfl)) (fun c e => by injection e with e; subst e; exact hlv)
          have v0 : Act.eval ⟨over Tv U, dd⟩ (.tmp 16) = _ := eval_new (t := Tv) (d := dd) e0 (by show 16 < Tv.size; omega)
          refine tbw_yield (v := .slice (some ⟨wz.heap.size, 0, none⟩) 1 1) (cmdR_ext (w.heap.size + 1 + 1) wr.heap.size k cr n1 x.c Ar x.A ys x.xs) hT ho hd (wanted_plain rfl) rfl (by decide) (by decide) (exec_buildOne 44 22 (.tmp 16) rfl v0 Tryz.underlying44 hi hz hs (by decide) (by decide) (by simp [IL.val, Value.cells])) ((Ext.refl _).alloc _) (PNew.one (E := eILt) (val := IL.val) 22 (by simp [IL.val, Value.cells, eILt]) h2 h3 h4)
        | 5, ho, hlv, hd =>
          obtain rfl := Option.some.inj ho
          have f0 : U 14 = some (.slice Ar k cr) := hT.facts 1 (by decide) (dep hd 1 (by kernel_rfl)) (fun c e => by cases e)
          have v0 : Act.eval ⟨over Tv U, dd⟩ (.tmp 14) = _ := eval_new (t := Tv) (d := dd) f0 (by show 14 < Tv.size; omega)
          have hnA : lv 5 = false := hlv
          have hrow : PRow eILt 22 (wr.heap.size) (w.heap.size + 1 + 1 + 1) (.slice Ar k cr) ys (w.heap.size + 1 + 1) (#[.slice Ar k cr]) 46 (Kp.none) (Kp.none) wz := hT.facts 8 (by decide) (hT.past 8 (by decide)) (fun c e => by injection e with e; subst e; exact hnA)
          have h1 : POne eILt (wr.heap.size) (fun y : IL => y.xs = x.xs) (U 17) wz := hT.facts 4 (by decide) (dep hd 4 (by kernel_rfl)) (fun c e => by injection e with e; subst e; exact hlv)
          obtain ⟨y, u', w', hU, hrun, hx2, hP⟩ := hrow.app (P := Tryz.prog) (t := 44) (ty := 44) Tryz.underlying44 hi hz hs hb rfl (by decide) HKO.out h1 HOB.out HBN.out hx HBB.out HLM.out HLB.out
          have v1 : Act.eval ⟨over Tv U, dd⟩ (.tmp 17) = _ := eval_new (t := Tv) (d := dd) hU (by show 17 < Tv.size; omega)
          refine tb_yield (v := u') (w' := w') hT ho hd rfl rfl (by decide) (by decide) (exec_append rfl v0 v1 hrun) hx2 hP ?_
          intro j hj hji hlj hcj hR
          match j, hj, hR with
          | 0, _, hR => exact hR
          | 1, _, hR => exact hR
          | 2, _, hR => exact hR
          | 3, _, _ => exact absurd (dep hd 4 (by kernel_rfl)) (by rw [(hcj 4 rfl).2]; decide)
          | 4, _, _ => exact absurd rfl (hcj 5 rfl).1
          | 5, _, _ => exact absurd rfl hji
          | 6, _, hR => exact hR
          | 7, _, _ => exact absurd (dep (hT.shut 7 _ rfl hlj) 5 (by kernel_rfl)) (by rw [hlv]; decide)
          | 8, _, _ => exact absurd rfl (hcj 5 rfl).1
          | j + 9, hj, _ => exact absurd hj (by omega)
        | 6, ho, hlv, hd =>
          obtain rfl := Option.some.inj ho
          have v0 := eval_old (d := dd) (hT.out 3 (by decide)) (by omega) t3
          refine tbw_yield (v := .pointer (some ⟨w.heap.size + 1 + 1, 0, none⟩)) (cmdR_ext (w.heap.size + 1 + 1) wr.heap.size k cr n1 x.c Ar x.A ys x.xs) hT ho hd (wanted_plain rfl) rfl (by decide) (by decide) ?_ (Ext.refl _) rfl
          generalize Act.eval ⟨over Tv U, dd⟩ = ev at *
          simp [execOp, go_sem, v0]
        | 7, ho, hlv, hd =>
          obtain rfl := Option.some.inj ho
          have f0 : U 19 = some (.pointer (some ⟨w.heap.size + 1 + 1, 0, none⟩)) := hT.facts 6 (by decide) (dep hd 6 (by kernel_rfl)) (fun c e => by cases e)
          have v0 : Act.eval ⟨over Tv U, dd⟩ (.tmp 19) = _ := eval_new (t := Tv) (d := dd) f0 (by show 19 < Tv.size; omega)
          obtain ⟨y0, A', c', hU, h2, h3, h4, h5, h6⟩ : PApp eILt (fun y : IL => y.xs = x.xs) 22 (w.heap.size + 1 + 1 + 1) ys (w.heap.size + 1 + 1) (#[.slice Ar k cr]) 46 (Kp.none) (U 18) wz := hT.facts 5 (by decide) (dep hd 5 (by kernel_rfl)) (fun c e => by injection e with e; subst e; exact hlv)
          have v1 : Act.eval ⟨over Tv U, dd⟩ (.tmp 18) = _ := eval_new (t := Tv) (d := dd) hU (by show 18 < Tv.size; omega)
          have hc := (cell_of_row _ _ 0 _ _ _ h5).trans HCO.out
          have hfz := frozen_of_row _ _ 0 _ _ h5
          refine tb_store (w' := wz.setCell ⟨w.heap.size + 1 + 1, 0, none⟩ (.slice A' (ys.length + 1) c')) hT ho hd rfl rfl ?_ (hx.setCell HBG.out _) (PApp.sto rfl h2 h3 h4 h5 h6 HKG.out (by decide) HGB.out HFR.out) ?_
          · generalize Act.eval ⟨over Tv U, dd⟩ = ev at *
            simp [execOp, v0, v1, go_sem, hc, hfz]
          · intro j hj hji hlj hcj hR
            match j, hj, hR with
            | 0, _, hR => exact hR
            | 1, _, hR => exact hR
            | 2, _, hR => exact hR
            | 3, _, _ => exact absurd (dep (hT.shut 5 _ rfl (dep hd 5 (by kernel_rfl))) 4 (by kernel_rfl)) (by rw [(hcj 4 rfl).2]; decide)
            | 4, _, _ => exact absurd (dep hd 5 (by kernel_rfl)) (by rw [(hcj 5 rfl).2]; decide)
            | 5, _, _ => exact absurd rfl (hcj 7 rfl).1
            | 6, _, hR => exact hR
            | 7, _, _ => exact absurd rfl hji
            | 8, _, _ => exact absurd (dep hd 5 (by kernel_rfl)) (by rw [(hcj 5 rfl).2]; decide)
            | j + 9, hj, _ => exact absurd hj (by omega)
        | i + 8, ho, _, _ => exact absurd ho (by simp)
      intro U wz hex hout hfin
      have PS : PSto eILt (fun y : IL => y.xs = x.xs) 22 (w.heap.size + 1 + 1 + 1) ys (w.heap.size + 1 + 1) 0 (#[.slice Ar k cr]) 46 (Kp.none) wz := hfin 7 (by decide) rfl
      have XE := Lib.hid hex
      clear hex hfin
      rw [over_list]
      simp (disch := decide) only [overL, Nat.reduceAdd, hout, Option.getD_none]
      clear hout
      obtain ⟨y, A', c', hrow, hfr, hD, hblk, -⟩ := PS
      rw [HYL.out] at hrow hblk
      have HY2 : Hid (rxs (ys ++ [y]) = rxs (rows.take (k + 1))) := Lib.hid (rxs_next HY.out HX.out hD)
      have HYL2 : Hid ((ys ++ [y]).length = k + 1) := Lib.hid (by rw [List.length_append, HYL.out]; rfl)
      have HR2 := Lib.hid hrow
      have HF2 : Hid (∀ z ∈ ys ++ [y], eILt.From (w.heap.size + 1 + 1 + 1) z) := Lib.hid (fun z hz => by
        rcases List.mem_append.1 hz with hz | hz
        · exact HYF.out z hz
        · rw [List.mem_singleton] at hz; rw [hz]; exact hfr)
      have HB2 := Lib.hid hblk
      clear hrow hfr hD hblk
      go_wp2
      go_roundw
      case rel => exact ⟨k + 1, ys ++ [y], A', c', by omega, by go_num, HY2, HYL2, HR2, HF2, HB2, XE⟩
      case measure => simp [intOf]; omega
    · obtain rfl : k = n := by omega
      have HZB := Lib.hid (HXB.out.blockAt HBB0.out)
      have INF : Hid ((Tryz.prog.info? 46).map (·.size) = some (#[.slice Ar k cr] : Array Value).size) := Lib.hid (infoMd rfl)
      have cg : wr.cell? ⟨w.heap.size + 1 + 1, 0, none⟩ = some (.slice Ar k cr) := cell_of_row _ _ 0 _ _ _ HG.out
      have cz : wr.cell? ⟨w.heap.size + 1, 0, none⟩ = some (.slice none 0 0) := cell_of_row _ _ 0 _ _ _ HZB.out
      have fz := frozen_of_row _ _ 0 _ _ HZB.out
      go_wp2
      have HZ2 : (wr.setCell ⟨w.heap.size + 1, 0, none⟩ (.slice Ar k cr)).heap[w.heap.size + 1]? = some (.cells #[.slice Ar k cr] 46 (0, 0)) := heap_setCell_same _ _ _ _ _ _ HZB.out
      refine bodyPost_ret (v := .agg #[.slice Ar k cr]) (results_oneR Tryz.results80 _ _ (w.heap.size + 1) _ #[.slice Ar k cr] _ _ rfl HZ2 Tryz.underlying46 rfl INF.out) rfl ?_
      have hb : But (w.heap.size + 1) wr _ := But.setCell wr ⟨w.heap.size + 1, 0, none⟩ (.slice Ar k cr)
      refine ⟨⟨Ar, cr, ys, by rw [HN.out], ?_, ?_⟩, (HBX.out.trans HXB.out).setCell (show w.heap.size ≤ w.heap.size + 1 by omega) _⟩
      · rw [HY.out, List.take_of_length_le (by rw [HN.out]; exact Nat.le_refl _)]
      · have g : Got eILt wr (w.heap.size + 1 + 1 + 1) Ar ys cr := HROW.out.got rfl HYL.out HYF.out
        exact (g.but hb (by omega)).low (by omega)
/-- What each operation of the region leaves. -/
def rmdL (g n0 N k n kk b off c cr xn xc : Nat) (Ar xA : Option Addr) (ys : List IL) (xl : List Int) : List (Option Value → World → Prop) := [fun u _ => u = some (.pointer (some ⟨g, 0, none⟩)),
  fun u _ => u = some (.slice Ar k cr),
  fun u w => POwn 3 1 (N) u w,
  fun u _ => u = some (.pointer (some ⟨n0, 0, none⟩)),
  fun u _ => u = some (.slice (some ⟨b, off, none⟩) n c),
  fun u _ => u = some (.int .i64 (kk : Int)),
  fun u _ => u = some (.pointer (some ⟨b, off + kk, none⟩)),
  fun u _ => u = some (.slice xA xn xc),
  fun u w => PNew eILt (N) (fun y : IL => y.xs = xl) (IL.val) u w,
  fun u w => POne eILt (N) (fun y : IL => y.xs = xl) u w,
  fun u w => PApp eILt (fun y : IL => y.xs = xl) 22 (g + 1) ys (g) (#[.slice Ar k cr]) 46 (Kp.none) u w,
  fun u _ => u = some (.pointer (some ⟨g, 0, none⟩)),
  fun _ w => PSto eILt (fun y : IL => y.xs = xl) 22 (g + 1) ys (g) 0 (#[.slice Ar k cr]) 46 (Kp.none) w,
  fun _ w => PRow eILt 22 (N) (g + 1) (.slice Ar k cr) ys (g) (#[.slice Ar k cr]) 46 (Kp.none) (Kp.none) w]
theorem rmdL_mono (g n0 N k n kk b off c cr xn xc : Nat) (Ar xA : Option Addr) (ys : List IL) (xl : List Int) : AllMono (rmdL g n0 N k n kk b off c cr xn xc Ar xA ys xl) := ⟨mono_val _, mono_val _, (fun _ _ _ he h => POwn.mono he h), mono_val _, mono_val _, mono_val _, mono_val _, mono_val _, (fun _ _ _ he h => PNew.mono he h), (fun _ _ _ he h => POne.mono he h), (fun _ _ _ he h => PApp.mono he h), mono_val _, (fun _ _ _ he h => PSto.mono he h), (fun _ _ _ he h => PRow.mono he h), trivial⟩
def rmdR (g n0 N k n kk b off c cr xn xc : Nat) (Ar xA : Option Addr) (ys : List IL) (xl : List Int) (j : Nat) (u : Option Value) (w : World) : Prop := (rmdL g n0 N k n kk b off c cr xn xc Ar xA ys xl).getD j (fun _ _ => True) u w
theorem rmdR_ext (g n0 N k n kk b off c cr xn xc : Nat) (Ar xA : Option Addr) (ys : List IL) (xl : List Int) (j : Nat) (u : Option Value) (w w' : World) (he : Ext w w') (hR : rmdR g n0 N k n kk b off c cr xn xc Ar xA ys xl j u w) : rmdR g n0 N k n kk b off c cr xn xc Ar xA ys xl j u w' := ((rmdL_mono g n0 N k n kk b off c cr xn xc Ar xA ys xl).at_ j) u w w' he hR
def rmdD : List Nat := [12, 13, 14, 15, 16, 17, 18, 19, 20, 21, 22, 23, 900, 901]
def rmdC (j : Nat) : Option Nat := if j = 2 then some 8 else if j = 8 then some 9 else if j = 9 then some 10 else if j = 10 then some 12 else if j = 13 then some 10 else none
def rmdE (g n0 kk : Nat) (t : Array Value) : Prop := t.getD 1 undef = .pointer (some ⟨n0, 0, none⟩) ∧ t.getD 3 undef = .pointer (some ⟨g, 0, none⟩) ∧ t.getD 4 undef = .int .i64 (kk : Int) ∧ t.size = 25

set_option maxRecDepth 100000 in
set_option maxHeartbeats 25600000 in
theorem rmodel_any (A : Option Addr) (c : Nat) (rows : List IL) {n : Nat} (hn : rows.length = n) (w : World) (h : SlX eIL w A rows) (hzn : n * 24 ≤ 140737488355328) (hr : ∀ r ∈ rows, r.xs.length * 8 ≤ 140737488355328) :
    Calls Tryz.prog 83 #[.agg #[.slice A n c]] w fun e w' => RetMd w rows e w' ∧ Ext w w' := by
  have H := Lib.hid h
  have HN := Lib.hid hn
  have HR := Lib.hid hr
  clear h hn hr
  obtain ⟨iL, hi, hz, hs, hb⟩ := info_parts infoIL
  obtain ⟨iI, hiI, hzI, hsI, hbI⟩ := info_parts infoI
  obtain ⟨B, hB⟩ : ∃ B, (w.alloc (.cells #[.slice A n c] 46)).alloc (.cells #[.slice none 0 0] 46) = B := ⟨_, rfl⟩
  have HBX : Hid (Ext w B) := Lib.hid (by rw [← hB]; exact ((Ext.refl _).alloc _).alloc _)
  have HBS : Hid (B.heap.size = w.heap.size + 1 + 1) := Lib.hid (by rw [← hB]; simp)
  have HBA : Hid (B.heap[w.heap.size]? = some (.cells #[.slice A n c] 46 (0, 0))) := Lib.hid (by rw [← hB]; exact two_fst' _ _ _)
  have HBB0 : Hid (B.heap[w.heap.size + 1]? = some (.cells #[.slice none 0 0] 46 (0, 0))) := Lib.hid (by rw [← hB]; exact heap_new_at _ _ _ (by simp))
  have HBH := Lib.hid hB
  have XB0 : Hid (Ext B (B.alloc (.cells #[.slice none 0 0] 46))) := Lib.hid ((Ext.refl _).alloc _)
  have HCB : Hid ((B.alloc (.cells #[.slice none 0 0] 46)).heap[w.heap.size + 1 + 1]? = some (.cells #[.slice none 0 0] 46 (0, 0))) := Lib.hid (heap_new_at _ _ _ HBS.out.symm)
  clear hB
  go_enter Tryz.func83, Tryz.ntmps83
  go_wp2
  go_loopw [4] (fun i wr => ∃ (k : Nat) (ys : List IL) (Ar : Option Addr) (cr : Nat), k ≤ n ∧ i = .int .i64 k ∧ Hid (rxs ys = rxs (rows.take k)) ∧ Hid (ys.length = k) ∧ Hid (RowX eILt 22 wr (w.heap.size + 1 + 1 + 1) (.slice Ar k cr) ys) ∧ Hid (∀ y ∈ ys, eILt.From (w.heap.size + 1 + 1 + 1) y) ∧ Hid (wr.heap[w.heap.size + 1 + 1]? = some (.cells #[.slice Ar k cr] 46 (0, 0))) ∧ Hid (Ext B wr)) (fun i _ => n - (intOf i).toNat)
  case atStart => exact ⟨0, [], none, 0, by omega, rfl, Lib.hid rfl, Lib.hid rfl, Lib.hid (RowX.nil _ _ _), Lib.hid (fun y hy => by simp at hy), by rw [HBH.out]; exact HCB, by rw [HBH.out]; exact XB0⟩
  case round =>
    obtain ⟨k, ys, Ar, cr, hk, rfl, HY, HYL, HROW, HYF, HG, HXB⟩ := hrel
    have ca : B.cell? ⟨w.heap.size, 0, none⟩ = some (.slice A n c) := cell_of_row _ _ 0 _ _ _ HBA.out
    have ca1 := HXB.out.keep ca
    have HCA := Lib.hid ca
    clear ca
    have HOF : Hid (∀ q, wr.heap.size ≤ q → ∀ y ∈ ys, eILt.Off q y) := Lib.hid (fun q hq y hy => eILt.off (HROW.out.ins y hy) hq)
    by_cases hlt : k < n
    · obtain ⟨x, hx⟩ : ∃ x, rows[k]? = some x := ⟨rows[k]'(by rw [HN.out]; exact hlt), List.getElem?_eq_getElem _⟩
      obtain ⟨b, off, rfl, hbl, hc, hin⟩ := (H.out.ext HBX.out).at_ hx
      have cx0 : B.cell? ⟨b, off + k, none⟩ = some (.slice x.A x.xs.length x.c) := by
        have := hc 0 _ rfl
        simpa [eIL, IL.val] using this
      obtain ⟨n1, hn1⟩ : ∃ n, x.xs.length = n := ⟨_, rfl⟩
      rw [hn1] at cx0
      have cx := HXB.out.keep cx0
      have HXL := Lib.hid hn1
      have HCX := Lib.hid cx0
      have HXZ : Hid (n1 * 8 ≤ 140737488355328) := Lib.hid (by rw [← hn1]; exact HR.out x (List.mem_of_getElem? hx))
      have HSX : Hid (SlX eI B x.A x.xs) := Lib.hid (SlX.ofI hin.1 hin.2.2.2)
      have HX := Lib.hid hx
      have ki0 : (0 : Int) ≤ (k : Int) := by omega
      have ki1 : (k : Int) < (n : Int) := by omega
      have KI := Lib.hid (And.intro ki0 ki1)
      clear hx hc hin hn1 cx0
      have HCO : Hid ((#[.slice Ar k cr] : Array Value)[0]? = some (.slice Ar k cr)) := Lib.hid rfl
      have HOB : Hid (∀ q, (Value.slice Ar k cr).ownBlock = some q → q < wr.heap.size) := Lib.hid (fun q hq => own_lt HROW.out.own q hq)
      have HBN : Hid (w.heap.size + 1 + 1 + 1 ≤ wr.heap.size) := Lib.hid (blk_lt HG.out)
      have HBB : Hid (B.heap.size ≤ w.heap.size + 1 + 1 + 1) := Lib.hid (by rw [HBS.out]; omega)
      have HBG : Hid (B.heap.size ≤ w.heap.size + 1 + 1) := Lib.hid (by rw [HBS.out]; omega)
      have HGB : Hid (w.heap.size + 1 + 1 < w.heap.size + 1 + 1 + 1) := Lib.hid (Nat.lt_succ_self _)
      have HLM : Hid (ys.length + 1 ≤ maxLen) := Lib.hid (by rw [HYL.out]; unfold maxLen; omega)
      have HLB : Hid ((ys.length + 1) * 24 ≤ 140737488355328) := Lib.hid (by rw [HYL.out]; omega)
      have HFR := HYF
      have HROW0 : Hid (PRow eILt 22 wr.heap.size (w.heap.size + 1 + 1 + 1) (.slice Ar k cr) ys (w.heap.size + 1 + 1) #[.slice Ar k cr] 46 Kp.none Kp.none wr) := Lib.hid ⟨HROW.out, HG.out, Nat.le_refl _, trivial, trivial⟩
      have HKO := Lib.hid (Kp.none_o (T := 22))
      have HKG := Lib.hid (Kp.none_g (g := w.heap.size + 1 + 1))
      go_wp2_with fail
      refine region_tb (by kernel_rfl) (by decide +kernel) (rmdE (w.heap.size + 1 + 1) w.heap.size k) ⟨rfl, rfl, rfl, rfl⟩ 14 rmdD rmdC (rmdR (w.heap.size + 1 + 1) w.heap.size wr.heap.size k n k b off c cr n1 x.c Ar x.A ys x.xs) B HXB.out (fun i h1 h2 => by
      have h3 : 13 ≤ i := h1
      have h4 : i < 14 := h2
      obtain rfl : i = 13 := by omega
      exact PRow.mono ((Ext.refl _).drew) HROW0.out) ?_ ?_
      · intro Tv dd lv U wz i o hE ho hlv hd hT
        obtain ⟨t1, t3, t4, tz⟩ := hE
        have hx := hT.ext
        match i, ho, hlv, hd with
        | 0, ho, hlv, hd =>
          obtain rfl := Option.some.inj ho
          have v0 := eval_old (d := dd) (hT.out 3 (by decide)) (by omega) t3
          refine tbw_yield (v := .pointer (some ⟨w.heap.size + 1 + 1, 0, none⟩)) (rmdR_ext (w.heap.size + 1 + 1) w.heap.size wr.heap.size k n k b off c cr n1 x.c Ar x.A ys x.xs) hT ho hd (wanted_plain rfl) rfl (by decide) (by decide) ?_ (Ext.refl _) rfl
          generalize Act.eval ⟨over Tv U, dd⟩ = ev at *
          simp [execOp, go_sem, v0]
        | 1, ho, hlv, hd =>
          obtain rfl := Option.some.inj ho
          have f0 : U 12 = some (.pointer (some ⟨w.heap.size + 1 + 1, 0, none⟩)) := hT.facts 0 (by decide) (dep hd 0 (by kernel_rfl)) (fun c e => by cases e)
          have v0 : Act.eval ⟨over Tv U, dd⟩ (.tmp 12) = _ := eval_new (t := Tv) (d := dd) f0 (by show 12 < Tv.size; omega)
          have hnA : lv 10 = false := by
            cases hA : lv 10 with
            | false => rfl
            | true => exact absurd (dep (hT.shut 10 _ rfl hA) 1 (by kernel_rfl)) (by rw [hlv]; decide)
          have hrow : PRow eILt 22 (wr.heap.size) (w.heap.size + 1 + 1 + 1) (.slice Ar k cr) ys (w.heap.size + 1 + 1) (#[.slice Ar k cr]) 46 (Kp.none) (Kp.none) wz := hT.facts 13 (by decide) (hT.past 13 (by decide)) (fun c e => by injection e with e; subst e; exact hnA)
          have hc := (cell_of_row _ _ 0 _ _ _ hrow.2.1).trans HCO.out
          refine tbw_yield (v := .slice Ar k cr) (rmdR_ext (w.heap.size + 1 + 1) w.heap.size wr.heap.size k n k b off c cr n1 x.c Ar x.A ys x.xs) hT ho hd (wanted_plain rfl) rfl (by decide) (by decide) ?_ (Ext.refl _) rfl
          generalize Act.eval ⟨over Tv U, dd⟩ = ev at *
          simp [execOp, go_sem, v0, hc]
        | 2, ho, hlv, hd =>
          obtain rfl := Option.some.inj ho
          have hnA : lv 10 = false := by
            cases hA : lv 10 with
            | false => rfl
            | true => exact absurd (dep (hT.shut 8 _ rfl (dep (hT.shut 9 _ rfl (dep (hT.shut 10 _ rfl hA) 9 (by kernel_rfl))) 8 (by kernel_rfl))) 2 (by kernel_rfl)) (by rw [hlv]; decide)
          have hrow : PRow eILt 22 (wr.heap.size) (w.heap.size + 1 + 1 + 1) (.slice Ar k cr) ys (w.heap.size + 1 + 1) (#[.slice Ar k cr]) 46 (Kp.none) (Kp.none) wz := hT.facts 13 (by decide) (hT.past 13 (by decide)) (fun c e => by injection e with e; subst e; exact hnA)
          refine tbw_yield (v := .slice (some ⟨wz.heap.size, 0, none⟩) 0 0) (rmdR_ext (w.heap.size + 1 + 1) w.heap.size wr.heap.size k n k b off c cr n1 x.c Ar x.A ys x.xs) hT ho hd (wanted_plain rfl) rfl (by decide) (by decide) ?_ ((Ext.refl _).alloc _) (POwn.made hrow.2.2.1)
          generalize Act.eval ⟨over Tv U, dd⟩ = ev at *
          simp [execOp, go_sem]
        | 3, ho, hlv, hd =>
          obtain rfl := Option.some.inj ho
          have v0 := eval_old (d := dd) (hT.out 1 (by decide)) (by omega) t1
          refine tbw_yield (v := .pointer (some ⟨w.heap.size, 0, none⟩)) (rmdR_ext (w.heap.size + 1 + 1) w.heap.size wr.heap.size k n k b off c cr n1 x.c Ar x.A ys x.xs) hT ho hd (wanted_plain rfl) rfl (by decide) (by decide) ?_ (Ext.refl _) rfl
          generalize Act.eval ⟨over Tv U, dd⟩ = ev at *
          simp [execOp, go_sem, v0]
        | 4, ho, hlv, hd =>
          obtain rfl := Option.some.inj ho
          have f0 : U 15 = some (.pointer (some ⟨w.heap.size, 0, none⟩)) := hT.facts 3 (by decide) (dep hd 3 (by kernel_rfl)) (fun c e => by cases e)
          have v0 : Act.eval ⟨over Tv U, dd⟩ (.tmp 15) = _ := eval_new (t := Tv) (d := dd) f0 (by show 15 < Tv.size; omega)
          have hc := hx.keep HCA.out
          refine tbw_yield (v := .slice (some ⟨b, off, none⟩) n c) (rmdR_ext (w.heap.size + 1 + 1) w.heap.size wr.heap.size k n k b off c cr n1 x.c Ar x.A ys x.xs) hT ho hd (wanted_plain rfl) rfl (by decide) (by decide) ?_ (Ext.refl _) rfl
          generalize Act.eval ⟨over Tv U, dd⟩ = ev at *
          simp [execOp, go_sem, v0, hc]
        | 5, ho, hlv, hd =>
          obtain rfl := Option.some.inj ho
          have v0 := eval_old (d := dd) (hT.out 4 (by decide)) (by omega) t4
          refine tbw_yield (v := .int .i64 (k : Int)) (rmdR_ext (w.heap.size + 1 + 1) w.heap.size wr.heap.size k n k b off c cr n1 x.c Ar x.A ys x.xs) hT ho hd (wanted_plain rfl) rfl (by decide) (by decide) ?_ (Ext.refl _) rfl
          generalize Act.eval ⟨over Tv U, dd⟩ = ev at *
          simp [execOp, go_sem, v0]
        | 6, ho, hlv, hd =>
          obtain rfl := Option.some.inj ho
          have f0 : U 16 = some (.slice (some ⟨b, off, none⟩) n c) := hT.facts 4 (by decide) (dep hd 4 (by kernel_rfl)) (fun c e => by cases e)
          have v0 : Act.eval ⟨over Tv U, dd⟩ (.tmp 16) = _ := eval_new (t := Tv) (d := dd) f0 (by show 16 < Tv.size; omega)
          have f1 : U 17 = some (.int .i64 (k : Int)) := hT.facts 5 (by decide) (dep hd 5 (by kernel_rfl)) (fun c e => by cases e)
          have v1 : Act.eval ⟨over Tv U, dd⟩ (.tmp 17) = _ := eval_new (t := Tv) (d := dd) f1 (by show 17 < Tv.size; omega)
          have ki := KI.out
          refine tbw_yield (v := .pointer (some ⟨b, off + k, none⟩)) (rmdR_ext (w.heap.size + 1 + 1) w.heap.size wr.heap.size k n k b off c cr n1 x.c Ar x.A ys x.xs) hT ho hd (wanted_plain rfl) rfl (by decide) (by decide) ?_ (Ext.refl _) rfl
          generalize Act.eval ⟨over Tv U, dd⟩ = ev at *
          simp [execOp, go_sem, v0, v1, ki]
        | 7, ho, hlv, hd =>
          obtain rfl := Option.some.inj ho
          have f0 : U 18 = some (.pointer (some ⟨b, off + k, none⟩)) := hT.facts 6 (by decide) (dep hd 6 (by kernel_rfl)) (fun c e => by cases e)
          have v0 : Act.eval ⟨over Tv U, dd⟩ (.tmp 18) = _ := eval_new (t := Tv) (d := dd) f0 (by show 18 < Tv.size; omega)
          have hc := hx.keep HCX.out
          refine tbw_yield (v := .slice x.A n1 x.c) (rmdR_ext (w.heap.size + 1 + 1) w.heap.size wr.heap.size k n k b off c cr n1 x.c Ar x.A ys x.xs) hT ho hd (wanted_plain rfl) rfl (by decide) (by decide) ?_ (Ext.refl _) rfl
          generalize Act.eval ⟨over Tv U, dd⟩ = ev at *
          simp [execOp, go_sem, v0, hc]
        | 8, ho, hlv, hd =>
          obtain rfl := Option.some.inj ho
          have hnA : lv 10 = false := by
            cases hA : lv 10 with
            | false => rfl
            | true => exact absurd (dep (hT.shut 9 _ rfl (dep (hT.shut 10 _ rfl hA) 9 (by kernel_rfl))) 8 (by kernel_rfl)) (by rw [hlv]; decide)
          have hrow : PRow eILt 22 (wr.heap.size) (w.heap.size + 1 + 1 + 1) (.slice Ar k cr) ys (w.heap.size + 1 + 1) (#[.slice Ar k cr]) 46 (Kp.none) (Kp.none) wz := hT.facts 13 (by decide) (hT.past 13 (by decide)) (fun c e => by injection e with e; subst e; exact hnA)
          have hO : POwn 3 1 (wr.heap.size) (U 14) wz := hT.facts 2 (by decide) (dep hd 2 (by kernel_rfl)) (fun c e => by injection e with e; subst e; exact hlv)
          have f1 : U 19 = some (.slice x.A n1 x.c) := hT.facts 7 (by decide) (dep hd 7 (by kernel_rfl)) (fun c e => by cases e)
          have v1 : Act.eval ⟨over Tv U, dd⟩ (.tmp 19) = _ := eval_new (t := Tv) (d := dd) f1 (by show 19 < Tv.size; omega)
          obtain ⟨p, y, w', A1, c1, hU, hrun, hp, hgr, hg⟩ := hO.app (P := Tryz.prog) (E := eI) (t := 22) (ty := 22) rfl Tryz.underlying22 hiI hzI hsI hbI rfl (fun _ _ => trivial) HXL.out (c := x.c) (HSX.out.ext hx) (fun z hz _ => HSX.out.ins z hz) hrow.2.2.1 (by unfold maxLen; have := HXZ.out; omega) HXZ.out
          have v0 : Act.eval ⟨over Tv U, dd⟩ (.tmp 14) = _ := eval_new (t := Tv) (d := dd) hU (by show 14 < Tv.size; omega)
          refine tb_yield (v := .slice A1 n1 c1) (w' := w') hT ho hd rfl rfl (by decide) (by decide) (exec_append rfl v0 v1 hrun) (hx.grown hgr (fun q hq => by injection hq with hq; have := HBN.out; have := HBB.out; omega)) ⟨⟨A1, c1, x.xs⟩, by unfold IL.val; rw [HXL.out], ⟨hg.il, hg.ty⟩, hg.frm.a, rfl⟩ ?_
          intro j hj hji hlj hcj hR
          match j, hj, hR with
          | 0, _, hR => exact hR
          | 1, _, hR => exact hR
          | 2, _, _ => exact absurd rfl (hcj 8 rfl).1
          | 3, _, hR => exact hR
          | 4, _, hR => exact hR
          | 5, _, hR => exact hR
          | 6, _, hR => exact hR
          | 7, _, hR => exact hR
          | 8, _, _ => exact absurd rfl hji
          | 9, _, _ => exact absurd (dep (hT.shut 9 _ rfl hlj) 8 (by kernel_rfl)) (by rw [hlv]; decide)
          | 10, _, _ => exact absurd (dep (hT.shut 9 _ rfl (dep (hT.shut 10 _ rfl hlj) 9 (by kernel_rfl))) 8 (by kernel_rfl)) (by rw [hlv]; decide)
          | 11, _, hR => exact hR
          | 12, _, _ => exact absurd (dep (hT.shut 9 _ rfl (dep (hT.shut 10 _ rfl (dep (hT.shut 12 _ rfl hlj) 10 (by kernel_rfl))) 9 (by kernel_rfl))) 8 (by kernel_rfl)) (by rw [hlv]; decide)
          | 13, _, hR => exact hR.but (fun h => h) (fun h => h) (But.grown hgr) hp (by have := HBN.out; omega) HOB.out (fun z hz => HOF.out p hp z hz)
          | j + 14, hj, _ => exact absurd hj (by omega)
        | 9, ho, hlv, hd =>
          obtain rfl := Option.some.inj ho
          obtain ⟨y0, e0, h2, h3, h4⟩ : PNew eILt (wr.heap.size) (fun y : IL => y.xs = x.xs) (IL.val) (U 20) wz := hT.facts 8 (by decide) (dep hd 8 (by kernel_rfl)) (fun c e => by injection e with e; subst e; exact hlv)
          have v0 : Act.eval ⟨over Tv U, dd⟩ (.tmp 20) = _ := eval_new (t := Tv) (d := dd) e0 (by show 20 < Tv.size; omega)
          refine tbw_yield (v := .slice (some ⟨wz.heap.size, 0, none⟩) 1 1) (rmdR_ext (w.heap.size + 1 + 1) w.heap.size wr.heap.size k n k b off c cr n1 x.c Ar x.A ys x.xs) hT ho hd (wanted_plain rfl) rfl (by decide) (by decide) (exec_buildOne 44 22 (.tmp 20) rfl v0 Tryz.underlying44 hi hz hs (by decide) (by decide) (by simp [IL.val, Value.cells])) ((Ext.refl _).alloc _) (PNew.one (E := eILt) (val := IL.val) 22 (by simp [IL.val, Value.cells, eILt]) h2 h3 h4)
        | 10, ho, hlv, hd =>
          obtain rfl := Option.some.inj ho
          have f0 : U 13 = some (.slice Ar k cr) := hT.facts 1 (by decide) (dep hd 1 (by kernel_rfl)) (fun c e => by cases e)
          have v0 : Act.eval ⟨over Tv U, dd⟩ (.tmp 13) = _ := eval_new (t := Tv) (d := dd) f0 (by show 13 < Tv.size; omega)
          have hnA : lv 10 = false := hlv
          have hrow : PRow eILt 22 (wr.heap.size) (w.heap.size + 1 + 1 + 1) (.slice Ar k cr) ys (w.heap.size + 1 + 1) (#[.slice Ar k cr]) 46 (Kp.none) (Kp.none) wz := hT.facts 13 (by decide) (hT.past 13 (by decide)) (fun c e => by injection e with e; subst e; exact hnA)
          have h1 : POne eILt (wr.heap.size) (fun y : IL => y.xs = x.xs) (U 21) wz := hT.facts 9 (by decide) (dep hd 9 (by kernel_rfl)) (fun c e => by injection e with e; subst e; exact hlv)
          obtain ⟨y, u', w', hU, hrun, hx2, hP⟩ := hrow.app (P := Tryz.prog) (t := 44) (ty := 44) Tryz.underlying44 hi hz hs hb rfl (by decide) HKO.out h1 HOB.out HBN.out hx HBB.out HLM.out HLB.out
          have v1 : Act.eval ⟨over Tv U, dd⟩ (.tmp 21) = _ := eval_new (t := Tv) (d := dd) hU (by show 21 < Tv.size; omega)
          refine tb_yield (v := u') (w' := w') hT ho hd rfl rfl (by decide) (by decide) (exec_append rfl v0 v1 hrun) hx2 hP ?_
          intro j hj hji hlj hcj hR
          match j, hj, hR with
          | 0, _, hR => exact hR
          | 1, _, hR => exact hR
          | 2, _, _ => exact absurd (dep (hT.shut 9 _ rfl (dep hd 9 (by kernel_rfl))) 8 (by kernel_rfl)) (by rw [(hcj 8 rfl).2]; decide)
          | 3, _, hR => exact hR
          | 4, _, hR => exact hR
          | 5, _, hR => exact hR
          | 6, _, hR => exact hR
          | 7, _, hR => exact hR
          | 8, _, _ => exact absurd (dep hd 9 (by kernel_rfl)) (by rw [(hcj 9 rfl).2]; decide)
          | 9, _, _ => exact absurd rfl (hcj 10 rfl).1
          | 10, _, _ => exact absurd rfl hji
          | 11, _, hR => exact hR
          | 12, _, _ => exact absurd (dep (hT.shut 12 _ rfl hlj) 10 (by kernel_rfl)) (by rw [hlv]; decide)
          | 13, _, _ => exact absurd rfl (hcj 10 rfl).1
          | j + 14, hj, _ => exact absurd hj (by omega)
        | 11, ho, hlv, hd =>
          obtain rfl := Option.some.inj ho
          have v0 := eval_old (d := dd) (hT.out 3 (by decide)) (by omega) t3
          refine tbw_yield (v := .pointer (some ⟨w.heap.size + 1 + 1, 0, none⟩)) (rmdR_ext (w.heap.size + 1 + 1) w.heap.size wr.heap.size k n k b off c cr n1 x.c Ar x.A ys x.xs) hT ho hd (wanted_plain rfl) rfl (by decide) (by decide) ?_ (Ext.refl _) rfl
          generalize Act.eval ⟨over Tv U, dd⟩ = ev at *
          simp [execOp, go_sem, v0]
        | 12, ho, hlv, hd =>
          obtain rfl := Option.some.inj ho
          have f0 : U 23 = some (.pointer (some ⟨w.heap.size + 1 + 1, 0, none⟩)) := hT.facts 11 (by decide) (dep hd 11 (by kernel_rfl)) (fun c e => by cases e)
          have v0 : Act.eval ⟨over Tv U, dd⟩ (.tmp 23) = _ := eval_new (t := Tv) (d := dd) f0 (by show 23 < Tv.size; omega)
          obtain ⟨y0, A', c', hU, h2, h3, h4, h5, h6⟩ : PApp eILt (fun y : IL => y.xs = x.xs) 22 (w.heap.size + 1 + 1 + 1) ys (w.heap.size + 1 + 1) (#[.slice Ar k cr]) 46 (Kp.none) (U 22) wz := hT.facts 10 (by decide) (dep hd 10 (by kernel_rfl)) (fun c e => by injection e with e; subst e; exact hlv)
          have v1 : Act.eval ⟨over Tv U, dd⟩ (.tmp 22) = _ := eval_new (t := Tv) (d := dd) hU (by show 22 < Tv.size; omega)
          have hc := (cell_of_row _ _ 0 _ _ _ h5).trans HCO.out
          have hfz := frozen_of_row _ _ 0 _ _ h5
          refine tb_store (w' := wz.setCell ⟨w.heap.size + 1 + 1, 0, none⟩ (.slice A' (ys.length + 1) c')) hT ho hd rfl rfl ?_ (hx.setCell HBG.out _) (PApp.sto rfl h2 h3 h4 h5 h6 HKG.out (by decide) HGB.out HFR.out) ?_
          · generalize Act.eval ⟨over Tv U, dd⟩ = ev at *
            simp [execOp, v0, v1, go_sem, hc, hfz]
          · intro j hj hji hlj hcj hR
            match j, hj, hR with
            | 0, _, hR => exact hR
            | 1, _, hR => exact hR
            | 2, _, _ => exact absurd (dep (hT.shut 9 _ rfl (dep (hT.shut 10 _ rfl (dep hd 10 (by kernel_rfl))) 9 (by kernel_rfl))) 8 (by kernel_rfl)) (by rw [(hcj 8 rfl).2]; decide)
            | 3, _, hR => exact hR
            | 4, _, hR => exact hR
            | 5, _, hR => exact hR
            | 6, _, hR => exact hR
            | 7, _, hR => exact hR
            | 8, _, _ => exact absurd (dep (hT.shut 10 _ rfl (dep hd 10 (by kernel_rfl))) 9 (by kernel_rfl)) (by rw [(hcj 9 rfl).2]; decide)
            | 9, _, _ => exact absurd (dep hd 10 (by kernel_rfl)) (by rw [(hcj 10 rfl).2]; decide)
            | 10, _, _ => exact absurd rfl (hcj 12 rfl).1
            | 11, _, hR => exact hR
            | 12, _, _ => exact absurd rfl hji
            | 13, _, _ => exact absurd (dep hd 10 (by kernel_rfl)) (by rw [(hcj 10 rfl).2]; decide)
            | j + 14, hj, _ => exact absurd hj (by omega)
        | i + 13, ho, _, _ => exact absurd ho (by simp)
      intro U wz hex hout hfin
      have PS : PSto eILt (fun y : IL => y.xs = x.xs) 22 (w.heap.size + 1 + 1 + 1) ys (w.heap.size + 1 + 1) 0 (#[.slice Ar k cr]) 46 (Kp.none) wz := hfin 12 (by decide) rfl
      have XE := Lib.hid hex
      clear hex hfin
      rw [over_list]
      simp (disch := decide) only [overL, Nat.reduceAdd, hout, Option.getD_none]
      clear hout
      obtain ⟨y, A', c', hrow, hfr, hD, hblk, -⟩ := PS
      rw [HYL.out] at hrow hblk
      have HY2 : Hid (rxs (ys ++ [y]) = rxs (rows.take (k + 1))) := Lib.hid (rxs_next HY.out HX.out hD)
      have HYL2 : Hid ((ys ++ [y]).length = k + 1) := Lib.hid (by rw [List.length_append, HYL.out]; rfl)
      have HR2 := Lib.hid hrow
      have HF2 : Hid (∀ z ∈ ys ++ [y], eILt.From (w.heap.size + 1 + 1 + 1) z) := Lib.hid (fun z hz => by
        rcases List.mem_append.1 hz with hz | hz
        · exact HYF.out z hz
        · rw [List.mem_singleton] at hz; rw [hz]; exact hfr)
      have HB2 := Lib.hid hblk
      clear hrow hfr hD hblk
      go_wp2
      go_roundw
      case rel => exact ⟨k + 1, ys ++ [y], A', c', by omega, by go_num, HY2, HYL2, HR2, HF2, HB2, XE⟩
      case measure => simp [intOf]; omega
    · obtain rfl : k = n := by omega
      have HZB := Lib.hid (HXB.out.blockAt HBB0.out)
      have INF : Hid ((Tryz.prog.info? 46).map (·.size) = some (#[.slice Ar k cr] : Array Value).size) := Lib.hid (infoMd rfl)
      have cg : wr.cell? ⟨w.heap.size + 1 + 1, 0, none⟩ = some (.slice Ar k cr) := cell_of_row _ _ 0 _ _ _ HG.out
      have cz : wr.cell? ⟨w.heap.size + 1, 0, none⟩ = some (.slice none 0 0) := cell_of_row _ _ 0 _ _ _ HZB.out
      have fz := frozen_of_row _ _ 0 _ _ HZB.out
      go_wp2
      have HZ2 : (wr.setCell ⟨w.heap.size + 1, 0, none⟩ (.slice Ar k cr)).heap[w.heap.size + 1]? = some (.cells #[.slice Ar k cr] 46 (0, 0)) := heap_setCell_same _ _ _ _ _ _ HZB.out
      refine bodyPost_ret (v := .agg #[.slice Ar k cr]) (results_oneR Tryz.results83 _ _ (w.heap.size + 1) _ #[.slice Ar k cr] _ _ rfl HZ2 Tryz.underlying46 rfl INF.out) rfl ?_
      have hb : But (w.heap.size + 1) wr _ := But.setCell wr ⟨w.heap.size + 1, 0, none⟩ (.slice Ar k cr)
      refine ⟨⟨Ar, cr, ys, by rw [HN.out], ?_, ?_⟩, (HBX.out.trans HXB.out).setCell (show w.heap.size ≤ w.heap.size + 1 by omega) _⟩
      · rw [HY.out, List.take_of_length_le (by rw [HN.out]; exact Nat.le_refl _)]
      · have g : Got eILt wr (w.heap.size + 1 + 1 + 1) Ar ys cr := HROW.out.got rfl HYL.out HYF.out
        exact (g.but hb (by omega)).low (by omega)
end Bk
end Go.Proofs.YtfnmgcblhebdbaaGreatDoor
