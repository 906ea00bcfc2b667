/- BankSames: the walk. Conditions: those of each theorem. -/
import Derived.Test.YtfnmgcblhebdbaaGreatDoorBkW
import Derived.Test.YtfnmgcblhebdbaaGreatDoorBkSp
import Derived.Test.YtfnmgcblhebdbaaGreatDoorBkSr
import Derived.Test.YtfnmgcblhebdbaaGreatDoorBkCy
namespace Go.Proofs.YtfnmgcblhebdbaaGreatDoor
open Go.RowKit
namespace Bk
/-- What each operation of the region leaves. -/
def bsmL (_n0 : Nat) (CA CB : Array Value) (v : Bool) (xa : BankL) : List (Option Value → World → Prop) := [fun u _ => u = some (.agg CA),
  fun u _ => u = some (.agg CB),
  fun u _ => u = some (.bool v),
  fun u _ => u = some (.agg CA),
  fun u _ => u = some (.agg CB),
  fun u _ => u = some (.bool v),
  fun u _ => u = some (.bool true),
  fun u _ => u = some (.bool true),
  fun u _ => u = some (.agg CA),
  fun u _ => u = some (.agg CA),
  fun u w => ∃ W : BankL, u = some W.agg ∧ W.bank = xa.bank ∧ W.In w,
  fun u _ => u = some (.bool true),
  fun u _ => u = some (.bool true),
  fun u _ => u = some (.bool true),
  fun u _ => u = some (.agg CB),
  fun u _ => u = some (.agg CB),
  fun u _ => u = some (.bool true),
  fun u _ => u = some (.bool true),
  fun u _ => u = some (.bool true),
  fun u _ => u = some (.bool true),
  fun u _ => u = some (.bool true),
  fun u _ => u = some (.bool true)]
theorem bsmL_mono (n0 : Nat) (CA CB : Array Value) (v : Bool) (xa : BankL) : AllMono (bsmL n0 CA CB v xa) := ⟨mono_val _, mono_val _, mono_val _, mono_val _, mono_val _, mono_val _, mono_val _, mono_val _, mono_val _, mono_val _, (fun _ _ _ he h => h.elim fun W h => ⟨W, h.1, h.2.1, h.2.2.ext he⟩), mono_val _, mono_val _, mono_val _, mono_val _, mono_val _, mono_val _, mono_val _, mono_val _, mono_val _, mono_val _, mono_val _, trivial⟩
def bsmR (n0 : Nat) (CA CB : Array Value) (v : Bool) (xa : BankL) (j : Nat) (u : Option Value) (w : World) : Prop := (bsmL n0 CA CB v xa).getD j (fun _ _ => True) u w
theorem bsmR_ext (n0 : Nat) (CA CB : Array Value) (v : Bool) (xa : BankL) (j : Nat) (u : Option Value) (w w' : World) (he : Ext w w') (hR : bsmR n0 CA CB v xa j u w) : bsmR n0 CA CB v xa j u w' := ((bsmL_mono n0 CA CB v xa).at_ j) u w w' he hR
def bsmD : List Nat := [15, 16, 17, 18, 19, 20, 21, 22, 23, 24, 25, 26, 27, 28, 29, 30, 31, 32, 33, 34, 35, 4]
def bsmE (n0 : Nat) (t : Array Value) : Prop := t.getD 2 undef = .pointer (some ⟨n0, 0, none⟩) ∧ t.getD 3 undef = .pointer (some ⟨n0 + 1, 0, none⟩) ∧ t.size = 36

set_option maxRecDepth 100000 in
set_option maxHeartbeats 25600000 in
theorem sames_any (a b : BankL) (w : World) (ha : a.In w) (hb : b.In w) (hza : BankSz a.bank) (_hzb : BankSz b.bank) (hG : Gm w) (hF : Fld w) : Calls Tryz.prog 6 #[a.agg, b.agg] w fun e w' => e = .returned (.bool true) ∧ Ext w w' := by
  obtain ⟨CA, hca, hna, -, hka⟩ := a.packed
  obtain ⟨CB, hcb, hnb, -, hkb⟩ := b.packed
  obtain ⟨v, hv⟩ : ∃ v : Bool, v = true ↔ a.bank = b.bank := by
    by_cases h : a.bank = b.bank
    · exact ⟨true, fun _ => h, fun _ => rfl⟩
    · exact ⟨false, fun h2 => absurd h2 (by decide), fun h2 => absurd h2 h⟩
  have X0 : Hid (Ext w ((w.alloc (.cells CA 31)).alloc (.cells CB 31))) := Lib.hid (((Ext.refl _).alloc _).alloc _)
  have K1 := Lib.hid (fun (W : World) (hx : Ext ((w.alloc (.cells CA 31)).alloc (.cells CB 31)) W) => bSame_any a b hv W (ha.ext (X0.out.trans hx)) (hb.ext (X0.out.trans hx)) (hF.ext (X0.out.trans hx)))
  have K2 := Lib.hid (fun (W : World) (hx : Ext ((w.alloc (.cells CA 31)).alloc (.cells CB 31)) W) => rSame_any a b hv W (ha.ext (X0.out.trans hx)) (hb.ext (X0.out.trans hx)))
  have K3 := Lib.hid (fun (W : World) (hx : Ext ((w.alloc (.cells CA 31)).alloc (.cells CB 31)) W) => rCopy_any a W (ha.ext (X0.out.trans hx)) hza)
  have K4 := Lib.hid (fun (W : World) (hx : Ext ((w.alloc (.cells CA 31)).alloc (.cells CB 31)) W) => bSame_any b b (v := true) ⟨fun _ => rfl, fun _ => rfl⟩ W (hb.ext (X0.out.trans hx)) (hb.ext (X0.out.trans hx)) (hF.ext (X0.out.trans hx)))
  have K5 := Lib.hid (fun (W : World) (hx : Ext ((w.alloc (.cells CA 31)).alloc (.cells CB 31)) W) (c : BankL) (h1 : c.bank = a.bank) (h2 : c.In W) => bSame_any a c (v := true) ⟨fun _ => h1.symm, fun _ => rfl⟩ W (ha.ext (X0.out.trans hx)) h2 (hF.ext (X0.out.trans hx)))
  rw [hca, hcb] at K1 K2
  rw [hca] at K3 K5
  rw [hcb] at K4
  rw [hca, hcb]
  have HGM := Lib.hid hG
  have GA : Hid (((w.alloc (.cells CA 31)).alloc (.cells CB 31)).heap[w.heap.size]? = some (.cells CA 31 (0, 0))) := Lib.hid (two_fst' _ _ _)
  have GB : Hid (((w.alloc (.cells CA 31)).alloc (.cells CB 31)).heap[w.heap.size + 1]? = some (.cells CB 31 (0, 0))) := Lib.hid (heap_new_at _ _ _ (by simp))
  have IA : Hid ((Tryz.prog.info? 31).map (·.size) = some CA.size) := Lib.hid (infoBk hna)
  have IB : Hid ((Tryz.prog.info? 31).map (·.size) = some CB.size) := Lib.hid (infoBk hnb)
  obtain ⟨n, hn⟩ : ∃ n, a.ents.length = n := ⟨_, rfl⟩
  obtain ⟨m, hm⟩ : ∃ n, b.ents.length = n := ⟨_, rfl⟩
  have c5 : ((w.alloc (.cells CA 31)).alloc (.cells CB 31)).cell? ⟨w.heap.size, 5, none⟩ = some (.slice a.eA n a.ec) := (cell_of_row _ _ 5 _ _ _ GA.out).trans (by rw [← hka, ← hn]; rfl)
  have d5 : ((w.alloc (.cells CA 31)).alloc (.cells CB 31)).cell? ⟨w.heap.size + 1, 5, none⟩ = some (.slice b.eA m b.ec) := (cell_of_row _ _ 5 _ _ _ GB.out).trans (by rw [← hkb, ← hm]; rfl)
  have EN1 := Lib.hid (enters_of Tryz.func24 (by kernel_rfl) rfl)
  have EN2 := Lib.hid (enters_of Tryz.func12 (by kernel_rfl) rfl)
  have EN3 := Lib.hid (enters_of Tryz.func25 (by kernel_rfl) rfl)
  have EN4 := Lib.hid (enters_of Tryz.func9 (by kernel_rfl) rfl)
  clear ha hb hza _hzb hG hF hca hcb hna hnb hka hkb hn hm hv
  go_enter Tryz.func6, Tryz.ntmps6
  by_cases h1 : (20 : Int) < (n : Int)
  · go_wp2
    go_ret
    exact ⟨rfl, X0.out⟩
  by_cases h2 : (20 : Int) < (m : Int)
  · go_wp2
    go_ret
    exact ⟨rfl, X0.out⟩
  go_wp2_with fail
  refine region_tb (by kernel_rfl) (by decide +kernel) (bsmE w.heap.size) ⟨rfl, rfl, rfl⟩ 22 bsmD (fun _ => none) (bsmR w.heap.size CA CB v a) ((w.alloc (.cells CA 31)).alloc (.cells CB 31)) (Ext.refl _) (fun i h1 h2 => absurd h2 (Nat.not_lt.2 h1)) ?_ ?_
  · intro Tv dd lv U wz i o hE ho hlv hd hT
    obtain ⟨t2, t3, tz⟩ := hE
    have hx := hT.ext
    match i, ho, hlv, hd with
    | 0, ho, hlv, hd =>
      obtain rfl := Option.some.inj ho
      have v0 := eval_old (d := dd) (hT.out 2 (by decide)) (by omega) t2
      refine tbw_yield (v := .agg CA) (bsmR_ext w.heap.size CA CB v a) hT ho hd (wanted_plain rfl) rfl (by decide) (by decide) (exec_load_row _ _ rfl w.heap.size v0 _ _ _ _ (hx.blockAt GA.out) Tryz.underlying31 rfl IA.out) (Ext.refl _) rfl
    | 1, ho, hlv, hd =>
      obtain rfl := Option.some.inj ho
      have v0 := eval_old (d := dd) (hT.out 3 (by decide)) (by omega) t3
      refine tbw_yield (v := .agg CB) (bsmR_ext w.heap.size CA CB v a) hT ho hd (wanted_plain rfl) rfl (by decide) (by decide) (exec_load_row _ _ rfl (w.heap.size + 1) v0 _ _ _ _ (hx.blockAt GB.out) Tryz.underlying31 rfl IB.out) (Ext.refl _) rfl
    | 2, ho, hlv, hd =>
      obtain rfl := Option.some.inj ho
      have f0 : U 15 = some (.agg CA) := hT.facts 0 (by decide) (dep hd 0 (by kernel_rfl)) (fun c e => by cases e)
      have v0 : Act.eval ⟨over Tv U, dd⟩ (.tmp 15) = _ := eval_new (t := Tv) (d := dd) f0 (by show 15 < Tv.size; omega)
      have f1 : U 16 = some (.agg CB) := hT.facts 1 (by decide) (dep hd 1 (by kernel_rfl)) (fun c e => by cases e)
      have v1 : Act.eval ⟨over Tv U, dd⟩ (.tmp 16) = _ := eval_new (t := Tv) (d := dd) f1 (by show 16 < Tv.size; omega)
      refine tbw_call (f := 24) (args := #[.agg CA, .agg CB]) (bsmR_ext w.heap.size CA CB v a) hT ho hd (wanted_plain rfl) rfl (by decide) (by decide) (exec_call2 rfl rfl v0 v1 EN1.out) ?_
      refine (K1.out wz hx).mono ?_
      rintro e w' ⟨rfl, hb⟩
      exact ⟨_, rfl, hb, rfl⟩
    | 3, ho, hlv, hd =>
      obtain rfl := Option.some.inj ho
      have v0 := eval_old (d := dd) (hT.out 2 (by decide)) (by omega) t2
      refine tbw_yield (v := .agg CA) (bsmR_ext w.heap.size CA CB v a) hT ho hd (wanted_plain rfl) rfl (by decide) (by decide) (exec_load_row _ _ rfl w.heap.size v0 _ _ _ _ (hx.blockAt GA.out) Tryz.underlying31 rfl IA.out) (Ext.refl _) rfl
    | 4, ho, hlv, hd =>
      obtain rfl := Option.some.inj ho
      have v0 := eval_old (d := dd) (hT.out 3 (by decide)) (by omega) t3
      refine tbw_yield (v := .agg CB) (bsmR_ext w.heap.size CA CB v a) hT ho hd (wanted_plain rfl) rfl (by decide) (by decide) (exec_load_row _ _ rfl (w.heap.size + 1) v0 _ _ _ _ (hx.blockAt GB.out) Tryz.underlying31 rfl IB.out) (Ext.refl _) rfl
    | 5, ho, hlv, hd =>
      obtain rfl := Option.some.inj ho
      have f0 : U 18 = some (.agg CA) := hT.facts 3 (by decide) (dep hd 3 (by kernel_rfl)) (fun c e => by cases e)
      have v0 : Act.eval ⟨over Tv U, dd⟩ (.tmp 18) = _ := eval_new (t := Tv) (d := dd) f0 (by show 18 < Tv.size; omega)
      have f1 : U 19 = some (.agg CB) := hT.facts 4 (by decide) (dep hd 4 (by kernel_rfl)) (fun c e => by cases e)
      have v1 : Act.eval ⟨over Tv U, dd⟩ (.tmp 19) = _ := eval_new (t := Tv) (d := dd) f1 (by show 19 < Tv.size; omega)
      refine tbw_call (f := 12) (args := #[.agg CA, .agg CB]) (bsmR_ext w.heap.size CA CB v a) hT ho hd (wanted_plain rfl) rfl (by decide) (by decide) (exec_call2 rfl rfl v0 v1 EN2.out) ?_
      refine (K2.out wz hx).mono ?_
      rintro e w' ⟨rfl, hb⟩
      exact ⟨_, rfl, hb, rfl⟩
    | 6, ho, hlv, hd =>
      obtain rfl := Option.some.inj ho
      have f0 : U 17 = some (.bool v) := hT.facts 2 (by decide) (dep hd 2 (by kernel_rfl)) (fun c e => by cases e)
      have v0 : Act.eval ⟨over Tv U, dd⟩ (.tmp 17) = _ := eval_new (t := Tv) (d := dd) f0 (by show 17 < Tv.size; omega)
      have f1 : U 20 = some (.bool v) := hT.facts 5 (by decide) (dep hd 5 (by kernel_rfl)) (fun c e => by cases e)
      have v1 : Act.eval ⟨over Tv U, dd⟩ (.tmp 20) = _ := eval_new (t := Tv) (d := dd) f1 (by show 20 < Tv.size; omega)
      refine tbw_yield (v := .bool true) (bsmR_ext w.heap.size CA CB v a) hT ho hd (wanted_plain rfl) rfl (by decide) (by decide) ?_ (Ext.refl _) rfl
      generalize Act.eval ⟨over Tv U, dd⟩ = ev at *
      simp [execOp, go_sem, v0, v1]
    | 7, ho, hlv, hd =>
      obtain rfl := Option.some.inj ho
      have f0 : U 21 = some (.bool true) := hT.facts 6 (by decide) (dep hd 6 (by kernel_rfl)) (fun c e => by cases e)
      have v0 : Act.eval ⟨over Tv U, dd⟩ (.tmp 21) = _ := eval_new (t := Tv) (d := dd) f0 (by show 21 < Tv.size; omega)
      refine tbw_yield (v := .bool true) (bsmR_ext w.heap.size CA CB v a) hT ho hd (wanted_plain rfl) rfl (by decide) (by decide) ?_ (Ext.refl _) rfl
      generalize Act.eval ⟨over Tv U, dd⟩ = ev at *
      simp [execOp, go_sem, v0]
    | 8, ho, hlv, hd =>
      obtain rfl := Option.some.inj ho
      have hgu : U 22 = some (.bool true) := hT.facts 7 (by decide) (dep hd 7 (by kernel_rfl)) (fun c e => by cases e)
      have v0 := eval_old (d := dd) (hT.out 2 (by decide)) (by omega) t2
      refine tbw_yield (v := .agg CA) (bsmR_ext w.heap.size CA CB v a) hT ho hd (wanted_of (j := 7) (s := 22) (b := true) rfl rfl rfl hgu (by show 22 < Tv.size; omega)) rfl (by decide) (by decide) (exec_load_row _ _ rfl w.heap.size v0 _ _ _ _ (hx.blockAt GA.out) Tryz.underlying31 rfl IA.out) (Ext.refl _) rfl
    | 9, ho, hlv, hd =>
      obtain rfl := Option.some.inj ho
      have hgu : U 22 = some (.bool true) := hT.facts 7 (by decide) (dep hd 7 (by kernel_rfl)) (fun c e => by cases e)
      have v0 := eval_old (d := dd) (hT.out 2 (by decide)) (by omega) t2
      refine tbw_yield (v := .agg CA) (bsmR_ext w.heap.size CA CB v a) hT ho hd (wanted_of (j := 7) (s := 22) (b := true) rfl rfl rfl hgu (by show 22 < Tv.size; omega)) rfl (by decide) (by decide) (exec_load_row _ _ rfl w.heap.size v0 _ _ _ _ (hx.blockAt GA.out) Tryz.underlying31 rfl IA.out) (Ext.refl _) rfl
    | 10, ho, hlv, hd =>
      obtain rfl := Option.some.inj ho
      have hgu : U 22 = some (.bool true) := hT.facts 7 (by decide) (dep hd 7 (by kernel_rfl)) (fun c e => by cases e)
      have f0 : U 24 = some (.agg CA) := hT.facts 9 (by decide) (dep hd 9 (by kernel_rfl)) (fun c e => by cases e)
      have v0 : Act.eval ⟨over Tv U, dd⟩ (.tmp 24) = _ := eval_new (t := Tv) (d := dd) f0 (by show 24 < Tv.size; omega)
      refine tbw_call (f := 25) (args := #[.agg CA]) (bsmR_ext w.heap.size CA CB v a) hT ho hd (wanted_of (j := 7) (s := 22) (b := true) rfl rfl rfl hgu (by show 22 < Tv.size; omega)) rfl (by decide) (by decide) (exec_call1 rfl rfl v0 EN3.out) ?_
      refine (K3.out wz hx).mono ?_
      rintro e w' ⟨⟨c, rfl, h1, h2⟩, hb⟩
      exact ⟨_, rfl, hb, c, rfl, h1, h2⟩
    | 11, ho, hlv, hd =>
      obtain rfl := Option.some.inj ho
      have hgu : U 22 = some (.bool true) := hT.facts 7 (by decide) (dep hd 7 (by kernel_rfl)) (fun c e => by cases e)
      have hgu : U 22 = some (.bool true) := hT.facts 7 (by decide) (dep hd 7 (by kernel_rfl)) (fun c e => by cases e)
      have f0 : U 23 = some (.agg CA) := hT.facts 8 (by decide) (dep hd 8 (by kernel_rfl)) (fun c e => by cases e)
      have v0 : Act.eval ⟨over Tv U, dd⟩ (.tmp 23) = _ := eval_new (t := Tv) (d := dd) f0 (by show 23 < Tv.size; omega)
      obtain ⟨c, e1, h1, h2⟩ : ∃ W : BankL, U 25 = some W.agg ∧ W.bank = a.bank ∧ W.In wz := hT.facts 10 (by decide) (dep hd 10 (by kernel_rfl)) (fun c e => by cases e)
      have v1 : Act.eval ⟨over Tv U, dd⟩ (.tmp 25) = _ := eval_new (t := Tv) (d := dd) e1 (by show 25 < Tv.size; omega)
      refine tbw_call (f := 24) (args := #[.agg CA, c.agg]) (bsmR_ext w.heap.size CA CB v a) hT ho hd (wanted_of (j := 7) (s := 22) (b := true) rfl rfl rfl hgu (by show 22 < Tv.size; omega)) rfl (by decide) (by decide) (exec_call2 rfl rfl v0 v1 EN1.out) ?_
      refine (K5.out wz hx c h1 h2).mono ?_
      rintro e w' ⟨rfl, hb⟩
      exact ⟨_, rfl, hb, rfl⟩
    | 12, ho, hlv, hd =>
      obtain rfl := Option.some.inj ho
      have f0 : U 22 = some (.bool true) := hT.facts 7 (by decide) (dep hd 7 (by kernel_rfl)) (fun c e => by cases e)
      have v0 : Act.eval ⟨over Tv U, dd⟩ (.tmp 22) = _ := eval_new (t := Tv) (d := dd) f0 (by show 22 < Tv.size; omega)
      have f1 : U 26 = some (.bool true) := hT.facts 11 (by decide) (dep hd 11 (by kernel_rfl)) (fun c e => by cases e)
      have v1 : Act.eval ⟨over Tv U, dd⟩ (.tmp 26) = _ := eval_new (t := Tv) (d := dd) f1 (by show 26 < Tv.size; omega)
      have v2 : Act.eval ⟨over Tv U, dd⟩ (.const (.bool false)) = .bool false := rfl
      refine tbw_yield (v := .bool true) (bsmR_ext w.heap.size CA CB v a) hT ho hd (wanted_plain rfl) rfl (by decide) (by decide) ?_ (Ext.refl _) rfl
      generalize Act.eval ⟨over Tv U, dd⟩ = ev at *
      simp [execOp, go_sem, v0, v1, v2]
    | 13, ho, hlv, hd =>
      obtain rfl := Option.some.inj ho
      have f0 : U 27 = some (.bool true) := hT.facts 12 (by decide) (dep hd 12 (by kernel_rfl)) (fun c e => by cases e)
      have v0 : Act.eval ⟨over Tv U, dd⟩ (.tmp 27) = _ := eval_new (t := Tv) (d := dd) f0 (by show 27 < Tv.size; omega)
      refine tbw_yield (v := .bool true) (bsmR_ext w.heap.size CA CB v a) hT ho hd (wanted_plain rfl) rfl (by decide) (by decide) ?_ (Ext.refl _) rfl
      generalize Act.eval ⟨over Tv U, dd⟩ = ev at *
      simp [execOp, go_sem, v0]
    | 14, ho, hlv, hd =>
      obtain rfl := Option.some.inj ho
      have hgu : U 28 = some (.bool true) := hT.facts 13 (by decide) (dep hd 13 (by kernel_rfl)) (fun c e => by cases e)
      have v0 := eval_old (d := dd) (hT.out 3 (by decide)) (by omega) t3
      refine tbw_yield (v := .agg CB) (bsmR_ext w.heap.size CA CB v a) hT ho hd (wanted_of (j := 13) (s := 28) (b := true) rfl rfl rfl hgu (by show 28 < Tv.size; omega)) rfl (by decide) (by decide) (exec_load_row _ _ rfl (w.heap.size + 1) v0 _ _ _ _ (hx.blockAt GB.out) Tryz.underlying31 rfl IB.out) (Ext.refl _) rfl
    | 15, ho, hlv, hd =>
      obtain rfl := Option.some.inj ho
      have hgu : U 28 = some (.bool true) := hT.facts 13 (by decide) (dep hd 13 (by kernel_rfl)) (fun c e => by cases e)
      have v0 := eval_old (d := dd) (hT.out 3 (by decide)) (by omega) t3
      refine tbw_yield (v := .agg CB) (bsmR_ext w.heap.size CA CB v a) hT ho hd (wanted_of (j := 13) (s := 28) (b := true) rfl rfl rfl hgu (by show 28 < Tv.size; omega)) rfl (by decide) (by decide) (exec_load_row _ _ rfl (w.heap.size + 1) v0 _ _ _ _ (hx.blockAt GB.out) Tryz.underlying31 rfl IB.out) (Ext.refl _) rfl
    | 16, ho, hlv, hd =>
      obtain rfl := Option.some.inj ho
      have hgu : U 28 = some (.bool true) := hT.facts 13 (by decide) (dep hd 13 (by kernel_rfl)) (fun c e => by cases e)
      have f0 : U 29 = some (.agg CB) := hT.facts 14 (by decide) (dep hd 14 (by kernel_rfl)) (fun c e => by cases e)
      have v0 : Act.eval ⟨over Tv U, dd⟩ (.tmp 29) = _ := eval_new (t := Tv) (d := dd) f0 (by show 29 < Tv.size; omega)
      have f1 : U 30 = some (.agg CB) := hT.facts 15 (by decide) (dep hd 15 (by kernel_rfl)) (fun c e => by cases e)
      have v1 : Act.eval ⟨over Tv U, dd⟩ (.tmp 30) = _ := eval_new (t := Tv) (d := dd) f1 (by show 30 < Tv.size; omega)
      refine tbw_call (f := 24) (args := #[.agg CB, .agg CB]) (bsmR_ext w.heap.size CA CB v a) hT ho hd (wanted_of (j := 13) (s := 28) (b := true) rfl rfl rfl hgu (by show 28 < Tv.size; omega)) rfl (by decide) (by decide) (exec_call2 rfl rfl v0 v1 EN1.out) ?_
      refine (K4.out wz hx).mono ?_
      rintro e w' ⟨rfl, hb⟩
      exact ⟨_, rfl, hb, rfl⟩
    | 17, ho, hlv, hd =>
      obtain rfl := Option.some.inj ho
      have f0 : U 28 = some (.bool true) := hT.facts 13 (by decide) (dep hd 13 (by kernel_rfl)) (fun c e => by cases e)
      have v0 : Act.eval ⟨over Tv U, dd⟩ (.tmp 28) = _ := eval_new (t := Tv) (d := dd) f0 (by show 28 < Tv.size; omega)
      have f1 : U 31 = some (.bool true) := hT.facts 16 (by decide) (dep hd 16 (by kernel_rfl)) (fun c e => by cases e)
      have v1 : Act.eval ⟨over Tv U, dd⟩ (.tmp 31) = _ := eval_new (t := Tv) (d := dd) f1 (by show 31 < Tv.size; omega)
      have v2 : Act.eval ⟨over Tv U, dd⟩ (.const (.bool false)) = .bool false := rfl
      refine tbw_yield (v := .bool true) (bsmR_ext w.heap.size CA CB v a) hT ho hd (wanted_plain rfl) rfl (by decide) (by decide) ?_ (Ext.refl _) rfl
      generalize Act.eval ⟨over Tv U, dd⟩ = ev at *
      simp [execOp, go_sem, v0, v1, v2]
    | 18, ho, hlv, hd =>
      obtain rfl := Option.some.inj ho
      have f0 : U 32 = some (.bool true) := hT.facts 17 (by decide) (dep hd 17 (by kernel_rfl)) (fun c e => by cases e)
      have v0 : Act.eval ⟨over Tv U, dd⟩ (.tmp 32) = _ := eval_new (t := Tv) (d := dd) f0 (by show 32 < Tv.size; omega)
      refine tbw_yield (v := .bool true) (bsmR_ext w.heap.size CA CB v a) hT ho hd (wanted_plain rfl) rfl (by decide) (by decide) ?_ (Ext.refl _) rfl
      generalize Act.eval ⟨over Tv U, dd⟩ = ev at *
      simp [execOp, go_sem, v0]
    | 19, ho, hlv, hd =>
      obtain rfl := Option.some.inj ho
      have hgu : U 33 = some (.bool true) := hT.facts 18 (by decide) (dep hd 18 (by kernel_rfl)) (fun c e => by cases e)
      refine tbw_call (f := 9) (args := #[]) (bsmR_ext w.heap.size CA CB v a) hT ho hd (wanted_of (j := 18) (s := 33) (b := true) rfl rfl rfl hgu (by show 33 < Tv.size; omega)) rfl (by decide) (by decide) (exec_call0 rfl rfl  EN4.out) ?_
      refine (awake_any wz (HGM.out.ext (X0.out.trans hx))).mono ?_
      rintro e w' ⟨rfl, hb⟩
      exact ⟨_, rfl, hb, rfl⟩
    | 20, ho, hlv, hd =>
      obtain rfl := Option.some.inj ho
      have f0 : U 33 = some (.bool true) := hT.facts 18 (by decide) (dep hd 18 (by kernel_rfl)) (fun c e => by cases e)
      have v0 : Act.eval ⟨over Tv U, dd⟩ (.tmp 33) = _ := eval_new (t := Tv) (d := dd) f0 (by show 33 < Tv.size; omega)
      have f1 : U 34 = some (.bool true) := hT.facts 19 (by decide) (dep hd 19 (by kernel_rfl)) (fun c e => by cases e)
      have v1 : Act.eval ⟨over Tv U, dd⟩ (.tmp 34) = _ := eval_new (t := Tv) (d := dd) f1 (by show 34 < Tv.size; omega)
      have v2 : Act.eval ⟨over Tv U, dd⟩ (.const (.bool false)) = .bool false := rfl
      refine tbw_yield (v := .bool true) (bsmR_ext w.heap.size CA CB v a) hT ho hd (wanted_plain rfl) rfl (by decide) (by decide) ?_ (Ext.refl _) rfl
      generalize Act.eval ⟨over Tv U, dd⟩ = ev at *
      simp [execOp, go_sem, v0, v1, v2]
    | 21, ho, hlv, hd =>
      obtain rfl := Option.some.inj ho
      have f0 : U 35 = some (.bool true) := hT.facts 20 (by decide) (dep hd 20 (by kernel_rfl)) (fun c e => by cases e)
      have v0 : Act.eval ⟨over Tv U, dd⟩ (.tmp 35) = _ := eval_new (t := Tv) (d := dd) f0 (by show 35 < Tv.size; omega)
      refine tbw_yield (v := .bool true) (bsmR_ext w.heap.size CA CB v a) hT ho hd (wanted_plain rfl) rfl (by decide) (by decide) ?_ (Ext.refl _) rfl
      generalize Act.eval ⟨over Tv U, dd⟩ = ev at *
      simp [execOp, go_sem, v0]
    | i + 22, ho, _, _ => exact absurd ho (by simp)
  intro U wz hex hout hfin
  have f4 : U 4 = some (.bool true) := hfin 21 (by decide) rfl
  have XE := Lib.hid hex
  clear hex hfin
  rw [over_list]
  simp (disch := decide) only [overL, Nat.reduceAdd, hout, Option.getD_none]
  rw [f4]
  simp only [Option.getD_some]
  clear hout f4
  go_wp2
  go_ret
  exact ⟨rfl, X0.out.trans XE.out⟩
end Bk
end Go.Proofs.YtfnmgcblhebdbaaGreatDoor
