/- bank.addTopic on an empty outline: a contract for the law's first example. Conditions: those of each theorem. -/
import Derived.Test.YtfnmgcblhebdbaaGreatDoorBkT
import Derived.Test.YtfnmgcblhebdbaaGreatDoorBkR
namespace Go.Proofs.YtfnmgcblhebdbaaGreatDoor
open Go.RowKit
namespace Bk
theorem rng2 {w : World} {n o : Nat} {CS : Array Value} {T : TypeId} {a b : Value} (h : w.heap[n]? = some (.cells CS T (0, 0))) (h1 : CS[o]? = some a) (h2 : CS[o + 1]? = some b) : w.rangeAt n o (#[a, b] : Array Value).toList := fun j v hv => by
  match j, hv with
  | 0, hv => injection hv with hv; subst hv; exact (cell_of_row _ _ o _ _ _ h).trans h1
  | 1, hv => injection hv with hv; subst hv; exact (cell_of_row _ _ (o + 1) _ _ _ h).trans h2
  | j + 2, hv => simp at hv
def KCo (n : Nat) (CC : Array Value) : Kp := ⟨fun w => w.heap[n]? = some (.cells CC 48 (0, 0)), fun h he => he.blockAt h⟩
theorem KCo_g {n g : Nat} {CC : Array Value} (hne : n ≠ g) : ∀ (w w' : World), But g w w' → (KCo n CC).K w → (KCo n CC).K w' := fun w w' hb h => by
  show w'.heap[n]? = _
  rw [hb.2 n (blk_lt h) hne]
  exact h
/-- What each operation of the region leaves. -/
def at3L (g n : Nat) (CB : Array Value) (s : ByteArray) : List (Option Value → World → Prop) := [fun u _ => u = some (.pointer (some ⟨g, 0, none⟩)),
  fun u _ => u = some (.pointer (some ⟨g, 0, none⟩)),
  fun u _ => u = some (.agg CB),
  fun u _ => u = some (.pointer (some ⟨n, 24, none⟩)),
  fun u _ => u = some (.pointer (some ⟨n, 24, none⟩)),
  fun u _ => u = some (.string s),
  fun u _ => u = some (.bool false)]
theorem at3L_mono (g n : Nat) (CB : Array Value) (s : ByteArray) : AllMono (at3L g n CB s) := ⟨mono_val _, mono_val _, mono_val _, mono_val _, mono_val _, mono_val _, mono_val _, trivial⟩
def at3R (g n : Nat) (CB : Array Value) (s : ByteArray) (j : Nat) (u : Option Value) (w : World) : Prop := (at3L g n CB s).getD j (fun _ _ => True) u w
theorem at3R_ext (g n : Nat) (CB : Array Value) (s : ByteArray) (j : Nat) (u : Option Value) (w w' : World) (he : Ext w w') (hR : at3R g n CB s j u w) : at3R g n CB s j u w' := ((at3L_mono g n CB s).at_ j) u w w' he hR
def at3D : List Nat := [11, 12, 13, 14, 15, 16, 17]
def at3E (g n : Nat) (t : Array Value) : Prop := t.getD 0 undef = .pointer (some ⟨g, 0, none⟩) ∧ t.getD 3 undef = .pointer (some ⟨n, 0, none⟩) ∧ t.size = 62

/-- What each operation of the region leaves. -/
def at8L (g n : Nat) (CB CC : Array Value) : List (Option Value → World → Prop) := [fun u _ => u = some (.pointer (some ⟨g, 0, none⟩)),
  fun u _ => u = some (.pointer (some ⟨g, 0, none⟩)),
  fun u _ => u = some (.pointer (some ⟨g, 0, none⟩)),
  fun u _ => u = some (.pointer (some ⟨g, 3, none⟩)),
  fun u _ => u = some (.slice none 0 0),
  fun u _ => u = some (.int .i64 0),
  fun u _ => u = some (.pointer (some ⟨n, 24, none⟩)),
  fun u w => PNew eTpc (g + 1) (fun x : Tpc => x = (cA, cT)) (fun x : Tpc => .agg #[.string x.1, .string x.2]) u w,
  fun u w => POne eTpc (g + 1) (fun x : Tpc => x = (cA, cT)) u w,
  fun u w => PApp eTpc (fun x : Tpc => x = (cA, cT)) 41 (g + 1) ([] : List Tpc) (g) (CB) 31 (KCo n CC) u w,
  fun u _ => u = some (.pointer (some ⟨g, 0, none⟩)),
  fun u _ => u = some (.pointer (some ⟨g, 3, none⟩)),
  fun _ w => PSto eTpc (fun x : Tpc => x = (cA, cT)) 41 (g + 1) ([] : List Tpc) (g) 3 (CB) 31 (KCo n CC) w,
  fun _ w => PRow eTpc 41 (g + 1) (g + 1) (.slice none 0 0) ([] : List Tpc) (g) (CB) 31 (KCo n CC) (Kp.none) w]
theorem at8L_mono (g n : Nat) (CB CC : Array Value) : AllMono (at8L g n CB CC) := ⟨mono_val _, mono_val _, mono_val _, mono_val _, mono_val _, mono_val _, mono_val _, (fun _ _ _ he h => PNew.mono he h), (fun _ _ _ he h => POne.mono he h), (fun _ _ _ he h => PApp.mono he h), mono_val _, mono_val _, (fun _ _ _ he h => PSto.mono he h), (fun _ _ _ he h => PRow.mono he h), trivial⟩
def at8R (g n : Nat) (CB CC : Array Value) (j : Nat) (u : Option Value) (w : World) : Prop := (at8L g n CB CC).getD j (fun _ _ => True) u w
theorem at8R_ext (g n : Nat) (CB CC : Array Value) (j : Nat) (u : Option Value) (w w' : World) (he : Ext w w') (hR : at8R g n CB CC j u w) : at8R g n CB CC j u w' := ((at8L_mono g n CB CC).at_ j) u w w' he hR
def at8D : List Nat := [41, 42, 43, 44, 45, 46, 47, 48, 49, 50, 51, 52, 900, 901]
def at8C (j : Nat) : Option Nat := if j = 7 then some 8 else if j = 8 then some 9 else if j = 9 then some 12 else if j = 13 then some 9 else none
def at8E (g n : Nat) (t : Array Value) : Prop := t.getD 0 undef = .pointer (some ⟨g, 0, none⟩) ∧ t.getD 3 undef = .pointer (some ⟨n, 0, none⟩) ∧ t.getD 5 undef = .int .i64 0 ∧ t.size = 62

set_option maxRecDepth 100000 in
set_option maxHeartbeats 12800000 in
theorem addE_any (B : World) (g : Nat) (CB CC : Array Value) (w : World) (hB : Ext B w) (hg : B.heap.size ≤ g) (hb : w.heap[g]? = some (.cells CB 31 (0, 0))) (h3 : CB[3]? = some (.slice none 0 0)) (hn : CB.size = 7)
    (hnc : (Tryz.prog.info? 48).map (·.size) = some CC.size) (h2 : CC[2]? = some (.int .i64 16)) (hA : CC[24]? = some (.string cA)) (hT : CC[25]? = some (.string cT)) (hG : Gm B) :
    Calls Tryz.prog 30 #[.pointer (some ⟨g, 0, none⟩), .agg CC] w fun e w' => (e = .returned (.int .i64 0) ∧ ∃ A c, RowX eTpc 41 w' (g + 1) (.slice A 1 c) [(cA, cT)] ∧ w'.heap[g]? = some (.cells (CB.setIfInBounds 3 (.slice A 1 c)) 31 (0, 0))) ∧ Ext B w' := by
  have HNE : Hid (w.heap.size ≠ g) := Lib.hid (by have := blk_lt hb; omega)
  have HXB := Lib.hid (hB.trans ((Ext.refl w).alloc (.cells CC 48)))
  have HB0 := Lib.hid (((Ext.refl w).alloc (.cells CC 48)).blockAt hb)
  have HC0 : Hid ((w.alloc (.cells CC 48)).heap[w.heap.size]? = some (.cells CC 48 (0, 0))) := Lib.hid (heap_alloc_new w _)
  have H3 := Lib.hid h3
  have IB : Hid ((Tryz.prog.info? 31).map (·.size) = some CB.size) := Lib.hid (infoBk hn)
  have IC := Lib.hid hnc
  have H2 := Lib.hid h2
  have HA := Lib.hid hA
  have HT := Lib.hid hT
  have HGM := Lib.hid hG
  have HBG := Lib.hid hg
  have IT : Hid ((Tryz.prog.info? 41).map (·.size) = some (#[.string cA, .string cT] : Array Value).size) := Lib.hid (infoTp rfl)
  have ENH := Lib.hid (enters_of Tryz.func63 (by kernel_rfl) rfl)
  have ENI := Lib.hid (enters_of Tryz.func64 (by kernel_rfl) rfl)
  clear hB hg hb h3 hn hnc h2 hA hT hG
  obtain ⟨i0, hi, hxi⟩ := Option.map_eq_some_iff.1 infoTpF
  simp only [Prod.mk.injEq] at hxi
  obtain ⟨hz, hs, -⟩ := hxi
  go_enter Tryz.func30, Tryz.ntmps30
  go_wp2_with (with_reducible refine wpList_load_row rfl 48 (.tmp 3) rfl (w.heap.size) (by with_unfolding_all rfl) _ CC _ _ HC0.out Tryz.underlying48 rfl IC.out ?_)
  with_reducible refine (has16_any CC H2.out _).mono ?_
  rintro e w1 ⟨rfl, hb1⟩
  have HX1 := Lib.hid (HXB.out.trans hb1)
  have HB1 := Lib.hid (hb1.blockAt HB0.out)
  have HC1 := Lib.hid (hb1.blockAt HC0.out)
  have HC24 : Hid (w1.cell? ⟨w.heap.size, 24, none⟩ = some (.string cA)) := Lib.hid ((cell_of_row _ _ 24 _ _ _ HC1.out).trans HA.out)
  clear hb1
  go_wp2_with fail
  refine region_tb (by kernel_rfl) (by decide +kernel) (at3E g w.heap.size) ⟨rfl, rfl, rfl⟩ 7 at3D (fun _ => none) (at3R g w.heap.size CB cA) w1 (Ext.refl _) (fun i h1 h2 => absurd h2 (Nat.not_lt.2 h1)) ?_ ?_
  · intro Tv dd lv U wz i o hE ho hlv hd hT
    obtain ⟨t0, t3, tz⟩ := hE
    have hx := hT.ext
    match i, ho, hlv, hd with
    | 0, ho, hlv, hd =>
      obtain rfl := Option.some.inj ho
      have v0 := eval_old (d := dd) (hT.out 0 (by decide)) (by omega) t0
      refine tbw_yield (v := .pointer (some ⟨g, 0, none⟩)) (at3R_ext g w.heap.size CB cA) hT ho hd (wanted_plain rfl) rfl (by decide) (by decide) ?_ (Ext.refl _) rfl
      generalize Act.eval ⟨over Tv U, dd⟩ = ev at *
      simp [execOp, go_sem, v0]
    | 1, ho, hlv, hd =>
      obtain rfl := Option.some.inj ho
      have f0 : U 11 = some (.pointer (some ⟨g, 0, none⟩)) := hT.facts 0 (by decide) (dep hd 0 (by kernel_rfl)) (fun c e => by cases e)
      have v0 : Act.eval ⟨over Tv U, dd⟩ (.tmp 11) = _ := eval_new (t := Tv) (d := dd) f0 (by show 11 < Tv.size; omega)
      refine tbw_yield (v := .pointer (some ⟨g, 0, none⟩)) (at3R_ext g w.heap.size CB cA) hT ho hd (wanted_plain rfl) rfl (by decide) (by decide) ?_ (Ext.refl _) rfl
      generalize Act.eval ⟨over Tv U, dd⟩ = ev at *
      simp [execOp, go_sem, v0]
    | 2, ho, hlv, hd =>
      obtain rfl := Option.some.inj ho
      have f0 : U 12 = some (.pointer (some ⟨g, 0, none⟩)) := hT.facts 1 (by decide) (dep hd 1 (by kernel_rfl)) (fun c e => by cases e)
      have v0 : Act.eval ⟨over Tv U, dd⟩ (.tmp 12) = _ := eval_new (t := Tv) (d := dd) f0 (by show 12 < Tv.size; omega)
      refine tbw_yield (v := .agg CB) (at3R_ext g w.heap.size CB cA) hT ho hd (wanted_plain rfl) rfl (by decide) (by decide) (exec_load_row _ _ rfl g v0 _ _ _ _ (hx.blockAt HB1.out) Tryz.underlying31 rfl IB.out) (Ext.refl _) rfl
    | 3, ho, hlv, hd =>
      obtain rfl := Option.some.inj ho
      have v0 := eval_old (d := dd) (hT.out 3 (by decide)) (by omega) t3
      refine tbw_yield (v := .pointer (some ⟨w.heap.size, 24, none⟩)) (at3R_ext g w.heap.size CB cA) hT ho hd (wanted_plain rfl) rfl (by decide) (by decide) ?_ (Ext.refl _) rfl
      generalize Act.eval ⟨over Tv U, dd⟩ = ev at *
      simp [execOp, go_sem, v0]
    | 4, ho, hlv, hd =>
      obtain rfl := Option.some.inj ho
      have f0 : U 14 = some (.pointer (some ⟨w.heap.size, 24, none⟩)) := hT.facts 3 (by decide) (dep hd 3 (by kernel_rfl)) (fun c e => by cases e)
      have v0 : Act.eval ⟨over Tv U, dd⟩ (.tmp 14) = _ := eval_new (t := Tv) (d := dd) f0 (by show 14 < Tv.size; omega)
      refine tbw_yield (v := .pointer (some ⟨w.heap.size, 24, none⟩)) (at3R_ext g w.heap.size CB cA) hT ho hd (wanted_plain rfl) rfl (by decide) (by decide) ?_ (Ext.refl _) rfl
      generalize Act.eval ⟨over Tv U, dd⟩ = ev at *
      simp [execOp, go_sem, v0]
    | 5, ho, hlv, hd =>
      obtain rfl := Option.some.inj ho
      have f0 : U 15 = some (.pointer (some ⟨w.heap.size, 24, none⟩)) := hT.facts 4 (by decide) (dep hd 4 (by kernel_rfl)) (fun c e => by cases e)
      have v0 : Act.eval ⟨over Tv U, dd⟩ (.tmp 15) = _ := eval_new (t := Tv) (d := dd) f0 (by show 15 < Tv.size; omega)
      have hc := hx.keep HC24.out
      refine tbw_yield (v := .string cA) (at3R_ext g w.heap.size CB cA) hT ho hd (wanted_plain rfl) rfl (by decide) (by decide) ?_ (Ext.refl _) rfl
      generalize Act.eval ⟨over Tv U, dd⟩ = ev at *
      simp [execOp, go_sem, v0, hc]
    | 6, ho, hlv, hd =>
      obtain rfl := Option.some.inj ho
      have f0 : U 13 = some (.agg CB) := hT.facts 2 (by decide) (dep hd 2 (by kernel_rfl)) (fun c e => by cases e)
      have v0 : Act.eval ⟨over Tv U, dd⟩ (.tmp 13) = _ := eval_new (t := Tv) (d := dd) f0 (by show 13 < Tv.size; omega)
      have f1 : U 16 = some (.string cA) := hT.facts 5 (by decide) (dep hd 5 (by kernel_rfl)) (fun c e => by cases e)
      have v1 : Act.eval ⟨over Tv U, dd⟩ (.tmp 16) = _ := eval_new (t := Tv) (d := dd) f1 (by show 16 < Tv.size; omega)
      refine tbw_call (f := 63) (args := #[.agg CB, .string cA]) (at3R_ext g w.heap.size CB cA) hT ho hd (wanted_plain rfl) rfl (by decide) (by decide) (exec_call2 rfl rfl v0 v1 ENH.out) ?_
      refine (hasE_any CB cA H3.out wz).mono ?_
      rintro e w' ⟨rfl, hb⟩
      exact ⟨_, rfl, hb, rfl⟩
    | i + 7, ho, _, _ => exact absurd ho (by simp)
  intro U wz hex hout hfin
  have f17 : U 17 = some (.bool false) := hfin 6 (by decide) rfl
  have XE := Lib.hid hex
  clear hex hfin
  rw [over_list]
  simp (disch := decide) only [overL, Nat.reduceAdd, hout, Option.getD_none]
  rw [f17]
  simp only [Option.getD_some]
  clear hout f17
  have HX2 := Lib.hid (HX1.out.trans XE.out)
  have HB2 := Lib.hid (XE.out.blockAt HB1.out)
  have HC2 := Lib.hid (XE.out.blockAt HC1.out)
  go_wp2
  go_loopw [5] (fun i wr => i = .int .i64 0 ∧ Hid (wr = wz)) (fun _ _ => 0)
  case atStart => exact ⟨rfl, Lib.hid rfl⟩
  case round =>
  obtain ⟨rfl, HWZ⟩ := hrel
  obtain rfl := HWZ.out
  have c3 : wr.cell? ⟨g, 3, none⟩ = some (.slice none 0 0) := (cell_of_row _ _ 3 _ _ _ HB2.out).trans H3.out
  go_wp2
  go_quiet (fail)
  go_wp2_with fail
  have HCO := H3
  have HGB : Hid (g < g + 1) := Lib.hid (Nat.lt_succ_self _)
  have HFR : Hid (∀ y ∈ ([] : List Tpc), eTpc.From (g + 1) y) := Lib.hid (fun _ _ => trivial)
  have HROW0 : Hid (∀ q, PRow eTpc 41 (g + 1) (g + 1) (.slice none 0 0) [] g CB 31 (KCo w.heap.size CC) Kp.none (wr.drewN q)) := Lib.hid (fun q => PRow.mono ((Ext.refl _).drewN q) ⟨RowX.nil _ _ _, HB2.out, blk_lt HB2.out, HC2.out, trivial⟩)
  have HKG := Lib.hid (KCo_g (CC := CC) HNE.out)
  go_wp2_with fail
  refine region_tb (by kernel_rfl) (by decide +kernel) (at8E g w.heap.size) ⟨rfl, rfl, rfl, rfl⟩ 14 at8D at8C (at8R g w.heap.size CB CC) B (HX2.out.drewN _) (fun i h1 h2 => by
      have h3 : 13 ≤ i := h1
      have h4 : i < 14 := h2
      obtain rfl : i = 13 := by omega
      exact PRow.mono ((Ext.refl _).drew) (HROW0.out _)) ?_ ?_
  · intro Tv dd lv U wz i o hE ho hlv hd hT
    obtain ⟨t0, t3, t5, tz⟩ := hE
    have hx := hT.ext
    match i, ho, hlv, hd with
    | 0, ho, hlv, hd =>
      obtain rfl := Option.some.inj ho
      have v0 := eval_old (d := dd) (hT.out 0 (by decide)) (by omega) t0
      refine tbw_yield (v := .pointer (some ⟨g, 0, none⟩)) (at8R_ext g w.heap.size CB CC) hT ho hd (wanted_plain rfl) rfl (by decide) (by decide) ?_ (Ext.refl _) rfl
      generalize Act.eval ⟨over Tv U, dd⟩ = ev at *
      simp [execOp, go_sem, v0]
    | 1, ho, hlv, hd =>
      obtain rfl := Option.some.inj ho
      have v0 := eval_old (d := dd) (hT.out 0 (by decide)) (by omega) t0
      refine tbw_yield (v := .pointer (some ⟨g, 0, none⟩)) (at8R_ext g w.heap.size CB CC) hT ho hd (wanted_plain rfl) rfl (by decide) (by decide) ?_ (Ext.refl _) rfl
      generalize Act.eval ⟨over Tv U, dd⟩ = ev at *
      simp [execOp, go_sem, v0]
    | 2, ho, hlv, hd =>
      obtain rfl := Option.some.inj ho
      have f0 : U 42 = some (.pointer (some ⟨g, 0, none⟩)) := hT.facts 1 (by decide) (dep hd 1 (by kernel_rfl)) (fun c e => by cases e)
      have v0 : Act.eval ⟨over Tv U, dd⟩ (.tmp 42) = _ := eval_new (t := Tv) (d := dd) f0 (by show 42 < Tv.size; omega)
      refine tbw_yield (v := .pointer (some ⟨g, 0, none⟩)) (at8R_ext g w.heap.size CB CC) hT ho hd (wanted_plain rfl) rfl (by decide) (by decide) ?_ (Ext.refl _) rfl
      generalize Act.eval ⟨over Tv U, dd⟩ = ev at *
      simp [execOp, go_sem, v0]
    | 3, ho, hlv, hd =>
      obtain rfl := Option.some.inj ho
      have f0 : U 43 = some (.pointer (some ⟨g, 0, none⟩)) := hT.facts 2 (by decide) (dep hd 2 (by kernel_rfl)) (fun c e => by cases e)
      have v0 : Act.eval ⟨over Tv U, dd⟩ (.tmp 43) = _ := eval_new (t := Tv) (d := dd) f0 (by show 43 < Tv.size; omega)
      refine tbw_yield (v := .pointer (some ⟨g, 3, none⟩)) (at8R_ext g w.heap.size CB CC) hT ho hd (wanted_plain rfl) rfl (by decide) (by decide) ?_ (Ext.refl _) rfl
      generalize Act.eval ⟨over Tv U, dd⟩ = ev at *
      simp [execOp, go_sem, v0]
    | 4, ho, hlv, hd =>
      obtain rfl := Option.some.inj ho
      have f0 : U 44 = some (.pointer (some ⟨g, 3, none⟩)) := hT.facts 3 (by decide) (dep hd 3 (by kernel_rfl)) (fun c e => by cases e)
      have v0 : Act.eval ⟨over Tv U, dd⟩ (.tmp 44) = _ := eval_new (t := Tv) (d := dd) f0 (by show 44 < Tv.size; omega)
      have hnA : lv 9 = false := by
        cases hA : lv 9 with
        | false => rfl
        | true => exact absurd (dep (hT.shut 9 _ rfl hA) 4 (by kernel_rfl)) (by rw [hlv]; decide)
      have hrow : PRow eTpc 41 (g + 1) (g + 1) (.slice none 0 0) ([] : List Tpc) (g) (CB) 31 (KCo w.heap.size CC) (Kp.none) wz := hT.facts 13 (by decide) (hT.past 13 (by decide)) (fun c e => by injection e with e; subst e; exact hnA)
      have hc := (cell_of_row _ _ 3 _ _ _ hrow.2.1).trans HCO.out
      refine tbw_yield (v := .slice none 0 0) (at8R_ext g w.heap.size CB CC) hT ho hd (wanted_plain rfl) rfl (by decide) (by decide) ?_ (Ext.refl _) rfl
      generalize Act.eval ⟨over Tv U, dd⟩ = ev at *
      simp [execOp, go_sem, v0, hc]
    | 5, ho, hlv, hd =>
      obtain rfl := Option.some.inj ho
      have v0 := eval_old (d := dd) (hT.out 5 (by decide)) (by omega) t5
      refine tbw_yield (v := .int .i64 0) (at8R_ext g w.heap.size CB CC) hT ho hd (wanted_plain rfl) rfl (by decide) (by decide) ?_ (Ext.refl _) rfl
      generalize Act.eval ⟨over Tv U, dd⟩ = ev at *
      simp [execOp, go_sem, v0]
    | 6, ho, hlv, hd =>
      obtain rfl := Option.some.inj ho
      have v0 := eval_old (d := dd) (hT.out 3 (by decide)) (by omega) t3
      refine tbw_yield (v := .pointer (some ⟨w.heap.size, 24, none⟩)) (at8R_ext g w.heap.size CB CC) hT ho hd (wanted_plain rfl) rfl (by decide) (by decide) ?_ (Ext.refl _) rfl
      generalize Act.eval ⟨over Tv U, dd⟩ = ev at *
      simp [execOp, go_sem, v0]
    | 7, ho, hlv, hd =>
      obtain rfl := Option.some.inj ho
      have f0 : U 47 = some (.pointer (some ⟨w.heap.size, 24, none⟩)) := hT.facts 6 (by decide) (dep hd 6 (by kernel_rfl)) (fun c e => by cases e)
      have v0 : Act.eval ⟨over Tv U, dd⟩ (.tmp 47) = _ := eval_new (t := Tv) (d := dd) f0 (by show 47 < Tv.size; omega)
      have hnA : lv 9 = false := by
        cases hA : lv 9 with
        | false => rfl
        | true => exact absurd (dep (hT.shut 8 _ rfl (dep (hT.shut 9 _ rfl hA) 8 (by kernel_rfl))) 7 (by kernel_rfl)) (by rw [hlv]; decide)
      have hrow : PRow eTpc 41 (g + 1) (g + 1) (.slice none 0 0) ([] : List Tpc) (g) (CB) 31 (KCo w.heap.size CC) (Kp.none) wz := hT.facts 13 (by decide) (hT.past 13 (by decide)) (fun c e => by injection e with e; subst e; exact hnA)
      have hrg := rng2 (o := 24) hrow.2.2.2.1 HA.out HT.out
      refine tbw_yield (v := .agg #[.string cA, .string cT]) (at8R_ext g w.heap.size CB CC) hT ho hd (wanted_plain rfl) rfl (by decide) (by decide) (exec_load_arr _ _ rfl w.heap.size 24 v0 #[.string cA, .string cT] _ hrg Tryz.underlying41 rfl IT.out) (Ext.refl _) ⟨(cA, cT), rfl, ⟨by decide, by decide⟩, trivial, rfl⟩
    | 8, ho, hlv, hd =>
      obtain rfl := Option.some.inj ho
      obtain ⟨y0, e0, h2, h3, h4⟩ : PNew eTpc (g + 1) (fun x : Tpc => x = (cA, cT)) (fun x : Tpc => .agg #[.string x.1, .string x.2]) (U 48) wz := hT.facts 7 (by decide) (dep hd 7 (by kernel_rfl)) (fun c e => by injection e with e; subst e; exact hlv)
      have v0 : Act.eval ⟨over Tv U, dd⟩ (.tmp 48) = _ := eval_new (t := Tv) (d := dd) e0 (by show 48 < Tv.size; omega)
      refine tbw_yield (v := .slice (some ⟨wz.heap.size, 0, none⟩) 1 1) (at8R_ext g w.heap.size CB CC) hT ho hd (wanted_plain rfl) rfl (by decide) (by decide) (exec_buildOne 26 41 (.tmp 48) rfl v0 Tryz.underlying26 hi hz hs (by decide) (by decide) (by simp [Value.cells])) ((Ext.refl _).alloc _) (PNew.one (E := eTpc) (val := fun x : Tpc => .agg #[.string x.1, .string x.2]) 41 (by simp [Value.cells, eTpc, eFlat, tcl]) h2 h3 h4)
    | 9, ho, hlv, hd =>
      obtain rfl := Option.some.inj ho
      have f0 : U 45 = some (.slice none 0 0) := hT.facts 4 (by decide) (dep hd 4 (by kernel_rfl)) (fun c e => by cases e)
      have v0 : Act.eval ⟨over Tv U, dd⟩ (.tmp 45) = _ := eval_new (t := Tv) (d := dd) f0 (by show 45 < Tv.size; omega)
      have f1 : U 46 = some (.int .i64 0) := hT.facts 5 (by decide) (dep hd 5 (by kernel_rfl)) (fun c e => by cases e)
      have v1 : Act.eval ⟨over Tv U, dd⟩ (.tmp 46) = _ := eval_new (t := Tv) (d := dd) f1 (by show 46 < Tv.size; omega)
      have hnA : lv 9 = false := hlv
      have hrow : PRow eTpc 41 (g + 1) (g + 1) (.slice none 0 0) ([] : List Tpc) (g) (CB) 31 (KCo w.heap.size CC) (Kp.none) wz := hT.facts 13 (by decide) (hT.past 13 (by decide)) (fun c e => by injection e with e; subst e; exact hnA)
      obtain ⟨x, p, hU, hsl, hin, hfr, hD⟩ : POne eTpc (g + 1) (fun x : Tpc => x = (cA, cT)) (U 49) wz := hT.facts 8 (by decide) (dep hd 8 (by kernel_rfl)) (fun c e => by injection e with e; subst e; exact hlv)
      have v2 : Act.eval ⟨over Tv U, dd⟩ (.tmp 49) = _ := eval_new (t := Tv) (d := dd) hU (by show 49 < Tv.size; omega)
      refine tbw_call (f := 64) (args := #[.slice none 0 0, .int .i64 0, .slice (some ⟨p, 0, none⟩) 1 1]) (at8R_ext g w.heap.size CB CC) hT ho hd (wanted_plain rfl) rfl (by decide) (by decide) (exec_call3 rfl rfl v0 v1 v2 ENI.out) ?_
      refine (insE_any _ _ x wz ⟨hsl, fun y hy => by rw [List.mem_singleton] at hy; rw [hy]; exact hin⟩).mono ?_
      rintro r w' ⟨⟨A', c', rfl, hr⟩, hb⟩
      exact ⟨_, rfl, hb, x, A', c', rfl, ⟨own_low' hr.own (blk_lt hrow.2.1), hr.ins, hr.off⟩, trivial, hD, hb.blockAt hrow.2.1, (KCo w.heap.size CC).ext hrow.2.2.2.1 hb⟩
    | 10, ho, hlv, hd =>
      obtain rfl := Option.some.inj ho
      have f0 : U 41 = some (.pointer (some ⟨g, 0, none⟩)) := hT.facts 0 (by decide) (dep hd 0 (by kernel_rfl)) (fun c e => by cases e)
      have v0 : Act.eval ⟨over Tv U, dd⟩ (.tmp 41) = _ := eval_new (t := Tv) (d := dd) f0 (by show 41 < Tv.size; omega)
      refine tbw_yield (v := .pointer (some ⟨g, 0, none⟩)) (at8R_ext g w.heap.size CB CC) hT ho hd (wanted_plain rfl) rfl (by decide) (by decide) ?_ (Ext.refl _) rfl
      generalize Act.eval ⟨over Tv U, dd⟩ = ev at *
      simp [execOp, go_sem, v0]
    | 11, ho, hlv, hd =>
      obtain rfl := Option.some.inj ho
      have f0 : U 51 = some (.pointer (some ⟨g, 0, none⟩)) := hT.facts 10 (by decide) (dep hd 10 (by kernel_rfl)) (fun c e => by cases e)
      have v0 : Act.eval ⟨over Tv U, dd⟩ (.tmp 51) = _ := eval_new (t := Tv) (d := dd) f0 (by show 51 < Tv.size; omega)
      refine tbw_yield (v := .pointer (some ⟨g, 3, none⟩)) (at8R_ext g w.heap.size CB CC) hT ho hd (wanted_plain rfl) rfl (by decide) (by decide) ?_ (Ext.refl _) rfl
      generalize Act.eval ⟨over Tv U, dd⟩ = ev at *
      simp [execOp, go_sem, v0]
    | 12, ho, hlv, hd =>
      obtain rfl := Option.some.inj ho
      have f0 : U 52 = some (.pointer (some ⟨g, 3, none⟩)) := hT.facts 11 (by decide) (dep hd 11 (by kernel_rfl)) (fun c e => by cases e)
      have v0 : Act.eval ⟨over Tv U, dd⟩ (.tmp 52) = _ := eval_new (t := Tv) (d := dd) f0 (by show 52 < Tv.size; omega)
      obtain ⟨y0, A', c', hU, h2, h3, h4, h5, h6⟩ : PApp eTpc (fun x : Tpc => x = (cA, cT)) 41 (g + 1) ([] : List Tpc) (g) (CB) 31 (KCo w.heap.size CC) (U 50) wz := hT.facts 9 (by decide) (dep hd 9 (by kernel_rfl)) (fun c e => by injection e with e; subst e; exact hlv)
      have v1 : Act.eval ⟨over Tv U, dd⟩ (.tmp 50) = _ := eval_new (t := Tv) (d := dd) hU (by show 50 < Tv.size; omega)
      have hc := (cell_of_row _ _ 3 _ _ _ h5).trans HCO.out
      have hfz := frozen_of_row _ _ 3 _ _ h5
      refine tb_store (w' := wz.setCell ⟨g, 3, none⟩ (.slice A' (([] : List Tpc).length + 1) c')) hT ho hd rfl rfl ?_ (hx.setCell HBG.out _) (PApp.sto rfl h2 h3 h4 h5 h6 HKG.out (by decide) HGB.out HFR.out) ?_
      · generalize Act.eval ⟨over Tv U, dd⟩ = ev at *
        simp [execOp, v0, v1, go_sem, hc, hfz]
      · intro j hj hji hlj hcj hR
        match j, hj, hR with
        | 0, _, hR => exact hR
        | 1, _, hR => exact hR
        | 2, _, hR => exact hR
        | 3, _, hR => exact hR
        | 4, _, hR => exact hR
        | 5, _, hR => exact hR
        | 6, _, hR => exact hR
        | 7, _, _ => exact absurd (dep (hT.shut 9 _ rfl (dep hd 9 (by kernel_rfl))) 8 (by kernel_rfl)) (by rw [(hcj 8 rfl).2]; decide)
        | 8, _, _ => exact absurd (dep hd 9 (by kernel_rfl)) (by rw [(hcj 9 rfl).2]; decide)
        | 9, _, _ => exact absurd rfl (hcj 12 rfl).1
        | 10, _, hR => exact hR
        | 11, _, hR => exact hR
        | 12, _, _ => exact absurd rfl hji
        | 13, _, _ => exact absurd (dep hd 9 (by kernel_rfl)) (by rw [(hcj 9 rfl).2]; decide)
        | j + 14, hj, _ => exact absurd hj (by omega)
    | i + 13, ho, _, _ => exact absurd ho (by simp)
  intro U wz hex hout hfin
  have PS : PSto eTpc (fun x : Tpc => x = (cA, cT)) 41 (g + 1) ([] : List Tpc) (g) 3 (CB) 31 (KCo w.heap.size CC) wz := hfin 12 (by decide) rfl
  have XE := Lib.hid hex
  clear hex hfin
  rw [over_list]
  simp (disch := decide) only [overL, Nat.reduceAdd, hout, Option.getD_none]
  clear hout
  obtain ⟨x, A', c', hrow, -, hD, hblk, -⟩ := PS
  subst hD
  have HRW : Hid (RowX eTpc 41 wz (g + 1) (.slice A' 1 c') [(cA, cT)]) := Lib.hid hrow
  have HBK : Hid (wz.heap[g]? = some (.cells (CB.setIfInBounds 3 (.slice A' 1 c')) 31 (0, 0))) := Lib.hid hblk
  have HSL : Hid (SlX eTpc wz A' [(cA, cT)]) := Lib.hid (by
    obtain ⟨A2, c2, e, -, -, -, h⟩ := hrow.sl
    injection e with e
    subst e
    exact h)
  have c3 : wz.cell? ⟨g, 3, none⟩ = some (.slice A' 1 c') := (cell_of_row _ _ 3 _ _ _ hblk).trans (by
    have h : 3 < CB.size := (Array.getElem?_eq_some_iff.1 H3.out).1
    rw [Array.getElem?_setIfInBounds, if_pos rfl, if_pos h]
    rfl)
  clear hrow hblk
  go_wp2_with fail
  with_reducible refine (check1_any A' c' _ HSL.out (HGM.out.ext XE.out)).mono ?_
  rintro e w4 ⟨rfl, hb4⟩
  go_wp2
  go_ret
  exact ⟨⟨rfl, A', c', HRW.out.ext hb4, hb4.blockAt HBK.out⟩, XE.out.trans hb4⟩
end Bk
end Go.Proofs.YtfnmgcblhebdbaaGreatDoor
