/- ItemVersions: for all items the law returns true. Conditions: the library's variable and the package's names lie as the row says. -/
import Derived.Test.YtdaccamiipknmaaGreatDoorIuH
import Derived.Test.YtdaccamiipknmaaGreatDoorStc
import Derived.Test.YtdaccamiipknmaaGreatDoorIuO
namespace Go.Proofs.YtdaccamiipknmaaGreatDoor
open Go.ChangeShapes Go.WideShapes Go.ChangeAt Go.RowKit Go.Shelf

def Mono (p : Option Value → World → Prop) : Prop := ∀ u w w', Ext w w' → p u w → p u w'
theorem mono_val (v : Value) : Mono (fun u _ => u = some v) := fun _ _ _ _ h => h
theorem mono_sls (n : Nat) (l : List ByteArray) : Mono (fun u w => ∃ (A : Option Addr) (c : Nat), u = some (.slice A n c) ∧ SlS w A l) := fun _ _ _ he ⟨A, c, e, h⟩ => ⟨A, c, e, h.ext he⟩
def AllMono : List (Option Value → World → Prop) → Prop
  | [] => True
  | p :: l => Mono p ∧ AllMono l
theorem AllMono.at_ : ∀ {l : List (Option Value → World → Prop)}, AllMono l → ∀ j, Mono (l.getD j fun _ _ => True)
  | [], _, j => fun _ _ _ _ _ => trivial
  | p :: l, h, 0 => h.1
  | p :: l, h, j + 1 => by simpa using AllMono.at_ h.2 j

/-- What each operation of the region leaves. -/
def ivL (CA CB : Array Value) (l : List ByteArray) (mj : Bool) (sc : Int) : List (Option Value → World → Prop) := [fun u _ => u = some (.agg CA),
  fun u _ => u = some (.agg CB),
  fun u w => ∃ (A : Option Addr) (c : Nat), u = some (.slice A l.length c) ∧ SlS w A l,
  fun u _ => u = some (.agg CA),
  fun u _ => u = some (.agg CB),
  fun u w => ∃ (A : Option Addr) (c : Nat), u = some (.slice A l.length c) ∧ SlS w A l,
  fun u _ => u = some (.bool true),
  fun u _ => u = some (.bool true),
  fun u _ => u = some (.agg CA),
  fun u _ => u = some (.agg CB),
  fun u _ => u = some (.bool mj),
  fun u _ => u = some (.agg CA),
  fun u _ => u = some (.agg CB),
  fun u _ => u = some (.bool mj),
  fun u _ => u = some (.bool true),
  fun u _ => u = some (.bool true),
  fun u _ => u = some (.bool true),
  fun u _ => u = some (.agg CA),
  fun u _ => u = some (.agg CB),
  fun u _ => u = some (.int .i64 sc),
  fun u _ => u = some (.agg CA),
  fun u _ => u = some (.agg CB),
  fun u _ => u = some (.int .i64 sc),
  fun u _ => u = some (.bool true),
  fun u _ => u = some (.bool true),
  fun u _ => u = some (.bool true),
  fun u _ => u = some (.bool true),
  fun u _ => u = some (.bool true),
  fun u _ => u = some (.bool true)]
theorem ivL_mono (CA CB : Array Value) (l : List ByteArray) (mj : Bool) (sc : Int) : AllMono (ivL CA CB l mj sc) := ⟨mono_val _, mono_val _, mono_sls _ _, mono_val _, mono_val _, mono_sls _ _, mono_val _, mono_val _, mono_val _, mono_val _, mono_val _, mono_val _, mono_val _, mono_val _, mono_val _, mono_val _, mono_val _, mono_val _, mono_val _, mono_val _, mono_val _, mono_val _, mono_val _, mono_val _, mono_val _, mono_val _, mono_val _, mono_val _, mono_val _, trivial⟩
def ivR (CA CB : Array Value) (l : List ByteArray) (mj : Bool) (sc : Int) (j : Nat) (u : Option Value) (w : World) : Prop := (ivL CA CB l mj sc).getD j (fun _ _ => True) u w
theorem ivR_ext (CA CB : Array Value) (l : List ByteArray) (mj : Bool) (sc : Int) (j : Nat) (u : Option Value) (w w' : World) (he : Ext w w') (h : ivR CA CB l mj sc j u w) : ivR CA CB l mj sc j u w' := ((ivL_mono CA CB l mj sc).at_ j) u w w' he h
def ivD : List Nat := [5, 6, 7, 8, 9, 10, 11, 12, 13, 14, 15, 16, 17, 18, 19, 20, 21, 22, 23, 24, 25, 26, 27, 28, 29, 30, 31, 32, 4]
def ivE (g : Nat) (t : Array Value) : Prop := t.getD 2 undef = .pointer (some ⟨g, 0, none⟩) ∧ t.getD 3 undef = .pointer (some ⟨g + 1, 0, none⟩) ∧ t.size = 33
set_option maxRecDepth 100000 in
set_option maxHeartbeats 12800000 in
theorem itemVersions_walk (a b : It.Item) (La Lb : It.Loc) (w : World) (ha : It.In w a La) (hb : It.In w b Lb) (hg : Gm w) (hf : Fld w) :
    Calls Tryz.prog 3 #[It.agg a La, It.agg b Lb] w fun e w' => e = .returned (.bool true) ∧ Ext w w' := by
  obtain ⟨CA, hca, hna, -, -⟩ := It.packed a La
  obtain ⟨CB, hcb, hnb, -, -⟩ := It.packed b Lb
  have D1 := Lib.hid (diff_any a b La Lb)
  have D2 := Lib.hid (rdiff_any a b La Lb)
  have M1 := Lib.hid (major_any a b La Lb)
  have M2 := Lib.hid (rmajor_any a b La Lb)
  have S1 := Lib.hid (succeed_any a b La Lb)
  have S2 := Lib.hid (rsucceed_any a b La Lb)
  have hl17 := It.diff_le a b
  rw [hca, hcb] at D1 D2 M1 M2 S1 S2 ⊢
  obtain ⟨l, hl⟩ : ∃ l, It.diff a b = l := ⟨_, rfl⟩
  obtain ⟨mj, hmj⟩ : ∃ v, It.major a b = v := ⟨_, rfl⟩
  obtain ⟨sc, hsc⟩ : ∃ v, It.succ a b = v := ⟨_, rfl⟩
  rw [hl] at D1 D2 hl17
  rw [hmj] at M1 M2
  rw [hsc] at S1 S2
  have HA := Lib.hid ha
  have HB := Lib.hid hb
  have HG : Hid (∀ w', Ext w w' → Gm w') := Lib.hid (fun w' he => hg.ext he)
  have HF : Hid (∀ w', Ext w w' → Fld w') := Lib.hid (fun w' he => hf.ext he)
  have IA := Lib.hid (infoItem hna)
  have IB := Lib.hid (infoItem hnb)
  have EN1 := Lib.hid (enters_of Tryz.func7 (by kernel_rfl) rfl)
  have EN2 := Lib.hid (enters_of Tryz.func8 (by kernel_rfl) rfl)
  have EN3 := Lib.hid (enters_of Tryz.func6 (by kernel_rfl) rfl)
  have EN4 := Lib.hid (enters_of Tryz.func9 (by kernel_rfl) rfl)
  have EN5 := Lib.hid (enters_of Tryz.func10 (by kernel_rfl) rfl)
  have EN6 := Lib.hid (enters_of Tryz.func11 (by kernel_rfl) rfl)
  have EN7 := Lib.hid (enters_of Tryz.func12 (by kernel_rfl) rfl)
  have EN8 := Lib.hid (enters_of Tryz.func13 (by kernel_rfl) rfl)
  have BA := Lib.hid (heap_two_fst w (.cells CA 25) (.cells CB 25))
  have BB := Lib.hid (heap_two_snd w (.cells CA 25) (.cells CB 25))
  have X0 := Lib.hid (((Ext.refl w).alloc (.cells CA 25)).alloc (.cells CB 25))
  have HL := Lib.hid hl17
  clear ha hb hg hf hca hcb hna hnb hl hmj hsc hl17
  go_enter Tryz.func3, Tryz.ntmps3
  go_wp2_with fail
  refine region_tb (by kernel_rfl) (by decide +kernel) (ivE w.heap.size) ⟨rfl, rfl, rfl⟩ 29 ivD (fun _ => none) (ivR CA CB l mj sc) ((w.alloc (.cells CA 25)).alloc (.cells CB 25)) (Ext.refl _) (fun i h1 h2 => absurd h2 (Nat.not_lt.2 h1)) ?_ ?_
  · intro Tv dd lv U wz i o hE ho hlv hd hT
    obtain ⟨t2, t3, tz⟩ := hE
    have hx := hT.ext
    have hxw := X0.out.trans hx
    match i, ho, hlv, hd with
    | 0, ho, hlv, hd =>
      obtain rfl := Option.some.inj ho
      have vb := eval_old (d := dd) (hT.out 2 (by decide)) (by omega) t2
      refine tbw_yield (v := .agg CA) (ivR_ext CA CB l mj sc) hT ho hd (wanted_plain rfl) rfl (by decide) (by decide) (exec_load_row _ _ rfl w.heap.size vb _ _ _ _ (hx.blockAt BA.out) Tryz.underlying25 rfl IA.out) (Ext.refl _) rfl
    | 1, ho, hlv, hd =>
      obtain rfl := Option.some.inj ho
      have vb := eval_old (d := dd) (hT.out 3 (by decide)) (by omega) t3
      refine tbw_yield (v := .agg CB) (ivR_ext CA CB l mj sc) hT ho hd (wanted_plain rfl) rfl (by decide) (by decide) (exec_load_row _ _ rfl (w.heap.size + 1) vb _ _ _ _ (hx.blockAt BB.out) Tryz.underlying25 rfl IB.out) (Ext.refl _) rfl
    | 2, ho, hlv, hd =>
      obtain rfl := Option.some.inj ho
      have f0 : U 5 = some (.agg CA) := hT.facts 0 (by decide) (dep hd 0 (by kernel_rfl)) (fun c e => by cases e)
      have v0 : Act.eval ⟨over Tv U, dd⟩ (.tmp 5) = _ := eval_new (t := Tv) (d := dd) f0 (by show 5 < Tv.size; omega)
      have f1 : U 6 = some (.agg CB) := hT.facts 1 (by decide) (dep hd 1 (by kernel_rfl)) (fun c e => by cases e)
      have v1 : Act.eval ⟨over Tv U, dd⟩ (.tmp 6) = _ := eval_new (t := Tv) (d := dd) f1 (by show 6 < Tv.size; omega)
      refine tbw_call (f := 7) (args := #[.agg CA, .agg CB]) (ivR_ext CA CB l mj sc) hT ho hd (wanted_plain rfl) rfl (by decide) (by decide) (exec_call2 rfl rfl v0 v1 EN1.out) ?_
      refine (D1.out wz (HA.out.ext hxw) (HB.out.ext hxw) (HF.out _ hxw)).mono ?_
      rintro e w' ⟨⟨A, c, rfl, hs, -, -⟩, hb⟩
      exact ⟨_, rfl, hb, A, c, rfl, hs⟩
    | 3, ho, hlv, hd =>
      obtain rfl := Option.some.inj ho
      have vb := eval_old (d := dd) (hT.out 2 (by decide)) (by omega) t2
      refine tbw_yield (v := .agg CA) (ivR_ext CA CB l mj sc) hT ho hd (wanted_plain rfl) rfl (by decide) (by decide) (exec_load_row _ _ rfl w.heap.size vb _ _ _ _ (hx.blockAt BA.out) Tryz.underlying25 rfl IA.out) (Ext.refl _) rfl
    | 4, ho, hlv, hd =>
      obtain rfl := Option.some.inj ho
      have vb := eval_old (d := dd) (hT.out 3 (by decide)) (by omega) t3
      refine tbw_yield (v := .agg CB) (ivR_ext CA CB l mj sc) hT ho hd (wanted_plain rfl) rfl (by decide) (by decide) (exec_load_row _ _ rfl (w.heap.size + 1) vb _ _ _ _ (hx.blockAt BB.out) Tryz.underlying25 rfl IB.out) (Ext.refl _) rfl
    | 5, ho, hlv, hd =>
      obtain rfl := Option.some.inj ho
      have f0 : U 8 = some (.agg CA) := hT.facts 3 (by decide) (dep hd 3 (by kernel_rfl)) (fun c e => by cases e)
      have v0 : Act.eval ⟨over Tv U, dd⟩ (.tmp 8) = _ := eval_new (t := Tv) (d := dd) f0 (by show 8 < Tv.size; omega)
      have f1 : U 9 = some (.agg CB) := hT.facts 4 (by decide) (dep hd 4 (by kernel_rfl)) (fun c e => by cases e)
      have v1 : Act.eval ⟨over Tv U, dd⟩ (.tmp 9) = _ := eval_new (t := Tv) (d := dd) f1 (by show 9 < Tv.size; omega)
      refine tbw_call (f := 8) (args := #[.agg CA, .agg CB]) (ivR_ext CA CB l mj sc) hT ho hd (wanted_plain rfl) rfl (by decide) (by decide) (exec_call2 rfl rfl v0 v1 EN2.out) ?_
      refine (D2.out wz (HA.out.ext hxw) (HB.out.ext hxw)).mono ?_
      rintro e w' ⟨⟨A, c, rfl, hs, -, -⟩, hb⟩
      exact ⟨_, rfl, hb, A, c, rfl, hs⟩
    | 6, ho, hlv, hd =>
      obtain rfl := Option.some.inj ho
      obtain ⟨A0, c0, f0, s0⟩ : ∃ (A : Option Addr) (c : Nat), U 7 = some (.slice A l.length c) ∧ SlS wz A l := hT.facts 2 (by decide) (dep hd 2 (by kernel_rfl)) (fun c e => by cases e)
      have v0 : Act.eval ⟨over Tv U, dd⟩ (.tmp 7) = _ := eval_new (t := Tv) (d := dd) f0 (by show 7 < Tv.size; omega)
      obtain ⟨A1, c1, f1, s1⟩ : ∃ (A : Option Addr) (c : Nat), U 10 = some (.slice A l.length c) ∧ SlS wz A l := hT.facts 5 (by decide) (dep hd 5 (by kernel_rfl)) (fun c e => by cases e)
      have v1 : Act.eval ⟨over Tv U, dd⟩ (.tmp 10) = _ := eval_new (t := Tv) (d := dd) f1 (by show 10 < Tv.size; omega)
      refine tbw_call (f := 6) (args := #[.slice A0 l.length c0, .slice A1 l.length c1]) (ivR_ext CA CB l mj sc) hT ho hd (wanted_plain rfl) rfl (by decide) (by decide) (exec_call2 rfl rfl v0 v1 EN3.out) ?_
      refine (names_to A0 c0 A1 c1 l l (v := true) (decide_eq_true rfl) rfl rfl wz s0 s1 (Nat.le_trans HL.out (by decide)) (Nat.le_trans HL.out (by decide))).mono ?_
      rintro e w' ⟨rfl, hb⟩
      exact ⟨_, rfl, hb, rfl⟩
    | 7, ho, hlv, hd =>
      obtain rfl := Option.some.inj ho
      have f0 : U 11 = some (.bool true) := hT.facts 6 (by decide) (dep hd 6 (by kernel_rfl)) (fun c e => by cases e)
      have v0 : Act.eval ⟨over Tv U, dd⟩ (.tmp 11) = _ := eval_new (t := Tv) (d := dd) f0 (by show 11 < Tv.size; omega)
      refine tbw_yield (v := .bool true) (ivR_ext CA CB l mj sc) hT ho hd (wanted_plain rfl) rfl (by decide) (by decide) ?_ (Ext.refl _) rfl
      generalize Act.eval ⟨over Tv U, dd⟩ = ev at *
      simp [execOp, go_sem, v0]
    | 8, ho, hlv, hd =>
      obtain rfl := Option.some.inj ho
      have hgu : U 12 = some (.bool true) := hT.facts 7 (by decide) (dep hd 7 (by kernel_rfl)) (fun c e => by cases e)
      have vb := eval_old (d := dd) (hT.out 2 (by decide)) (by omega) t2
      refine tbw_yield (v := .agg CA) (ivR_ext CA CB l mj sc) hT ho hd (wanted_of (j := 7) (s := 12) (b := true) rfl rfl rfl hgu (by show 12 < Tv.size; omega)) rfl (by decide) (by decide) (exec_load_row _ _ rfl w.heap.size vb _ _ _ _ (hx.blockAt BA.out) Tryz.underlying25 rfl IA.out) (Ext.refl _) rfl
    | 9, ho, hlv, hd =>
      obtain rfl := Option.some.inj ho
      have hgu : U 12 = some (.bool true) := hT.facts 7 (by decide) (dep hd 7 (by kernel_rfl)) (fun c e => by cases e)
      have vb := eval_old (d := dd) (hT.out 3 (by decide)) (by omega) t3
      refine tbw_yield (v := .agg CB) (ivR_ext CA CB l mj sc) hT ho hd (wanted_of (j := 7) (s := 12) (b := true) rfl rfl rfl hgu (by show 12 < Tv.size; omega)) rfl (by decide) (by decide) (exec_load_row _ _ rfl (w.heap.size + 1) vb _ _ _ _ (hx.blockAt BB.out) Tryz.underlying25 rfl IB.out) (Ext.refl _) rfl
    | 10, ho, hlv, hd =>
      obtain rfl := Option.some.inj ho
      have hgu : U 12 = some (.bool true) := hT.facts 7 (by decide) (dep hd 7 (by kernel_rfl)) (fun c e => by cases e)
      have f0 : U 13 = some (.agg CA) := hT.facts 8 (by decide) (dep hd 8 (by kernel_rfl)) (fun c e => by cases e)
      have v0 : Act.eval ⟨over Tv U, dd⟩ (.tmp 13) = _ := eval_new (t := Tv) (d := dd) f0 (by show 13 < Tv.size; omega)
      have f1 : U 14 = some (.agg CB) := hT.facts 9 (by decide) (dep hd 9 (by kernel_rfl)) (fun c e => by cases e)
      have v1 : Act.eval ⟨over Tv U, dd⟩ (.tmp 14) = _ := eval_new (t := Tv) (d := dd) f1 (by show 14 < Tv.size; omega)
      refine tbw_call (f := 9) (args := #[.agg CA, .agg CB]) (ivR_ext CA CB l mj sc) hT ho hd (wanted_of (j := 7) (s := 12) (b := true) rfl rfl rfl hgu (by show 12 < Tv.size; omega)) rfl (by decide) (by decide) (exec_call2 rfl rfl v0 v1 EN4.out) ?_
      refine (M1.out wz (HA.out.ext hxw) (HB.out.ext hxw) (fun w' he => HF.out _ (hxw.trans he))).mono ?_
      rintro e w' ⟨rfl, hb⟩
      exact ⟨_, rfl, hb, rfl⟩
    | 11, ho, hlv, hd =>
      obtain rfl := Option.some.inj ho
      have hgu : U 12 = some (.bool true) := hT.facts 7 (by decide) (dep hd 7 (by kernel_rfl)) (fun c e => by cases e)
      have vb := eval_old (d := dd) (hT.out 2 (by decide)) (by omega) t2
      refine tbw_yield (v := .agg CA) (ivR_ext CA CB l mj sc) hT ho hd (wanted_of (j := 7) (s := 12) (b := true) rfl rfl rfl hgu (by show 12 < Tv.size; omega)) rfl (by decide) (by decide) (exec_load_row _ _ rfl w.heap.size vb _ _ _ _ (hx.blockAt BA.out) Tryz.underlying25 rfl IA.out) (Ext.refl _) rfl
    | 12, ho, hlv, hd =>
      obtain rfl := Option.some.inj ho
      have hgu : U 12 = some (.bool true) := hT.facts 7 (by decide) (dep hd 7 (by kernel_rfl)) (fun c e => by cases e)
      have vb := eval_old (d := dd) (hT.out 3 (by decide)) (by omega) t3
      refine tbw_yield (v := .agg CB) (ivR_ext CA CB l mj sc) hT ho hd (wanted_of (j := 7) (s := 12) (b := true) rfl rfl rfl hgu (by show 12 < Tv.size; omega)) rfl (by decide) (by decide) (exec_load_row _ _ rfl (w.heap.size + 1) vb _ _ _ _ (hx.blockAt BB.out) Tryz.underlying25 rfl IB.out) (Ext.refl _) rfl
    | 13, ho, hlv, hd =>
      obtain rfl := Option.some.inj ho
      have hgu : U 12 = some (.bool true) := hT.facts 7 (by decide) (dep hd 7 (by kernel_rfl)) (fun c e => by cases e)
      have f0 : U 16 = some (.agg CA) := hT.facts 11 (by decide) (dep hd 11 (by kernel_rfl)) (fun c e => by cases e)
      have v0 : Act.eval ⟨over Tv U, dd⟩ (.tmp 16) = _ := eval_new (t := Tv) (d := dd) f0 (by show 16 < Tv.size; omega)
      have f1 : U 17 = some (.agg CB) := hT.facts 12 (by decide) (dep hd 12 (by kernel_rfl)) (fun c e => by cases e)
      have v1 : Act.eval ⟨over Tv U, dd⟩ (.tmp 17) = _ := eval_new (t := Tv) (d := dd) f1 (by show 17 < Tv.size; omega)
      refine tbw_call (f := 10) (args := #[.agg CA, .agg CB]) (ivR_ext CA CB l mj sc) hT ho hd (wanted_of (j := 7) (s := 12) (b := true) rfl rfl rfl hgu (by show 12 < Tv.size; omega)) rfl (by decide) (by decide) (exec_call2 rfl rfl v0 v1 EN5.out) ?_
      refine (M2.out wz (HA.out.ext hxw) (HB.out.ext hxw)).mono ?_
      rintro e w' ⟨rfl, hb⟩
      exact ⟨_, rfl, hb, rfl⟩
    | 14, ho, hlv, hd =>
      obtain rfl := Option.some.inj ho
      have hgu : U 12 = some (.bool true) := hT.facts 7 (by decide) (dep hd 7 (by kernel_rfl)) (fun c e => by cases e)
      have f0 : U 15 = some (.bool mj) := hT.facts 10 (by decide) (dep hd 10 (by kernel_rfl)) (fun c e => by cases e)
      have v0 : Act.eval ⟨over Tv U, dd⟩ (.tmp 15) = _ := eval_new (t := Tv) (d := dd) f0 (by show 15 < Tv.size; omega)
      have f1 : U 18 = some (.bool mj) := hT.facts 13 (by decide) (dep hd 13 (by kernel_rfl)) (fun c e => by cases e)
      have v1 : Act.eval ⟨over Tv U, dd⟩ (.tmp 18) = _ := eval_new (t := Tv) (d := dd) f1 (by show 18 < Tv.size; omega)
      refine tbw_yield (v := .bool true) (ivR_ext CA CB l mj sc) hT ho hd (wanted_of (j := 7) (s := 12) (b := true) rfl rfl rfl hgu (by show 12 < Tv.size; omega)) rfl (by decide) (by decide) ?_ (Ext.refl _) rfl
      generalize Act.eval ⟨over Tv U, dd⟩ = ev at *
      simp [execOp, go_sem, v0, v1]
    | 15, ho, hlv, hd =>
      obtain rfl := Option.some.inj ho
      have f0 : U 12 = some (.bool true) := hT.facts 7 (by decide) (dep hd 7 (by kernel_rfl)) (fun c e => by cases e)
      have v0 : Act.eval ⟨over Tv U, dd⟩ (.tmp 12) = _ := eval_new (t := Tv) (d := dd) f0 (by show 12 < Tv.size; omega)
      have f1 : U 19 = some (.bool true) := hT.facts 14 (by decide) (dep hd 14 (by kernel_rfl)) (fun c e => by cases e)
      have v1 : Act.eval ⟨over Tv U, dd⟩ (.tmp 19) = _ := eval_new (t := Tv) (d := dd) f1 (by show 19 < Tv.size; omega)
      refine tbw_yield (v := .bool true) (ivR_ext CA CB l mj sc) hT ho hd (wanted_plain rfl) rfl (by decide) (by decide) ?_ (Ext.refl _) rfl
      generalize Act.eval ⟨over Tv U, dd⟩ = ev at *
      simp [execOp, go_sem, v0, v1]
    | 16, ho, hlv, hd =>
      obtain rfl := Option.some.inj ho
      have f0 : U 20 = some (.bool true) := hT.facts 15 (by decide) (dep hd 15 (by kernel_rfl)) (fun c e => by cases e)
      have v0 : Act.eval ⟨over Tv U, dd⟩ (.tmp 20) = _ := eval_new (t := Tv) (d := dd) f0 (by show 20 < Tv.size; omega)
      refine tbw_yield (v := .bool true) (ivR_ext CA CB l mj sc) hT ho hd (wanted_plain rfl) rfl (by decide) (by decide) ?_ (Ext.refl _) rfl
      generalize Act.eval ⟨over Tv U, dd⟩ = ev at *
      simp [execOp, go_sem, v0]
    | 17, ho, hlv, hd =>
      obtain rfl := Option.some.inj ho
      have hgu : U 21 = some (.bool true) := hT.facts 16 (by decide) (dep hd 16 (by kernel_rfl)) (fun c e => by cases e)
      have vb := eval_old (d := dd) (hT.out 2 (by decide)) (by omega) t2
      refine tbw_yield (v := .agg CA) (ivR_ext CA CB l mj sc) hT ho hd (wanted_of (j := 16) (s := 21) (b := true) rfl rfl rfl hgu (by show 21 < Tv.size; omega)) rfl (by decide) (by decide) (exec_load_row _ _ rfl w.heap.size vb _ _ _ _ (hx.blockAt BA.out) Tryz.underlying25 rfl IA.out) (Ext.refl _) rfl
    | 18, ho, hlv, hd =>
      obtain rfl := Option.some.inj ho
      have hgu : U 21 = some (.bool true) := hT.facts 16 (by decide) (dep hd 16 (by kernel_rfl)) (fun c e => by cases e)
      have vb := eval_old (d := dd) (hT.out 3 (by decide)) (by omega) t3
      refine tbw_yield (v := .agg CB) (ivR_ext CA CB l mj sc) hT ho hd (wanted_of (j := 16) (s := 21) (b := true) rfl rfl rfl hgu (by show 21 < Tv.size; omega)) rfl (by decide) (by decide) (exec_load_row _ _ rfl (w.heap.size + 1) vb _ _ _ _ (hx.blockAt BB.out) Tryz.underlying25 rfl IB.out) (Ext.refl _) rfl
    | 19, ho, hlv, hd =>
      obtain rfl := Option.some.inj ho
      have hgu : U 21 = some (.bool true) := hT.facts 16 (by decide) (dep hd 16 (by kernel_rfl)) (fun c e => by cases e)
      have f0 : U 22 = some (.agg CA) := hT.facts 17 (by decide) (dep hd 17 (by kernel_rfl)) (fun c e => by cases e)
      have v0 : Act.eval ⟨over Tv U, dd⟩ (.tmp 22) = _ := eval_new (t := Tv) (d := dd) f0 (by show 22 < Tv.size; omega)
      have f1 : U 23 = some (.agg CB) := hT.facts 18 (by decide) (dep hd 18 (by kernel_rfl)) (fun c e => by cases e)
      have v1 : Act.eval ⟨over Tv U, dd⟩ (.tmp 23) = _ := eval_new (t := Tv) (d := dd) f1 (by show 23 < Tv.size; omega)
      refine tbw_call (f := 11) (args := #[.agg CA, .agg CB]) (ivR_ext CA CB l mj sc) hT ho hd (wanted_of (j := 16) (s := 21) (b := true) rfl rfl rfl hgu (by show 21 < Tv.size; omega)) rfl (by decide) (by decide) (exec_call2 rfl rfl v0 v1 EN6.out) ?_
      refine (S1.out wz (HB.out.ext hxw) (fun w' he => HG.out _ (hxw.trans he))).mono ?_
      rintro e w' ⟨rfl, hb⟩
      exact ⟨_, rfl, hb, rfl⟩
    | 20, ho, hlv, hd =>
      obtain rfl := Option.some.inj ho
      have hgu : U 21 = some (.bool true) := hT.facts 16 (by decide) (dep hd 16 (by kernel_rfl)) (fun c e => by cases e)
      have vb := eval_old (d := dd) (hT.out 2 (by decide)) (by omega) t2
      refine tbw_yield (v := .agg CA) (ivR_ext CA CB l mj sc) hT ho hd (wanted_of (j := 16) (s := 21) (b := true) rfl rfl rfl hgu (by show 21 < Tv.size; omega)) rfl (by decide) (by decide) (exec_load_row _ _ rfl w.heap.size vb _ _ _ _ (hx.blockAt BA.out) Tryz.underlying25 rfl IA.out) (Ext.refl _) rfl
    | 21, ho, hlv, hd =>
      obtain rfl := Option.some.inj ho
      have hgu : U 21 = some (.bool true) := hT.facts 16 (by decide) (dep hd 16 (by kernel_rfl)) (fun c e => by cases e)
      have vb := eval_old (d := dd) (hT.out 3 (by decide)) (by omega) t3
      refine tbw_yield (v := .agg CB) (ivR_ext CA CB l mj sc) hT ho hd (wanted_of (j := 16) (s := 21) (b := true) rfl rfl rfl hgu (by show 21 < Tv.size; omega)) rfl (by decide) (by decide) (exec_load_row _ _ rfl (w.heap.size + 1) vb _ _ _ _ (hx.blockAt BB.out) Tryz.underlying25 rfl IB.out) (Ext.refl _) rfl
    | 22, ho, hlv, hd =>
      obtain rfl := Option.some.inj ho
      have hgu : U 21 = some (.bool true) := hT.facts 16 (by decide) (dep hd 16 (by kernel_rfl)) (fun c e => by cases e)
      have f0 : U 25 = some (.agg CA) := hT.facts 20 (by decide) (dep hd 20 (by kernel_rfl)) (fun c e => by cases e)
      have v0 : Act.eval ⟨over Tv U, dd⟩ (.tmp 25) = _ := eval_new (t := Tv) (d := dd) f0 (by show 25 < Tv.size; omega)
      have f1 : U 26 = some (.agg CB) := hT.facts 21 (by decide) (dep hd 21 (by kernel_rfl)) (fun c e => by cases e)
      have v1 : Act.eval ⟨over Tv U, dd⟩ (.tmp 26) = _ := eval_new (t := Tv) (d := dd) f1 (by show 26 < Tv.size; omega)
      refine tbw_call (f := 12) (args := #[.agg CA, .agg CB]) (ivR_ext CA CB l mj sc) hT ho hd (wanted_of (j := 16) (s := 21) (b := true) rfl rfl rfl hgu (by show 21 < Tv.size; omega)) rfl (by decide) (by decide) (exec_call2 rfl rfl v0 v1 EN7.out) ?_
      refine (S2.out wz (HB.out.ext hxw)).mono ?_
      rintro e w' ⟨rfl, hb⟩
      exact ⟨_, rfl, hb, rfl⟩
    | 23, ho, hlv, hd =>
      obtain rfl := Option.some.inj ho
      have hgu : U 21 = some (.bool true) := hT.facts 16 (by decide) (dep hd 16 (by kernel_rfl)) (fun c e => by cases e)
      have f0 : U 24 = some (.int .i64 sc) := hT.facts 19 (by decide) (dep hd 19 (by kernel_rfl)) (fun c e => by cases e)
      have v0 : Act.eval ⟨over Tv U, dd⟩ (.tmp 24) = _ := eval_new (t := Tv) (d := dd) f0 (by show 24 < Tv.size; omega)
      have f1 : U 27 = some (.int .i64 sc) := hT.facts 22 (by decide) (dep hd 22 (by kernel_rfl)) (fun c e => by cases e)
      have v1 : Act.eval ⟨over Tv U, dd⟩ (.tmp 27) = _ := eval_new (t := Tv) (d := dd) f1 (by show 27 < Tv.size; omega)
      refine tbw_yield (v := .bool true) (ivR_ext CA CB l mj sc) hT ho hd (wanted_of (j := 16) (s := 21) (b := true) rfl rfl rfl hgu (by show 21 < Tv.size; omega)) rfl (by decide) (by decide) ?_ (Ext.refl _) rfl
      generalize Act.eval ⟨over Tv U, dd⟩ = ev at *
      simp [execOp, go_sem, v0, v1]
    | 24, ho, hlv, hd =>
      obtain rfl := Option.some.inj ho
      have f0 : U 21 = some (.bool true) := hT.facts 16 (by decide) (dep hd 16 (by kernel_rfl)) (fun c e => by cases e)
      have v0 : Act.eval ⟨over Tv U, dd⟩ (.tmp 21) = _ := eval_new (t := Tv) (d := dd) f0 (by show 21 < Tv.size; omega)
      have f1 : U 28 = some (.bool true) := hT.facts 23 (by decide) (dep hd 23 (by kernel_rfl)) (fun c e => by cases e)
      have v1 : Act.eval ⟨over Tv U, dd⟩ (.tmp 28) = _ := eval_new (t := Tv) (d := dd) f1 (by show 28 < Tv.size; omega)
      refine tbw_yield (v := .bool true) (ivR_ext CA CB l mj sc) hT ho hd (wanted_plain rfl) rfl (by decide) (by decide) ?_ (Ext.refl _) rfl
      generalize Act.eval ⟨over Tv U, dd⟩ = ev at *
      simp [execOp, go_sem, v0, v1]
    | 25, ho, hlv, hd =>
      obtain rfl := Option.some.inj ho
      have f0 : U 29 = some (.bool true) := hT.facts 24 (by decide) (dep hd 24 (by kernel_rfl)) (fun c e => by cases e)
      have v0 : Act.eval ⟨over Tv U, dd⟩ (.tmp 29) = _ := eval_new (t := Tv) (d := dd) f0 (by show 29 < Tv.size; omega)
      refine tbw_yield (v := .bool true) (ivR_ext CA CB l mj sc) hT ho hd (wanted_plain rfl) rfl (by decide) (by decide) ?_ (Ext.refl _) rfl
      generalize Act.eval ⟨over Tv U, dd⟩ = ev at *
      simp [execOp, go_sem, v0]
    | 26, ho, hlv, hd =>
      obtain rfl := Option.some.inj ho
      have hgu : U 30 = some (.bool true) := hT.facts 25 (by decide) (dep hd 25 (by kernel_rfl)) (fun c e => by cases e)
      refine tbw_call (f := 13) (args := #[]) (ivR_ext CA CB l mj sc) hT ho hd (wanted_of (j := 25) (s := 30) (b := true) rfl rfl rfl hgu (by show 30 < Tv.size; omega)) rfl (by decide) (by decide) (exec_call0 rfl rfl EN8.out) ?_
      refine (awake_any wz (fun w' he => ⟨HG.out _ (hxw.trans he), HF.out _ (hxw.trans he)⟩)).mono ?_
      rintro e w' ⟨rfl, hb⟩
      exact ⟨_, rfl, hb, rfl⟩
    | 27, ho, hlv, hd =>
      obtain rfl := Option.some.inj ho
      have f0 : U 30 = some (.bool true) := hT.facts 25 (by decide) (dep hd 25 (by kernel_rfl)) (fun c e => by cases e)
      have v0 : Act.eval ⟨over Tv U, dd⟩ (.tmp 30) = _ := eval_new (t := Tv) (d := dd) f0 (by show 30 < Tv.size; omega)
      have f1 : U 31 = some (.bool true) := hT.facts 26 (by decide) (dep hd 26 (by kernel_rfl)) (fun c e => by cases e)
      have v1 : Act.eval ⟨over Tv U, dd⟩ (.tmp 31) = _ := eval_new (t := Tv) (d := dd) f1 (by show 31 < Tv.size; omega)
      refine tbw_yield (v := .bool true) (ivR_ext CA CB l mj sc) hT ho hd (wanted_plain rfl) rfl (by decide) (by decide) ?_ (Ext.refl _) rfl
      generalize Act.eval ⟨over Tv U, dd⟩ = ev at *
      simp [execOp, go_sem, v0, v1]
    | 28, ho, hlv, hd =>
      obtain rfl := Option.some.inj ho
      have f0 : U 32 = some (.bool true) := hT.facts 27 (by decide) (dep hd 27 (by kernel_rfl)) (fun c e => by cases e)
      have v0 : Act.eval ⟨over Tv U, dd⟩ (.tmp 32) = _ := eval_new (t := Tv) (d := dd) f0 (by show 32 < Tv.size; omega)
      refine tbw_yield (v := .bool true) (ivR_ext CA CB l mj sc) hT ho hd (wanted_plain rfl) rfl (by decide) (by decide) ?_ (Ext.refl _) rfl
      generalize Act.eval ⟨over Tv U, dd⟩ = ev at *
      simp [execOp, go_sem, v0]
    | i + 29, ho, _, _ => exact absurd ho (by simp)
  · intro U wz hex hout hfin
    have f4 : U 4 = some (.bool true) := hfin 28 (by decide) rfl
    have HE := Lib.hid (X0.out.trans hex)
    clear hex hfin
    rw [over_list]
    simp (disch := decide) only [overL, Nat.reduceAdd, hout, Option.getD_none]
    rw [f4]
    simp only [Option.getD_some]
    clear hout f4
    go_wp2
    go_ret
    exact ⟨rfl, HE.out⟩
theorem itemVersions_laid (os : Os) : laidMet Tryz.prog Rows.itemVersionsRow.laid ((laidW os).forCall (fun _ _ => 0) ⟨#[], #[.agg #[.int .i64 0, .int .i64 0, .int .i64 0, .string ⟨#[]⟩, .slice none 0 0, .slice none 0 0, .int .i64 0, .int .i64 0, .slice none 0 0, .int .i64 0, .string ⟨#[]⟩, .int .i64 0, .int .i64 0, .int .i64 0, .int .i64 0, .slice none 0 0, .int .i64 0], .agg #[.int .i64 0, .int .i64 0, .int .i64 0, .string ⟨#[]⟩, .slice none 0 0, .slice none 0 0, .int .i64 0, .int .i64 0, .slice none 0 0, .int .i64 0, .string ⟨#[]⟩, .int .i64 0, .int .i64 0, .int .i64 0, .int .i64 0, .slice none 0 0, .int .i64 0]], []⟩).memory :=
  laidMet_of_run' 8 (by kernel_rfl) (by kernel_rfl)
theorem itemVersions_reads (os : Os) {H : Type} (enc : TypeId × Value → H) : ∃ places, DataW.whole enc Tryz.prog ((laidW os).forCall (fun _ _ => 0) ⟨#[], #[.agg #[.int .i64 0, .int .i64 0, .int .i64 0, .string ⟨#[]⟩, .slice none 0 0, .slice none 0 0, .int .i64 0, .int .i64 0, .slice none 0 0, .int .i64 0, .string ⟨#[]⟩, .int .i64 0, .int .i64 0, .int .i64 0, .int .i64 0, .slice none 0 0, .int .i64 0], .agg #[.int .i64 0, .int .i64 0, .int .i64 0, .string ⟨#[]⟩, .slice none 0 0, .slice none 0 0, .int .i64 0, .int .i64 0, .slice none 0 0, .int .i64 0, .string ⟨#[]⟩, .int .i64 0, .int .i64 0, .int .i64 0, .int .i64 0, .slice none 0 0, .int .i64 0]], []⟩).memory Tryz.f3.params.toList Rows.itemVersionsSpec.vars false (#[.agg #[.int .i64 0, .int .i64 0, .int .i64 0, .string ⟨#[]⟩, .slice none 0 0, .slice none 0 0, .int .i64 0, .int .i64 0, .slice none 0 0, .int .i64 0, .string ⟨#[]⟩, .int .i64 0, .int .i64 0, .int .i64 0, .int .i64 0, .slice none 0 0, .int .i64 0], .agg #[.int .i64 0, .int .i64 0, .int .i64 0, .string ⟨#[]⟩, .slice none 0 0, .slice none 0 0, .int .i64 0, .int .i64 0, .slice none 0 0, .int .i64 0, .string ⟨#[]⟩, .int .i64 0, .int .i64 0, .int .i64 0, .int .i64 0, .slice none 0 0, .int .i64 0]] : Array Value).toList 8 = some ([.agg [.lit (.int .i64 0), .lit (.int .i64 0), .lit (.int .i64 0), .lit (.string []), .nil, .nil, .lit (.int .i64 0), .lit (.int .i64 0), .nil, .lit (.int .i64 0), .lit (.string []), .lit (.int .i64 0), .lit (.int .i64 0), .lit (.int .i64 0), .lit (.int .i64 0), .nil, .lit (.int .i64 0)], .agg [.lit (.int .i64 0), .lit (.int .i64 0), .lit (.int .i64 0), .lit (.string []), .nil, .nil, .lit (.int .i64 0), .lit (.int .i64 0), .nil, .lit (.int .i64 0), .lit (.string []), .lit (.int .i64 0), .lit (.int .i64 0), .lit (.int .i64 0), .lit (.int .i64 0), .nil, .lit (.int .i64 0)]], [], places) :=
  ⟨[], by kernel_rfl⟩
set_option maxRecDepth 100000 in
theorem itemVersions_lifted (os : Os) (started : os.Started) (H : Type) (enc : TypeId × Value → H) (F : Stop.Interp) :
    ReturnsInHanded {} Tryz.checked os 3 .any ((OpenSpec.ofChange Rows.itemVersionsSpec).preRow enc Tryz.prog Tryz.f3 Rows.itemVersionsRow.domain false Rows.itemVersionsRow.laid) (((OpenSpec.ofChange Rows.itemVersionsSpec).at F).post enc Tryz.prog Tryz.f3 false true false false) := by
  obtain ⟨places, hx⟩ := itemVersions_reads os enc
  refine returnsInHanded_of_row (C := Tryz.checked) (s := (OpenSpec.ofChange Rows.itemVersionsSpec)) Tryz.own started (by kernel_rfl) Tryz.func3
    (witness_row_at (enc := enc) (C := Tryz.checked) false (laidW os) #[.agg #[.int .i64 0, .int .i64 0, .int .i64 0, .string ⟨#[]⟩, .slice none 0 0, .slice none 0 0, .int .i64 0, .int .i64 0, .slice none 0 0, .int .i64 0, .string ⟨#[]⟩, .int .i64 0, .int .i64 0, .int .i64 0, .int .i64 0, .slice none 0 0, .int .i64 0], .agg #[.int .i64 0, .int .i64 0, .int .i64 0, .string ⟨#[]⟩, .slice none 0 0, .slice none 0 0, .int .i64 0, .int .i64 0, .slice none 0 0, .int .i64 0, .string ⟨#[]⟩, .int .i64 0, .int .i64 0, .int .i64 0, .int .i64 0, .slice none 0 0, .int .i64 0]] rfl (by kernel_rfl) (by kernel_rfl) (by kernel_rfl)
      (OpenSpec.preRow_of_cond 8 hx (by kernel_rfl) (fun k hk => by cases hk) (by kernel_rfl) (itemVersions_laid os))) ?_
  intro W base args ds gs before hval0 hW _ hcond hsz0 hL hsh _
  have hval : ∀ (j : Nat) t v, Tryz.f3.params[j]? = some t → args[j]? = some v → Value.okWide Tryz.prog W .any base t v := hval0
  have hW' : DataW.Whole enc Tryz.prog Tryz.f3.params.toList Rows.itemVersionsSpec.vars false W args.toList ds gs before := hW
  have hW2 := hW'
  obtain ⟨p, q, hA0, hV, rfl, hfz, hnd⟩ := hW2
  have hA : DataW.TrodAll enc Tryz.prog W 0 (fun _ => true) true Tryz.f3.params.toList args.toList ds p := hA0
  rw [Tryz.params3] at hA hval
  obtain ⟨v0, vs0, d0, ds0, p0, q0, hargs, rfl, rfl, h0, r0⟩ := trodAll_cons hA
  obtain ⟨v1, vs1, d1, ds1, p1, q1, rfl, rfl, rfl, h1, r1⟩ := trodAll_cons r0
  obtain ⟨rfl, rfl, rfl⟩ := trodAll_nil r1
  obtain rfl : args = #[v0, v1] := by cases args; simp_all
  obtain ⟨rfl, rfl⟩ := trodVars_none hV
  obtain ⟨mx, hmx⟩ := Go.Proofs.cell_of_shapedOpen_int (g := 1) (zero := #[.int .i64 0]) (t := 3) hsh (by decide +kernel) (by kernel_rfl) (by decide) (by kernel_rfl) (by kernel_rfl) Tryz.underlying3
  have hsz : (DataW.weightsEach Tryz.prog (Tryz.f3.params.toList ++ Rows.itemVersionsSpec.plain.varTypes Tryz.prog) _).all (· ≤ reachBytes) = true := hsz0
  rw [Tryz.params3] at hsz
  obtain ⟨a, La, rfl, hR1⟩ := item_open (hval 0 25 v0 rfl rfl) h0 (light_arg hsz (j := 0) rfl rfl)
  obtain ⟨b, Lb, rfl, hR2⟩ := item_open (hval 1 25 v1 rfl rfl) h1 (light_arg hsz (j := 1) rfl rfl)
  refine (itemVersions_walk a b La Lb W hR1 hR2 ⟨mx, hmx⟩ (fld_of hL (by kernel_rfl) (by kernel_rfl))).mono fun e W' ⟨he, hw⟩ => ?_
  subst he
  exact ⟨_, rfl, law_post (s := Rows.itemVersionsSpec) hW' Tryz.laidOut (by kernel_rfl) rfl (by rfl) rfl Tryz.underlying4 hw⟩

theorem itemVersions_holds : Rows.ItemVersionsSaid :=
  OpenClaim.holds_of_cond 3 Tryz.f3 rfl rfl rfl rfl rfl rfl rfl ⟨rfl, rfl, rfl, rfl, rfl⟩ rfl rfl rfl rfl rfl (by kernel_rfl) Tryz.func3 (by kernel_rfl)
    (of_decide_eq_true (by kernel_rfl)) (by unfold Func.isWrapper; first | (rw [if_pos (by decide +kernel)]; kernel_rfl) | (rw [if_neg (by decide +kernel)]; exact ⟨rfl, rfl⟩))
    (fun os started H enc _ F => by rw [OpenClaim.pre_eq_preRow]; exact itemVersions_lifted os started H enc F)
theorem itemVersions_card : Rows.ItemVersionsCardSaid :=
  Claim7.holds_tied_plain_at .later [] _ _ _ _
    itemVersions_holds (fun _ h => by cases h) (by kernel_rfl) (fun _ h => by cases h) itemVersions_row_tie rfl ⟨rfl, rfl⟩ (by kernel_rfl) rfl
    (fun f fn hf hfn => by
      obtain rfl : f = 3 := Option.some.inj ((show Tryz.prog.funcNamed Rows.itemVersionsRow.func = some 3 by kernel_rfl).symm.trans hf) |>.symm
      obtain rfl : fn = Tryz.f3 := (Option.some.inj (Tryz.func3.symm.trans hfn)).symm
      exact ⟨by kernel_rfl, fun j t ht => by
        rw [Tryz.params3] at ht
        have hm : t ∈ [25, 25] := by simpa using Array.mem_of_getElem? ht
        have hall : ([25, 25].all fun u => !Tryz.prog.wantsStandIn u) = true := by kernel_rfl
        exact (show Tryz.prog.wantsStandIn t = false by simpa using List.all_eq_true.1 hall t hm)⟩)
    (by kernel_rfl)
#print axioms itemVersions_card

end Go.Proofs.YtdaccamiipknmaaGreatDoor
