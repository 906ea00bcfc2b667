/- The law's awake: the chapter's example. Conditions: the library's variable and the package's names lie in memory. -/
import Derived.Test.YtdaccamiipknmaaGreatDoorIuG
import Derived.Test.YtdaccamiipknmaaGreatDoorStc
namespace Go.Proofs.YtdaccamiipknmaaGreatDoor
open Go.RowKit Go.Shelf

namespace It
def smpB : Item := { smp with ver := 2, pts := 2 }
def smpC : Item := { smp with chs := [2] }
set_option maxRecDepth 100000 in
theorem vld_smp : vld smp = 0 := by decide +kernel
set_option maxRecDepth 100000 in
theorem vld_smpB : vld smpB = 0 := by decide +kernel
set_option maxRecDepth 100000 in
theorem vld_smpC : vld smpC = 19 := by decide +kernel
theorem diff_smp : diff smp smpB = [⟨#[86, 101, 114, 115, 105, 111, 110]⟩, ⟨#[80, 111, 105, 110, 116, 115]⟩] := by decide +kernel
theorem major_smp : major smp smpB = true := by decide +kernel
theorem minor_smp : major smp smp = false := by decide +kernel
theorem succ_smp : succ smp smpB = 0 := by unfold succ; rw [vld_smpB]; decide
theorem same_smp : sameI smp smp = true := by decide +kernel
end It
theorem smpB_ok : It.Ok It.smpB := ⟨smp_ok.id, by unfold In64; decide, smp_ok.kind, smp_ok.value, smp_ok.tol, by unfold In64; decide, smp_ok.fam, smp_ok.set_, smp_ok.wrd, smp_ok.sec, smp_ok.rub, smp_ok.stem, smp_ok.cont, smp_ok.opts, smp_ok.texts, smp_ok.chs, smp_ok.assets, smp_ok.ol, smp_ok.cl, smp_ok.tl, smp_ok.sl⟩
theorem smpC_ok : It.Ok It.smpC := ⟨smp_ok.id, smp_ok.ver, smp_ok.kind, smp_ok.value, smp_ok.tol, smp_ok.pts, smp_ok.fam, smp_ok.set_, smp_ok.wrd, smp_ok.sec, smp_ok.rub, smp_ok.stem, smp_ok.cont, smp_ok.opts, smp_ok.texts, fun x hx => by simp [It.smpC] at hx; subst hx; unfold In64; decide, smp_ok.assets, smp_ok.ol, by decide, smp_ok.tl, smp_ok.sl⟩
theorem heap_set {w : World} {g : Nat} {cs : Array Value} {t : TypeId} {fr : Nat × Nat} (h : w.heap[g]? = some (.cells cs t fr)) (i : Nat) (v : Value) : (w.setCell ⟨g, i, none⟩ v).heap[g]? = some (.cells (cs.setIfInBounds i v) t fr) := by
  simp [World.setCell, Array.getElem?_modify, h]
theorem frozen_row {w : World} {g : Nat} {cs : Array Value} {t : TypeId} (h : w.heap[g]? = some (.cells cs t (0, 0))) (i : Nat) : w.frozen? ⟨g, i, none⟩ = false := by
  simp [World.frozen?, h]
theorem infoNode {CS : Array Value} (h : CS.size = 5) : (Tryz.prog.info? 34).map (·.size) = some CS.size := by rw [h]; kernel_rfl
/-- What lies where while awake runs. -/
structure AwS (w W : World) (g1 g2 g3 g4 g6 : Nat) (C1 C2 C3 C4 C6 : Array Value) (L1 L2 L3 L6 : It.Loc) (M : Option Addr × Nat) : Prop where
  x : Ext w W
  b1 : W.heap[g1]? = some (.cells C1 25 (0, 0))
  b2 : W.heap[g2]? = some (.cells C2 25 (0, 0))
  b3 : W.heap[g3]? = some (.cells C3 25 (0, 0))
  b4 : W.heap[g4]? = some (.cells C4 34 (0, 0))
  b6 : W.heap[g6]? = some (.cells C6 25 (0, 0))
  i1 : It.In W It.smp L1
  i2 : It.In W It.smpB L2
  i3 : It.In W It.smpC L3
  i6 : It.In W It.smp L6
  k : KidsAt 1000 0 2 W M (flds It.smp)
theorem AwS.ext {w W W' : World} {g1 g2 g3 g4 g6 : Nat} {C1 C2 C3 C4 C6 : Array Value} {L1 L2 L3 L6 : It.Loc} {M : Option Addr × Nat} (h : AwS w W g1 g2 g3 g4 g6 C1 C2 C3 C4 C6 L1 L2 L3 L6 M) (he : Ext W W') : AwS w W' g1 g2 g3 g4 g6 C1 C2 C3 C4 C6 L1 L2 L3 L6 M :=
  ⟨h.x.trans he, he.blockAt h.b1, he.blockAt h.b2, he.blockAt h.b3, he.blockAt h.b4, he.blockAt h.b6, h.i1.ext he, h.i2.ext he, h.i3.ext he, h.i6.ext he, h.k.ext he⟩
theorem valid_to (it : It.Item) (L : It.Loc) {v : Int} (hv : It.vld it = v) (w : World) (h : It.In w it L) (hg : Gm w) : Calls Tryz.prog 22 #[It.agg it L] w fun e w' => e = .returned (.int .i64 v) ∧ Ext w w' := by subst hv; exact valid_any it L w h hg
theorem major_to (a b : It.Item) (La Lb : It.Loc) {v : Bool} (hv : It.major a b = v) (w : World) (ha : It.In w a La) (hb : It.In w b Lb) (hf : ∀ w', Ext w w' → Fld w') :
    Calls Tryz.prog 9 #[It.agg a La, It.agg b Lb] w fun e w' => e = .returned (.bool v) ∧ Ext w w' := by subst hv; exact major_any a b La Lb w ha hb hf
theorem succ_to (a b : It.Item) (La Lb : It.Loc) {v : Int} (hv : It.succ a b = v) (w : World) (hb : It.In w b Lb) (hg : ∀ w', Ext w w' → Gm w') :
    Calls Tryz.prog 11 #[It.agg a La, It.agg b Lb] w fun e w' => e = .returned (.int .i64 v) ∧ Ext w w' := by subst hv; exact succeed_any a b La Lb w hb hg
theorem same_to (a b : It.Item) (La Lb : It.Loc) {v : Bool} (hv : It.sameI a b = v) (w : World) (ha : It.In w a La) (hb : It.In w b Lb) :
    Calls Tryz.prog 19 #[It.agg a La, It.agg b Lb] w fun e w' => e = .returned (.bool v) ∧ Ext w w' := by subst hv; exact same_any a b La Lb w ha hb
theorem diff_to (a b : It.Item) (La Lb : It.Loc) {l : List ByteArray} (hl : It.diff a b = l) (w : World) (ha : It.In w a La) (hb : It.In w b Lb) (hf : Fld w) :
    Calls Tryz.prog 7 #[It.agg a La, It.agg b Lb] w fun e w' => (∃ (A : Option Addr) (c : Nat), e = .returned (.slice A l.length c) ∧ SlS w' A l ∧ l.length ≤ c ∧ c ≤ maxLen) ∧ Ext w w' := by subst hl; exact diff_any a b La Lb w ha hb hf
theorem names_to (X : Option Addr) (xc : Nat) (Y : Option Addr) (yc : Nat) (xs ys : List ByteArray) {n m : Nat} {v : Bool} (hv : It.eqS xs ys = v) (hn : xs.length = n) (hm : ys.length = m) (w : World) (ha : SlS w X xs) (hb : SlS w Y ys) (hl1 : n ≤ 9223372036854775807) (hl2 : m ≤ 9223372036854775807) :
    Calls Tryz.prog 6 #[.slice X n xc, .slice Y m yc] w fun e w' => e = .returned (.bool v) ∧ Ext w w' := by subst hv hn hm; exact sameNames_any X xc Y yc xs ys w ha hb hl1 hl2
set_option maxRecDepth 100000 in
set_option maxHeartbeats 64000000 in
theorem awake_any (w : World) (hgf : ∀ w', Ext w w' → Gm w' ∧ Fld w') : Calls Tryz.prog 13 #[] w fun e w' => e = .returned (.bool true) ∧ Ext w w' := by
  have HGF := Lib.hid hgf
  clear hgf
  go_enter Tryz.func13, Tryz.ntmps13
  go_wp2_with fail
  with_reducible refine (sample_any _).mono ?_
  rintro e w1 ⟨⟨L1, rfl, hI1⟩, hb1⟩
  obtain ⟨C1, hc1, hn1, ho1, hk1⟩ := It.packed It.smp L1
  rw [hc1]
  obtain ⟨W1, hW1⟩ : ∃ W, ((w1.alloc (.cells #[.int .i64 0, .int .i64 0, .int .i64 0, .string ⟨#[]⟩, .slice none 0 0, .slice none 0 0, .int .i64 0, .int .i64 0, .slice none 0 0, .int .i64 0, .string ⟨#[]⟩, .int .i64 0, .int .i64 0, .int .i64 0, .int .i64 0, .slice none 0 0, .int .i64 0] 25)).setRow w1.heap.size C1) = W := ⟨_, rfl⟩
  have B1 : Hid (W1.heap[w1.heap.size]? = some (.cells C1 25 (0, 0))) := Lib.hid (by rw [← hW1]; exact setRow_at (heap_alloc_new _ _))
  have E1 : Ext w1 W1 := by rw [← hW1]; exact ((Ext.refl _).alloc _).setRow (Nat.le_refl _) _
  have X1 := Lib.hid (hb1.trans E1)
  have I1 := Lib.hid (hI1.ext E1)
  have F1 := Lib.hid (infoItem hn1)
  have S1 := Lib.hid hn1
  have O1 := Lib.hid ho1
  have HC1 := Lib.hid hc1
  have HW1 := Lib.hid hW1
  clear hI1 hb1 hc1 hn1 ho1 hk1 hW1 E1
  go_wp2_with (refine wpList_store_row rfl _ _ _ rfl w1.heap.size C1 rfl rfl _ #[.int .i64 0, .int .i64 0, .int .i64 0, .string ⟨#[]⟩, .slice none 0 0, .slice none 0 0, .int .i64 0, .int .i64 0, .slice none 0 0, .int .i64 0, .string ⟨#[]⟩, .int .i64 0, .int .i64 0, .int .i64 0, .int .i64 0, .slice none 0 0, .int .i64 0] (heap_alloc_new _ _) F1.out S1.out.symm O1.out ?_; rw [HW1.out])
  clear HW1
  with_reducible refine (sample_any _).mono ?_
  rintro e w2 ⟨⟨L2, rfl, hI2⟩, hb2⟩
  obtain ⟨C2, hc2, hn2, ho2, hk2⟩ := It.packed It.smp L2
  rw [hc2]
  obtain ⟨W2, hW2⟩ : ∃ W, ((w2.alloc (.cells #[.int .i64 0, .int .i64 0, .int .i64 0, .string ⟨#[]⟩, .slice none 0 0, .slice none 0 0, .int .i64 0, .int .i64 0, .slice none 0 0, .int .i64 0, .string ⟨#[]⟩, .int .i64 0, .int .i64 0, .int .i64 0, .int .i64 0, .slice none 0 0, .int .i64 0] 25)).setRow w2.heap.size C2) = W := ⟨_, rfl⟩
  have hB2 : W2.heap[w2.heap.size]? = some (.cells C2 25 (0, 0)) := by rw [← hW2]; exact setRow_at (heap_alloc_new _ _)
  have E2 : Ext w2 W2 := by rw [← hW2]; exact ((Ext.refl _).alloc _).setRow (Nat.le_refl _) _
  have c21 : W2.cell? ⟨w2.heap.size, 1, none⟩ = some (.int .i64 1) := (cell_of_row _ _ 1 _ _ _ hB2).trans (by rw [← hk2]; rfl)
  have c29 : W2.cell? ⟨w2.heap.size, 9, none⟩ = some (.int .i64 1) := (cell_of_row _ _ 9 _ _ _ hB2).trans (by rw [← hk2]; rfl)
  have f21 := frozen_row hB2 1
  have f29 := frozen_row hB2 9
  have hB2' := heap_set (heap_set hB2 1 (.int .i64 2)) 9 (.int .i64 2)
  have E2' : Ext w2 ((W2.setCell ⟨w2.heap.size, 1, none⟩ (.int .i64 2)).setCell ⟨w2.heap.size, 9, none⟩ (.int .i64 2)) := (E2.setCell (Nat.le_refl _) _).setCell (Nat.le_refl _) _
  have B2 := Lib.hid hB2'
  have X2 := Lib.hid (hb2.trans E2')
  have I2 : Hid (It.In _ It.smpB L2) := Lib.hid ⟨smpB_ok, hI2.o.ext E2', hI2.c.ext E2', hI2.t.ext E2', hI2.s.ext E2', hI2.oc, hI2.cc, hI2.tc, hI2.sc⟩
  have HC2 : Hid (It.agg It.smpB L2 = .agg ((C2.setIfInBounds 1 (.int .i64 2)).setIfInBounds 9 (.int .i64 2))) := Lib.hid (by rw [← hk2]; rfl)
  have F2 := Lib.hid (infoItem hn2)
  have S2 := Lib.hid hn2
  have O2 := Lib.hid ho2
  have HW2 := Lib.hid hW2
  have HB2 := Lib.hid hB2
  clear hI2 hb2 hc2 hn2 ho2 hk2 hW2 E2 E2' hB2 hB2'
  go_wp2_with (refine wpList_store_row rfl _ _ _ rfl w2.heap.size C2 rfl rfl _ #[.int .i64 0, .int .i64 0, .int .i64 0, .string ⟨#[]⟩, .slice none 0 0, .slice none 0 0, .int .i64 0, .int .i64 0, .slice none 0 0, .int .i64 0, .string ⟨#[]⟩, .int .i64 0, .int .i64 0, .int .i64 0, .int .i64 0, .slice none 0 0, .int .i64 0] (heap_alloc_new _ _) F2.out S2.out.symm O2.out ?_; rw [HW2.out])
  clear HW2 c21 c29 f21 f29
  with_reducible refine (sample_any _).mono ?_
  rintro e w3 ⟨⟨L3, rfl, hI3⟩, hb3⟩
  obtain ⟨C3, hc3, hn3, ho3, hk3⟩ := It.packed It.smp L3
  rw [hc3]
  obtain ⟨W3, hW3⟩ : ∃ W, ((w3.alloc (.cells #[.int .i64 0, .int .i64 0, .int .i64 0, .string ⟨#[]⟩, .slice none 0 0, .slice none 0 0, .int .i64 0, .int .i64 0, .slice none 0 0, .int .i64 0, .string ⟨#[]⟩, .int .i64 0, .int .i64 0, .int .i64 0, .int .i64 0, .slice none 0 0, .int .i64 0] 25)).setRow w3.heap.size C3) = W := ⟨_, rfl⟩
  have hB3 : W3.heap[w3.heap.size]? = some (.cells C3 25 (0, 0)) := by rw [← hW3]; exact setRow_at (heap_alloc_new _ _)
  have E3 : Ext w3 W3 := by rw [← hW3]; exact ((Ext.refl _).alloc _).setRow (Nat.le_refl _) _
  have hz3 : w3.heap.size < W3.heap.size := by rw [← hW3]; simp [World.setRow]
  have c35 : W3.cell? ⟨w3.heap.size, 5, none⟩ = some (.slice L3.cA 1 L3.cc) := (cell_of_row _ _ 5 _ _ _ hB3).trans (by rw [← hk3]; rfl)
  have f35 := frozen_row hB3 5
  have E3' : Ext w3 ((W3.setCell ⟨w3.heap.size, 5, none⟩ (.slice (some ⟨W3.heap.size, 0, none⟩) 1 1)).alloc (.cells #[.int .i64 2] 3)) := (E3.setCell (Nat.le_refl _) _).alloc _
  have hB3' := ((Ext.refl (W3.setCell ⟨w3.heap.size, 5, none⟩ (.slice (some ⟨W3.heap.size, 0, none⟩) 1 1))).alloc (.cells #[.int .i64 2] 3)).blockAt (heap_set hB3 5 (.slice (some ⟨W3.heap.size, 0, none⟩) 1 1))
  have B3 := Lib.hid hB3'
  have I3 : Hid (It.In ((W3.setCell ⟨w3.heap.size, 5, none⟩ (.slice (some ⟨W3.heap.size, 0, none⟩) 1 1)).alloc (.cells #[.int .i64 2] 3)) It.smpC { L3 with cA := some ⟨W3.heap.size, 0, none⟩, cc := 1 }) :=
    Lib.hid ⟨smpC_ok, hI3.o.ext E3', Sl.new_at (W3.setCell ⟨w3.heap.size, 5, none⟩ (.slice (some ⟨W3.heap.size, 0, none⟩) 1 1)) [.int .i64 2] 3 W3.heap.size (by simp), hI3.t.ext E3', hI3.s.ext E3', hI3.oc, ⟨Nat.le_refl 1, (by decide : 1 ≤ maxLen)⟩, hI3.tc, hI3.sc⟩
  have HC3 : Hid (It.agg It.smpC { L3 with cA := some ⟨W3.heap.size, 0, none⟩, cc := 1 } = .agg (C3.setIfInBounds 5 (.slice (some ⟨W3.heap.size, 0, none⟩) 1 1))) := Lib.hid (by rw [← hk3]; rfl)
  have F3 := Lib.hid (infoItem hn3)
  have S3 := Lib.hid hn3
  have O3 := Lib.hid ho3
  have HW3 := Lib.hid hW3
  have E23 := Lib.hid (hb3.trans E3')
  have E13 := Lib.hid ((X2.out.trans hb3).trans E3')
  have X3 := Lib.hid (X1.out.trans E13.out)
  clear hI3 hb3 hc3 hn3 ho3 hk3 hW3 E3 E3' hB3 hB3'
  have HEN := Lib.hid (encode_any It.smp L1)
  rw [HC1.out] at HEN
  go_wp2_with (first
    | (refine wpList_store_row rfl _ _ _ rfl w3.heap.size C3 rfl rfl _ #[.int .i64 0, .int .i64 0, .int .i64 0, .string ⟨#[]⟩, .slice none 0 0, .slice none 0 0, .int .i64 0, .int .i64 0, .slice none 0 0, .int .i64 0, .string ⟨#[]⟩, .int .i64 0, .int .i64 0, .int .i64 0, .int .i64 0, .slice none 0 0, .int .i64 0] (heap_alloc_new _ _) F3.out S3.out.symm O3.out ?_; rw [HW3.out])
    | refine wpList_load_row_w rfl _ _ rfl w1.heap.size rfl _ C1 _ _ (E13.out.blockAt B1.out) Tryz.underlying25 rfl F1.out ?_)
  clear HW3 c35 f35
  with_reducible refine (HEN.out _ (I1.out.ext E13.out) (fun w' he => (HGF.out w' (X3.out.trans he)).1)).mono ?_
  rintro e w4 ⟨hE, hb4⟩
  obtain ⟨⟨MA, mc⟩, rfl, hK⟩ := hE.1 It.vld_smp
  obtain ⟨mb, mo, M0, hMA, hmb, -, -, hk0, -, -, -⟩ := hK.at_ (i := 0) (x := .mk 1 1 7 ⟨#[]⟩ []) rfl
  dsimp only at hMA
  subst hMA
  have HK0 : Hid (w4.cell? ⟨mb, mo + 1 + 1, none⟩ = some (.int .i64 7)) := Lib.hid (by have := hk0; simpa [Nd.n] using this)
  obtain ⟨C4, hc4, hn4, ho4, hk4⟩ : ∃ C4 : Array Value, nda (tree It.smp) (some ⟨mb, mo, none⟩, mc) = .agg C4 ∧ C4.size = 5 ∧ C4.all (·.oneCell') = true ∧ C4[4]? = some (.slice (some ⟨mb, mo, none⟩) 17 mc) := ⟨_, rfl, rfl, by simp [Value.oneCell'], rfl⟩
  rw [hc4]
  obtain ⟨W4, hW4⟩ : ∃ W, ((w4.alloc (.cells #[.int .i64 0, .int .i64 0, .int .i64 0, .string ⟨#[]⟩, .slice none 0 0] 34)).setRow w4.heap.size C4) = W := ⟨_, rfl⟩
  have hB4 : W4.heap[w4.heap.size]? = some (.cells C4 34 (0, 0)) := by rw [← hW4]; exact setRow_at (heap_alloc_new _ _)
  have E4 : Ext w4 W4 := by rw [← hW4]; exact ((Ext.refl _).alloc _).setRow (Nat.le_refl _) _
  have B4 := Lib.hid hB4
  have K4 := Lib.hid ((hK.lower (Nat.zero_le _)).ext E4)
  have HK4 := Lib.hid (E4.keep HK0.out)
  have J4 := Lib.hid hk4
  have F4 := Lib.hid (infoNode hn4)
  have S4 := Lib.hid hn4
  have O4 := Lib.hid ho4
  have E34 := Lib.hid (hb4.trans E4)
  have X4 := Lib.hid (X3.out.trans E34.out)
  have HW4 := Lib.hid hW4
  have HDE := Lib.hid (decode_any 1000 0 (tree It.smp) (some ⟨mb, mo, none⟩, mc))
  rw [hc4] at HDE
  clear hE hb4 hK hk0 hc4 hn4 ho4 hk4 hW4 hB4 E4 HK0 HEN
  go_wp2_with (first
    | (refine wpList_store_row rfl _ _ _ rfl w4.heap.size C4 rfl rfl _ #[.int .i64 0, .int .i64 0, .int .i64 0, .string ⟨#[]⟩, .slice none 0 0] (heap_alloc_new _ _) F4.out S4.out.symm O4.out ?_; rw [HW4.out])
    | refine wpList_load_row_w rfl _ _ rfl w4.heap.size rfl _ C4 _ _ B4.out Tryz.underlying34 rfl F4.out ?_)
  clear HW4
  with_reducible refine (HDE.out _ K4.out (szOk_tree smp_ok) (n64_tree smp_ok) (few_tree It.vld_smp) (HGF.out _ X4.out).1).mono ?_
  rintro e w6 ⟨hD, hb6⟩
  have hde : decErr (tree It.smp) = 0 := by unfold decErr; rw [if_pos (isTr_tree _)]; show It.vld (itemOf (flds It.smp)) = 0; rw [itemOf_flds]; exact It.vld_smp
  rw [hde] at hD
  obtain ⟨L6, he6, hI6⟩ := hD.1 rfl
  have hit : itemOf (tree It.smp).kids = It.smp := itemOf_flds _
  rw [hit] at he6 hI6
  subst he6
  obtain ⟨C6, hc6, hn6, ho6, hk6⟩ := It.packed It.smp L6
  rw [hc6]
  obtain ⟨W6, hW6⟩ : ∃ W, ((w6.alloc (.cells #[.int .i64 0, .int .i64 0, .int .i64 0, .string ⟨#[]⟩, .slice none 0 0, .slice none 0 0, .int .i64 0, .int .i64 0, .slice none 0 0, .int .i64 0, .string ⟨#[]⟩, .int .i64 0, .int .i64 0, .int .i64 0, .int .i64 0, .slice none 0 0, .int .i64 0] 25)).setRow w6.heap.size C6) = W := ⟨_, rfl⟩
  have hB6 : W6.heap[w6.heap.size]? = some (.cells C6 25 (0, 0)) := by rw [← hW6]; exact setRow_at (heap_alloc_new _ _)
  have E6 : Ext w6 W6 := by rw [← hW6]; exact ((Ext.refl _).alloc _).setRow (Nat.le_refl _) _
  have E46 := hb6.trans E6
  have E36 := E34.out.trans E46
  have c44 : W6.cell? ⟨w4.heap.size, 4, none⟩ = some (.slice (some ⟨mb, mo, none⟩) 17 mc) := (cell_of_row _ _ 4 _ _ _ (E46.blockAt B4.out)).trans J4.out
  have HAW : Hid (AwS w W6 w1.heap.size w2.heap.size w3.heap.size w4.heap.size w6.heap.size C1 ((C2.setIfInBounds 1 (.int .i64 2)).setIfInBounds 9 (.int .i64 2)) (C3.setIfInBounds 5 (.slice (some ⟨W3.heap.size, 0, none⟩) 1 1)) C4 C6 L1 L2 { L3 with cA := some ⟨W3.heap.size, 0, none⟩, cc := 1 } L6 (some ⟨mb, mo, none⟩, mc)) :=
    Lib.hid ⟨X4.out.trans E46, (E13.out.trans E36).blockAt B1.out, (E23.out.trans E36).blockAt B2.out, E36.blockAt B3.out, E46.blockAt B4.out, hB6, I1.out.ext (E13.out.trans E36), I2.out.ext (E23.out.trans E36), I3.out.ext E36, (hI6.in_ smp_ok).ext E6, K4.out.ext E46⟩
  have HC44 := Lib.hid c44
  have HM0 := Lib.hid (E46.keep HK4.out)
  have F6 := Lib.hid (infoItem hn6)
  have S6 := Lib.hid hn6
  have O6 := Lib.hid ho6
  have HC6 := Lib.hid hc6
  have HW6 := Lib.hid hW6
  have F2' : Hid ((Tryz.prog.info? 25).map (·.size) = some ((C2.setIfInBounds 1 (.int .i64 2)).setIfInBounds 9 (.int .i64 2)).size) := Lib.hid (infoItem (by simpa using S2.out))
  have F3' : Hid ((Tryz.prog.info? 25).map (·.size) = some (C3.setIfInBounds 5 (.slice (some ⟨W3.heap.size, 0, none⟩) 1 1)).size) := Lib.hid (infoItem (by simpa using S3.out))
  generalize ((C2.setIfInBounds 1 (.int .i64 2)).setIfInBounds 9 (.int .i64 2)) = CB at *
  generalize (C3.setIfInBounds 5 (.slice (some ⟨W3.heap.size, 0, none⟩) 1 1)) = CC at *
  generalize ({ L3 with cA := some ⟨W3.heap.size, 0, none⟩, cc := 1 } : It.Loc) = LC at *
  clear hD hb6 hI6 hc6 hn6 ho6 hk6 hW6 hB6 E6 E46 E36 c44 hde hit HDE K4 HK4 I1 I2 I3 E34 E13 E23 X1 X2 X3 X4 B1 B2 B3 B4
  have V1 := Lib.hid (valid_to It.smp L1 It.vld_smp)
  have V3 := Lib.hid (valid_to It.smpC LC It.vld_smpC)
  have D12 := Lib.hid (diff_to It.smp It.smpB L1 L2 It.diff_smp)
  have M12 := Lib.hid (major_to It.smp It.smpB L1 L2 It.major_smp)
  have M11 := Lib.hid (major_to It.smp It.smp L1 L1 It.minor_smp)
  have U12 := Lib.hid (succ_to It.smp It.smpB L1 L2 It.succ_smp)
  have A16 := Lib.hid (same_to It.smp It.smp L1 L6 It.same_smp)
  rw [HC1.out] at V1 M11
  rw [HC3.out] at V3
  rw [HC1.out, HC2.out] at D12 M12 U12
  rw [HC1.out, HC6.out] at A16
  go_wp2_with (first
    | (refine wpList_store_row rfl _ _ _ rfl w6.heap.size C6 rfl rfl _ #[.int .i64 0, .int .i64 0, .int .i64 0, .string ⟨#[]⟩, .slice none 0 0, .slice none 0 0, .int .i64 0, .int .i64 0, .slice none 0 0, .int .i64 0, .string ⟨#[]⟩, .int .i64 0, .int .i64 0, .int .i64 0, .int .i64 0, .slice none 0 0, .int .i64 0] (heap_alloc_new _ _) F6.out S6.out.symm O6.out ?_; rw [HW6.out])
    | refine wpList_load_row_w rfl _ _ rfl w1.heap.size rfl _ C1 _ _ HAW.out.b1 Tryz.underlying25 rfl F1.out ?_
    | refine wpList_load_row_w rfl _ _ rfl w2.heap.size rfl _ CB _ _ HAW.out.b2 Tryz.underlying25 rfl F2'.out ?_
    | refine wpList_load_row_w rfl _ _ rfl w3.heap.size rfl _ CC _ _ HAW.out.b3 Tryz.underlying25 rfl F3'.out ?_
    | refine wpList_load_row_w rfl _ _ rfl w6.heap.size rfl _ C6 _ _ HAW.out.b6 Tryz.underlying25 rfl F6.out ?_)
  with_reducible refine (V1.out _ HAW.out.i1 (HGF.out _ HAW.out.x).1).mono ?_
  rintro e v1 ⟨rfl, hb⟩
  have HAW := Lib.hid (HAW.out.ext hb)
  have HC44 := Lib.hid (hb.keep HC44.out)
  have HM0 := Lib.hid (hb.keep HM0.out)
  clear hb
  go_wp2_with (first
    | refine wpList_load_row_w rfl _ _ rfl w1.heap.size rfl _ C1 _ _ HAW.out.b1 Tryz.underlying25 rfl F1.out ?_
    | refine wpList_load_row_w rfl _ _ rfl w2.heap.size rfl _ CB _ _ HAW.out.b2 Tryz.underlying25 rfl F2'.out ?_
    | refine wpList_load_row_w rfl _ _ rfl w3.heap.size rfl _ CC _ _ HAW.out.b3 Tryz.underlying25 rfl F3'.out ?_
    | refine wpList_load_row_w rfl _ _ rfl w6.heap.size rfl _ C6 _ _ HAW.out.b6 Tryz.underlying25 rfl F6.out ?_)
  with_reducible refine (V3.out _ HAW.out.i3 (HGF.out _ HAW.out.x).1).mono ?_
  rintro e v2 ⟨rfl, hb⟩
  have HAW := Lib.hid (HAW.out.ext hb)
  have HC44 := Lib.hid (hb.keep HC44.out)
  have HM0 := Lib.hid (hb.keep HM0.out)
  clear hb
  go_wp2_with (first
    | refine wpList_load_row_w rfl _ _ rfl w1.heap.size rfl _ C1 _ _ HAW.out.b1 Tryz.underlying25 rfl F1.out ?_
    | refine wpList_load_row_w rfl _ _ rfl w2.heap.size rfl _ CB _ _ HAW.out.b2 Tryz.underlying25 rfl F2'.out ?_
    | refine wpList_load_row_w rfl _ _ rfl w3.heap.size rfl _ CC _ _ HAW.out.b3 Tryz.underlying25 rfl F3'.out ?_
    | refine wpList_load_row_w rfl _ _ rfl w6.heap.size rfl _ C6 _ _ HAW.out.b6 Tryz.underlying25 rfl F6.out ?_)
  with_reducible refine (D12.out _ HAW.out.i1 HAW.out.i2 (HGF.out _ HAW.out.x).2).mono ?_
  rintro e v3 ⟨⟨NA, nc, rfl, hs, -, -⟩, hb⟩
  have HAW := Lib.hid (HAW.out.ext hb)
  have HC44 := Lib.hid (hb.keep HC44.out)
  have HM0 := Lib.hid (hb.keep HM0.out)
  clear hb
  have HS := Lib.hid (hs.ext ((Ext.refl v3).alloc (.cells #[.string ⟨#[86, 101, 114, 115, 105, 111, 110]⟩, .string ⟨#[80, 111, 105, 110, 116, 115]⟩] 9)))
  have HS2 : Hid (SlS (v3.alloc (.cells #[.string ⟨#[86, 101, 114, 115, 105, 111, 110]⟩, .string ⟨#[80, 111, 105, 110, 116, 115]⟩] 9)) (some ⟨v3.heap.size, 0, none⟩) [⟨#[86, 101, 114, 115, 105, 111, 110]⟩, ⟨#[80, 111, 105, 110, 116, 115]⟩]) := Lib.hid (Sl.new v3 [.string ⟨#[86, 101, 114, 115, 105, 111, 110]⟩, .string ⟨#[80, 111, 105, 110, 116, 115]⟩] 9)
  clear hs
  simp only [List.length_cons, List.length_nil, Nat.reduceAdd]
  go_wp2_with (first
    | refine wpList_load_row_w rfl _ _ rfl w1.heap.size rfl _ C1 _ _ HAW.out.b1 Tryz.underlying25 rfl F1.out ?_
    | refine wpList_load_row_w rfl _ _ rfl w2.heap.size rfl _ CB _ _ HAW.out.b2 Tryz.underlying25 rfl F2'.out ?_
    | refine wpList_load_row_w rfl _ _ rfl w3.heap.size rfl _ CC _ _ HAW.out.b3 Tryz.underlying25 rfl F3'.out ?_
    | refine wpList_load_row_w rfl _ _ rfl w6.heap.size rfl _ C6 _ _ HAW.out.b6 Tryz.underlying25 rfl F6.out ?_)
  with_reducible refine (names_to NA nc (some ⟨v3.heap.size, 0, none⟩) 2 _ _ (n := 2) (m := 2) (v := true) (by decide) rfl rfl _ HS.out HS2.out (by decide) (by decide)).mono ?_
  rintro e v4 ⟨rfl, hb'⟩
  have hb := ((Ext.refl v3).alloc (.cells #[.string ⟨#[86, 101, 114, 115, 105, 111, 110]⟩, .string ⟨#[80, 111, 105, 110, 116, 115]⟩] 9)).trans hb'
  clear hb' HS HS2
  have HAW := Lib.hid (HAW.out.ext hb)
  have HC44 := Lib.hid (hb.keep HC44.out)
  have HM0 := Lib.hid (hb.keep HM0.out)
  clear hb
  go_wp2_with (first
    | refine wpList_load_row_w rfl _ _ rfl w1.heap.size rfl _ C1 _ _ HAW.out.b1 Tryz.underlying25 rfl F1.out ?_
    | refine wpList_load_row_w rfl _ _ rfl w2.heap.size rfl _ CB _ _ HAW.out.b2 Tryz.underlying25 rfl F2'.out ?_
    | refine wpList_load_row_w rfl _ _ rfl w3.heap.size rfl _ CC _ _ HAW.out.b3 Tryz.underlying25 rfl F3'.out ?_
    | refine wpList_load_row_w rfl _ _ rfl w6.heap.size rfl _ C6 _ _ HAW.out.b6 Tryz.underlying25 rfl F6.out ?_)
  with_reducible refine (M12.out _ HAW.out.i1 HAW.out.i2 (fun w' he => (HGF.out w' (HAW.out.x.trans he)).2)).mono ?_
  rintro e v5 ⟨rfl, hb⟩
  have HAW := Lib.hid (HAW.out.ext hb)
  have HC44 := Lib.hid (hb.keep HC44.out)
  have HM0 := Lib.hid (hb.keep HM0.out)
  clear hb
  go_wp2_with (first
    | refine wpList_load_row_w rfl _ _ rfl w1.heap.size rfl _ C1 _ _ HAW.out.b1 Tryz.underlying25 rfl F1.out ?_
    | refine wpList_load_row_w rfl _ _ rfl w2.heap.size rfl _ CB _ _ HAW.out.b2 Tryz.underlying25 rfl F2'.out ?_
    | refine wpList_load_row_w rfl _ _ rfl w3.heap.size rfl _ CC _ _ HAW.out.b3 Tryz.underlying25 rfl F3'.out ?_
    | refine wpList_load_row_w rfl _ _ rfl w6.heap.size rfl _ C6 _ _ HAW.out.b6 Tryz.underlying25 rfl F6.out ?_)
  with_reducible refine (M11.out _ HAW.out.i1 HAW.out.i1 (fun w' he => (HGF.out w' (HAW.out.x.trans he)).2)).mono ?_
  rintro e v6 ⟨rfl, hb⟩
  have HAW := Lib.hid (HAW.out.ext hb)
  have HC44 := Lib.hid (hb.keep HC44.out)
  have HM0 := Lib.hid (hb.keep HM0.out)
  clear hb
  go_wp2_with (first
    | refine wpList_load_row_w rfl _ _ rfl w1.heap.size rfl _ C1 _ _ HAW.out.b1 Tryz.underlying25 rfl F1.out ?_
    | refine wpList_load_row_w rfl _ _ rfl w2.heap.size rfl _ CB _ _ HAW.out.b2 Tryz.underlying25 rfl F2'.out ?_
    | refine wpList_load_row_w rfl _ _ rfl w3.heap.size rfl _ CC _ _ HAW.out.b3 Tryz.underlying25 rfl F3'.out ?_
    | refine wpList_load_row_w rfl _ _ rfl w6.heap.size rfl _ C6 _ _ HAW.out.b6 Tryz.underlying25 rfl F6.out ?_)
  with_reducible refine (U12.out _ HAW.out.i2 (fun w' he => (HGF.out w' (HAW.out.x.trans he)).1)).mono ?_
  rintro e v7 ⟨rfl, hb⟩
  have HAW := Lib.hid (HAW.out.ext hb)
  have HC44 := Lib.hid (hb.keep HC44.out)
  have HM0 := Lib.hid (hb.keep HM0.out)
  clear hb
  have c44 := HC44.out
  have m0 := HM0.out
  go_wp2_with (first
    | refine wpList_load_row_w rfl _ _ rfl w1.heap.size rfl _ C1 _ _ HAW.out.b1 Tryz.underlying25 rfl F1.out ?_
    | refine wpList_load_row_w rfl _ _ rfl w2.heap.size rfl _ CB _ _ HAW.out.b2 Tryz.underlying25 rfl F2'.out ?_
    | refine wpList_load_row_w rfl _ _ rfl w3.heap.size rfl _ CC _ _ HAW.out.b3 Tryz.underlying25 rfl F3'.out ?_
    | refine wpList_load_row_w rfl _ _ rfl w6.heap.size rfl _ C6 _ _ HAW.out.b6 Tryz.underlying25 rfl F6.out ?_)
  clear c44 m0
  with_reducible refine (A16.out _ HAW.out.i1 HAW.out.i6).mono ?_
  rintro e v8 ⟨rfl, hb⟩
  have HAW := Lib.hid (HAW.out.ext hb)
  have HC44 := Lib.hid (hb.keep HC44.out)
  have HM0 := Lib.hid (hb.keep HM0.out)
  clear hb
  go_wp2
  go_ret
  exact ⟨rfl, HAW.out.x⟩
end Go.Proofs.YtdaccamiipknmaaGreatDoor
