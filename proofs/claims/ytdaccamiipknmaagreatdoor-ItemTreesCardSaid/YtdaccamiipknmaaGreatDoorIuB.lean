/- The reference's Diff: a contract. Conditions: those of each theorem. -/
import Derived.Test.YtdaccamiipknmaaGreatDoorItT
namespace Go.Proofs.YtdaccamiipknmaaGreatDoor
open Go.RowKit Go.Shelf

theorem It.addL_at {a b : It.Item} {k : Nat} {d : Bool} {s : ByteArray} (h : (It.pairs a b)[k]? = some (d, s)) : It.addL (It.foldN ((It.pairs a b).take k)) d s = It.foldN ((It.pairs a b).take (k + 1)) := (It.foldN_snoc h).symm
theorem It.few (a b : It.Item) (k : Nat) : (It.foldN ((It.pairs a b).take k)).length ≤ 1000 := by
  have := It.foldN_le ((It.pairs a b).take k)
  have := List.length_take_le' k (It.pairs a b)
  have e : (It.pairs a b).length = 17 := rfl
  omega

set_option maxRecDepth 100000 in
set_option maxHeartbeats 64000000 in
theorem rdiff_any (a b : It.Item) (La Lb : It.Loc) (w : World) (ha : It.In w a La) (hb : It.In w b Lb) :
    Calls Tryz.prog 8 #[It.agg a La, It.agg b Lb] w fun e w' => (∃ (A : Option Addr) (c : Nat), e = .returned (.slice A (It.diff a b).length c) ∧ SlS w' A (It.diff a b) ∧ (It.diff a b).length ≤ c ∧ c ≤ maxLen) ∧ Ext w w' := by
  have HA := Lib.hid ha
  have HB := Lib.hid hb
  clear ha hb
  obtain ⟨B, hB⟩ : ∃ B, ((w.alloc (.cells (It.cells a La).toArray 25)).alloc (.cells (It.cells b Lb).toArray 25)) = B := ⟨_, rfl⟩
  have ca : ∀ (i : Nat) v, (It.cells a La)[i]? = some v → B.cell? ⟨w.heap.size, i, none⟩ = some v := fun i v hv => by
    subst hB
    refine ((Ext.refl _).alloc _).keep ?_
    rw [World.cell?_alloc_new]; simpa using hv
  have cb : ∀ (i : Nat) v, (It.cells b Lb)[i]? = some v → B.cell? ⟨w.heap.size + 1, i, none⟩ = some v := fun i v hv => by
    subst hB
    have := World.cell?_alloc_new (w.alloc (.cells (It.cells a La).toArray 25)) (It.cells b Lb).toArray 25 i
    rw [show (w.alloc (.cells (It.cells a La).toArray 25)).heap.size = w.heap.size + 1 by simp] at this
    rw [this]; simpa using hv
  have CA := Lib.hid ca
  have CB := Lib.hid cb
  have X0 : Hid (Ext w B) := Lib.hid (by subst hB; exact ((Ext.refl _).alloc _).alloc _)
  have HB0 := Lib.hid hB
  clear ca cb hB
  simp only [It.cells] at HB0
  unfold It.agg
  go_enter Tryz.func8, Tryz.ntmps8
  -- Id
  have hw0 := HB0.out
  have V : Hid (RowS B.heap.size (It.foldN ((It.pairs a b).take 0)) B (.slice none 0 0)) := Lib.hid (own_nil _ _ _ _)
  have X_0 : Hid (Ext B B) := Lib.hid (Ext.refl _)
  have ka := CA.out 0 _ rfl
  have kb := CB.out 0 _ rfl
  rw [← hw0] at ka kb
  have HW0 := Lib.hid hw0
  clear hw0
  go_wp2_with fail
  rw [HW0.out]
  clear ka kb

  with_reducible refine (add_to B B.heap.size (Nat.le_refl _) _ (xs := It.foldN ((It.pairs a b).take 0)) _ _ (It.addL_at (a := a) (b := b) (k := 0) rfl) _ X_0.out X_0.out.size (It.few a b 0) V.out).mono ?_
  rintro e w0 ⟨v0, rfl, hR, hX⟩
  clear V X_0
  have V : Hid (RowS B.heap.size (It.foldN ((It.pairs a b).take 1)) w0 v0) := Lib.hid hR
  have X_1 := Lib.hid hX
  clear hR hX
  -- Version
  have ka : (_ : World).cell? ⟨w.heap.size, 1, none⟩ = some (.int .i64 a.ver) := X_1.out.keep (CA.out 1 _ rfl)
  have kb : (_ : World).cell? ⟨w.heap.size + 1, 1, none⟩ = some (.int .i64 b.ver) := X_1.out.keep (CB.out 1 _ rfl)
  go_wp2_with fail
  with_reducible refine (add_to B B.heap.size (Nat.le_refl _) _ (xs := It.foldN ((It.pairs a b).take 1)) _ _ (It.addL_at (a := a) (b := b) (k := 1) rfl) _ X_1.out X_1.out.size (It.few a b 1) V.out).mono ?_
  rintro e w1 ⟨v1, rfl, hR, hX⟩
  clear ka kb V X_1
  have V : Hid (RowS B.heap.size (It.foldN ((It.pairs a b).take 2)) w1 v1) := Lib.hid hR
  have X_2 := Lib.hid hX
  clear hR hX
  -- Kind
  have ka : (_ : World).cell? ⟨w.heap.size, 2, none⟩ = some (.int .i64 a.kind) := X_2.out.keep (CA.out 2 _ rfl)
  have kb : (_ : World).cell? ⟨w.heap.size + 1, 2, none⟩ = some (.int .i64 b.kind) := X_2.out.keep (CB.out 2 _ rfl)
  go_wp2_with fail
  with_reducible refine (add_to B B.heap.size (Nat.le_refl _) _ (xs := It.foldN ((It.pairs a b).take 2)) _ _ (It.addL_at (a := a) (b := b) (k := 2) rfl) _ X_2.out X_2.out.size (It.few a b 2) V.out).mono ?_
  rintro e w2 ⟨v2, rfl, hR, hX⟩
  clear ka kb V X_2
  have V : Hid (RowS B.heap.size (It.foldN ((It.pairs a b).take 3)) w2 v2) := Lib.hid hR
  have X_3 := Lib.hid hX
  clear hR hX
  -- Stem
  have ka : (_ : World).cell? ⟨w.heap.size, 3, none⟩ = some (.string a.stem) := X_3.out.keep (CA.out 3 _ rfl)
  have kb : (_ : World).cell? ⟨w.heap.size + 1, 3, none⟩ = some (.string b.stem) := X_3.out.keep (CB.out 3 _ rfl)
  go_wp2_with fail
  with_reducible refine (add_to B B.heap.size (Nat.le_refl _) _ (xs := It.foldN ((It.pairs a b).take 3)) _ _ (ys := It.foldN ((It.pairs a b).take (3 + 1))) (by rw [It.beqB]; exact It.addL_at (a := a) (b := b) (k := 3) rfl) _ X_3.out X_3.out.size (It.few a b 3) V.out).mono ?_
  rintro e w3 ⟨v3, rfl, hR, hX⟩
  clear ka kb V X_3
  have V : Hid (RowS B.heap.size (It.foldN ((It.pairs a b).take 4)) w3 v3) := Lib.hid hR
  have X_4 := Lib.hid hX
  clear hR hX
  -- Options
  have ka : (_ : World).cell? ⟨w.heap.size, 4, none⟩ = some (.slice La.oA a.opts.length La.oc) := X_4.out.keep (CA.out 4 _ rfl)
  have kb : (_ : World).cell? ⟨w.heap.size + 1, 4, none⟩ = some (.slice Lb.oA b.opts.length Lb.oc) := X_4.out.keep (CB.out 4 _ rfl)
  go_wp2_with fail
  with_reducible refine (rsameStrings_any La.oA La.oc Lb.oA Lb.oc a.opts b.opts _ (HA.out.o.ext (X0.out.trans X_4.out)) (HB.out.o.ext (X0.out.trans X_4.out)) (Nat.le_trans HA.out.ok.ol (by decide)) (Nat.le_trans HB.out.ok.ol (by decide))).mono ?_
  rintro e w4' ⟨rfl, hx⟩
  have Y_4 := Lib.hid (X_4.out.trans hx)
  have V' : Hid (RowS B.heap.size (It.foldN ((It.pairs a b).take 4)) w4' v3) := Lib.hid (own_ext V.out hx)
  clear hx ka kb V X_4
  go_wp2_with fail
  with_reducible refine (add_to B B.heap.size (Nat.le_refl _) _ (xs := It.foldN ((It.pairs a b).take 4)) _ _ (It.addL_at (a := a) (b := b) (k := 4) rfl) _ Y_4.out Y_4.out.size (It.few a b 4) V'.out).mono ?_
  rintro e w4 ⟨v4, rfl, hR, hX⟩
  have V : Hid (RowS B.heap.size (It.foldN ((It.pairs a b).take 5)) w4 v4) := Lib.hid hR
  have X_5 := Lib.hid hX
  clear hR hX V' Y_4
  -- Choices
  have ka : (_ : World).cell? ⟨w.heap.size, 5, none⟩ = some (.slice La.cA a.chs.length La.cc) := X_5.out.keep (CA.out 5 _ rfl)
  have kb : (_ : World).cell? ⟨w.heap.size + 1, 5, none⟩ = some (.slice Lb.cA b.chs.length Lb.cc) := X_5.out.keep (CB.out 5 _ rfl)
  go_wp2_with fail
  with_reducible refine (rsameInts_any La.cA La.cc Lb.cA Lb.cc a.chs b.chs _ (HA.out.c.ext (X0.out.trans X_5.out)) (HB.out.c.ext (X0.out.trans X_5.out)) (Nat.le_trans HA.out.ok.cl (by decide)) (Nat.le_trans HB.out.ok.cl (by decide))).mono ?_
  rintro e w5' ⟨rfl, hx⟩
  have Y_5 := Lib.hid (X_5.out.trans hx)
  have V' : Hid (RowS B.heap.size (It.foldN ((It.pairs a b).take 5)) w5' v4) := Lib.hid (own_ext V.out hx)
  clear hx ka kb V X_5
  go_wp2_with fail
  with_reducible refine (add_to B B.heap.size (Nat.le_refl _) _ (xs := It.foldN ((It.pairs a b).take 5)) _ _ (It.addL_at (a := a) (b := b) (k := 5) rfl) _ Y_5.out Y_5.out.size (It.few a b 5) V'.out).mono ?_
  rintro e w5 ⟨v5, rfl, hR, hX⟩
  have V : Hid (RowS B.heap.size (It.foldN ((It.pairs a b).take 6)) w5 v5) := Lib.hid hR
  have X_6 := Lib.hid hX
  clear hR hX V' Y_5
  -- Value
  have ka : (_ : World).cell? ⟨w.heap.size, 6, none⟩ = some (.int .i64 a.value) := X_6.out.keep (CA.out 6 _ rfl)
  have kb : (_ : World).cell? ⟨w.heap.size + 1, 6, none⟩ = some (.int .i64 b.value) := X_6.out.keep (CB.out 6 _ rfl)
  go_wp2_with fail
  with_reducible refine (add_to B B.heap.size (Nat.le_refl _) _ (xs := It.foldN ((It.pairs a b).take 6)) _ _ (It.addL_at (a := a) (b := b) (k := 6) rfl) _ X_6.out X_6.out.size (It.few a b 6) V.out).mono ?_
  rintro e w6 ⟨v6, rfl, hR, hX⟩
  clear ka kb V X_6
  have V : Hid (RowS B.heap.size (It.foldN ((It.pairs a b).take 7)) w6 v6) := Lib.hid hR
  have X_7 := Lib.hid hX
  clear hR hX
  -- Tol
  have ka : (_ : World).cell? ⟨w.heap.size, 7, none⟩ = some (.int .i64 a.tol) := X_7.out.keep (CA.out 7 _ rfl)
  have kb : (_ : World).cell? ⟨w.heap.size + 1, 7, none⟩ = some (.int .i64 b.tol) := X_7.out.keep (CB.out 7 _ rfl)
  go_wp2_with fail
  with_reducible refine (add_to B B.heap.size (Nat.le_refl _) _ (xs := It.foldN ((It.pairs a b).take 7)) _ _ (It.addL_at (a := a) (b := b) (k := 7) rfl) _ X_7.out X_7.out.size (It.few a b 7) V.out).mono ?_
  rintro e w7 ⟨v7, rfl, hR, hX⟩
  clear ka kb V X_7
  have V : Hid (RowS B.heap.size (It.foldN ((It.pairs a b).take 8)) w7 v7) := Lib.hid hR
  have X_8 := Lib.hid hX
  clear hR hX
  -- Texts
  have ka : (_ : World).cell? ⟨w.heap.size, 8, none⟩ = some (.slice La.tA a.texts.length La.tc) := X_8.out.keep (CA.out 8 _ rfl)
  have kb : (_ : World).cell? ⟨w.heap.size + 1, 8, none⟩ = some (.slice Lb.tA b.texts.length Lb.tc) := X_8.out.keep (CB.out 8 _ rfl)
  go_wp2_with fail
  with_reducible refine (rsameStrings_any La.tA La.tc Lb.tA Lb.tc a.texts b.texts _ (HA.out.t.ext (X0.out.trans X_8.out)) (HB.out.t.ext (X0.out.trans X_8.out)) (Nat.le_trans HA.out.ok.tl (by decide)) (Nat.le_trans HB.out.ok.tl (by decide))).mono ?_
  rintro e w8' ⟨rfl, hx⟩
  have Y_8 := Lib.hid (X_8.out.trans hx)
  have V' : Hid (RowS B.heap.size (It.foldN ((It.pairs a b).take 8)) w8' v7) := Lib.hid (own_ext V.out hx)
  clear hx ka kb V X_8
  go_wp2_with fail
  with_reducible refine (add_to B B.heap.size (Nat.le_refl _) _ (xs := It.foldN ((It.pairs a b).take 8)) _ _ (It.addL_at (a := a) (b := b) (k := 8) rfl) _ Y_8.out Y_8.out.size (It.few a b 8) V'.out).mono ?_
  rintro e w8 ⟨v8, rfl, hR, hX⟩
  have V : Hid (RowS B.heap.size (It.foldN ((It.pairs a b).take 9)) w8 v8) := Lib.hid hR
  have X_9 := Lib.hid hX
  clear hR hX V' Y_8
  -- Points
  have ka : (_ : World).cell? ⟨w.heap.size, 9, none⟩ = some (.int .i64 a.pts) := X_9.out.keep (CA.out 9 _ rfl)
  have kb : (_ : World).cell? ⟨w.heap.size + 1, 9, none⟩ = some (.int .i64 b.pts) := X_9.out.keep (CB.out 9 _ rfl)
  go_wp2_with fail
  with_reducible refine (add_to B B.heap.size (Nat.le_refl _) _ (xs := It.foldN ((It.pairs a b).take 9)) _ _ (It.addL_at (a := a) (b := b) (k := 9) rfl) _ X_9.out X_9.out.size (It.few a b 9) V.out).mono ?_
  rintro e w9 ⟨v9, rfl, hR, hX⟩
  clear ka kb V X_9
  have V : Hid (RowS B.heap.size (It.foldN ((It.pairs a b).take 10)) w9 v9) := Lib.hid hR
  have X_10 := Lib.hid hX
  clear hR hX
  -- Content
  have ka : (_ : World).cell? ⟨w.heap.size, 10, none⟩ = some (.string a.cont) := X_10.out.keep (CA.out 10 _ rfl)
  have kb : (_ : World).cell? ⟨w.heap.size + 1, 10, none⟩ = some (.string b.cont) := X_10.out.keep (CB.out 10 _ rfl)
  go_wp2_with fail
  with_reducible refine (add_to B B.heap.size (Nat.le_refl _) _ (xs := It.foldN ((It.pairs a b).take 10)) _ _ (ys := It.foldN ((It.pairs a b).take (10 + 1))) (by rw [It.beqB]; exact It.addL_at (a := a) (b := b) (k := 10) rfl) _ X_10.out X_10.out.size (It.few a b 10) V.out).mono ?_
  rintro e w10 ⟨v10, rfl, hR, hX⟩
  clear ka kb V X_10
  have V : Hid (RowS B.heap.size (It.foldN ((It.pairs a b).take 11)) w10 v10) := Lib.hid hR
  have X_11 := Lib.hid hX
  clear hR hX
  -- Family
  have ka : (_ : World).cell? ⟨w.heap.size, 11, none⟩ = some (.int .i64 a.fam) := X_11.out.keep (CA.out 11 _ rfl)
  have kb : (_ : World).cell? ⟨w.heap.size + 1, 11, none⟩ = some (.int .i64 b.fam) := X_11.out.keep (CB.out 11 _ rfl)
  go_wp2_with fail
  with_reducible refine (add_to B B.heap.size (Nat.le_refl _) _ (xs := It.foldN ((It.pairs a b).take 11)) _ _ (It.addL_at (a := a) (b := b) (k := 11) rfl) _ X_11.out X_11.out.size (It.few a b 11) V.out).mono ?_
  rintro e w11 ⟨v11, rfl, hR, hX⟩
  clear ka kb V X_11
  have V : Hid (RowS B.heap.size (It.foldN ((It.pairs a b).take 12)) w11 v11) := Lib.hid hR
  have X_12 := Lib.hid hX
  clear hR hX
  -- Set
  have ka : (_ : World).cell? ⟨w.heap.size, 12, none⟩ = some (.int .i64 a.set_) := X_12.out.keep (CA.out 12 _ rfl)
  have kb : (_ : World).cell? ⟨w.heap.size + 1, 12, none⟩ = some (.int .i64 b.set_) := X_12.out.keep (CB.out 12 _ rfl)
  go_wp2_with fail
  with_reducible refine (add_to B B.heap.size (Nat.le_refl _) _ (xs := It.foldN ((It.pairs a b).take 12)) _ _ (It.addL_at (a := a) (b := b) (k := 12) rfl) _ X_12.out X_12.out.size (It.few a b 12) V.out).mono ?_
  rintro e w12 ⟨v12, rfl, hR, hX⟩
  clear ka kb V X_12
  have V : Hid (RowS B.heap.size (It.foldN ((It.pairs a b).take 13)) w12 v12) := Lib.hid hR
  have X_13 := Lib.hid hX
  clear hR hX
  -- Words
  have ka : (_ : World).cell? ⟨w.heap.size, 13, none⟩ = some (.int .i64 a.wrd) := X_13.out.keep (CA.out 13 _ rfl)
  have kb : (_ : World).cell? ⟨w.heap.size + 1, 13, none⟩ = some (.int .i64 b.wrd) := X_13.out.keep (CB.out 13 _ rfl)
  go_wp2_with fail
  with_reducible refine (add_to B B.heap.size (Nat.le_refl _) _ (xs := It.foldN ((It.pairs a b).take 13)) _ _ (It.addL_at (a := a) (b := b) (k := 13) rfl) _ X_13.out X_13.out.size (It.few a b 13) V.out).mono ?_
  rintro e w13 ⟨v13, rfl, hR, hX⟩
  clear ka kb V X_13
  have V : Hid (RowS B.heap.size (It.foldN ((It.pairs a b).take 14)) w13 v13) := Lib.hid hR
  have X_14 := Lib.hid hX
  clear hR hX
  -- Seconds
  have ka : (_ : World).cell? ⟨w.heap.size, 14, none⟩ = some (.int .i64 a.sec) := X_14.out.keep (CA.out 14 _ rfl)
  have kb : (_ : World).cell? ⟨w.heap.size + 1, 14, none⟩ = some (.int .i64 b.sec) := X_14.out.keep (CB.out 14 _ rfl)
  go_wp2_with fail
  with_reducible refine (add_to B B.heap.size (Nat.le_refl _) _ (xs := It.foldN ((It.pairs a b).take 14)) _ _ (It.addL_at (a := a) (b := b) (k := 14) rfl) _ X_14.out X_14.out.size (It.few a b 14) V.out).mono ?_
  rintro e w14 ⟨v14, rfl, hR, hX⟩
  clear ka kb V X_14
  have V : Hid (RowS B.heap.size (It.foldN ((It.pairs a b).take 15)) w14 v14) := Lib.hid hR
  have X_15 := Lib.hid hX
  clear hR hX
  -- Assets
  have ka : (_ : World).cell? ⟨w.heap.size, 15, none⟩ = some (.slice La.sA a.assets.length La.sc) := X_15.out.keep (CA.out 15 _ rfl)
  have kb : (_ : World).cell? ⟨w.heap.size + 1, 15, none⟩ = some (.slice Lb.sA b.assets.length Lb.sc) := X_15.out.keep (CB.out 15 _ rfl)
  go_wp2_with fail
  with_reducible refine (rsameInts_any La.sA La.sc Lb.sA Lb.sc a.assets b.assets _ (HA.out.s.ext (X0.out.trans X_15.out)) (HB.out.s.ext (X0.out.trans X_15.out)) (Nat.le_trans HA.out.ok.sl (by decide)) (Nat.le_trans HB.out.ok.sl (by decide))).mono ?_
  rintro e w15' ⟨rfl, hx⟩
  have Y_15 := Lib.hid (X_15.out.trans hx)
  have V' : Hid (RowS B.heap.size (It.foldN ((It.pairs a b).take 15)) w15' v14) := Lib.hid (own_ext V.out hx)
  clear hx ka kb V X_15
  go_wp2_with fail
  with_reducible refine (add_to B B.heap.size (Nat.le_refl _) _ (xs := It.foldN ((It.pairs a b).take 15)) _ _ (It.addL_at (a := a) (b := b) (k := 15) rfl) _ Y_15.out Y_15.out.size (It.few a b 15) V'.out).mono ?_
  rintro e w15 ⟨v15, rfl, hR, hX⟩
  have V : Hid (RowS B.heap.size (It.foldN ((It.pairs a b).take 16)) w15 v15) := Lib.hid hR
  have X_16 := Lib.hid hX
  clear hR hX V' Y_15
  -- Rubric
  have ka : (_ : World).cell? ⟨w.heap.size, 16, none⟩ = some (.int .i64 a.rub) := X_16.out.keep (CA.out 16 _ rfl)
  have kb : (_ : World).cell? ⟨w.heap.size + 1, 16, none⟩ = some (.int .i64 b.rub) := X_16.out.keep (CB.out 16 _ rfl)
  go_wp2_with fail
  with_reducible refine (add_to B B.heap.size (Nat.le_refl _) _ (xs := It.foldN ((It.pairs a b).take 16)) _ _ (It.addL_at (a := a) (b := b) (k := 16) rfl) _ X_16.out X_16.out.size (It.few a b 16) V.out).mono ?_
  rintro e w16 ⟨v16, rfl, hR, hX⟩
  clear ka kb V X_16
  have V : Hid (RowS B.heap.size (It.foldN ((It.pairs a b).take 17)) w16 v16) := Lib.hid hR
  have X_17 := Lib.hid hX
  clear hR hX
  obtain ⟨A, c, hsl, hl1, hl2, hSl⟩ := V.out.sl
  subst hsl
  have HS := Lib.hid hSl
  have HL := Lib.hid hl1
  have HM := Lib.hid hl2
  clear hSl hl1 hl2 V
  go_wp2
  go_ret
  have HE17 : Hid (It.foldN ((It.pairs a b).take 17) = It.diff a b) := Lib.hid rfl
  rw [HE17.out] at HS HL ⊢
  exact ⟨⟨A, c, rfl, HS.out, HL.out, HM.out⟩, X0.out.trans X_17.out⟩
end Go.Proofs.YtdaccamiipknmaaGreatDoor
