/- ItemTrees: for all items and nodes the law returns true. Conditions: the library's variable and the package's names lie as the row says. -/
import Derived.Test.YtdaccamiipknmaaGreatDoorIvY
import Derived.Test.YtdaccamiipknmaaGreatDoorIvEF
import Derived.Test.YtdaccamiipknmaaGreatDoorIwO
import Derived.Test.YtdaccamiipknmaaGreatDoorIuVersions
namespace Go.Proofs.YtdaccamiipknmaaGreatDoor
open Go.ChangeShapes Go.WideShapes Go.ChangeAt Go.RowKit Go.Shelf

namespace It
def zero : Item := ⟨0, 0, 0, ⟨#[]⟩, [], [], 0, 0, [], 0, ⟨#[]⟩, 0, 0, 0, 0, [], 0⟩
def zeroL : Loc := ⟨none, 0, none, 0, none, 0, none, 0⟩
/-- The tree that Encode returns. -/
def yOf (it : Item) : Nd := if vld it = 0 then tree it else .mk 0 0 0 ⟨#[]⟩ []
theorem zero_in (w : World) : In w zero zeroL := by
  have z : In64 0 := by unfold In64; omega
  refine ⟨⟨z, z, z, z, z, z, z, z, z, z, z, by simp [zero, emptyB], by simp [zero, emptyB], fun s h => (by cases h), fun s h => (by cases h), fun s h => (by cases h), fun s h => (by cases h), ?_, ?_, ?_, ?_⟩, Or.inl rfl, Or.inl rfl, Or.inl rfl, Or.inl rfl, ⟨Nat.zero_le _, Nat.zero_le _⟩, ⟨Nat.zero_le _, Nat.zero_le _⟩, ⟨Nat.zero_le _, Nat.zero_le _⟩, ⟨Nat.zero_le _, Nat.zero_le _⟩⟩ <;> exact Nat.zero_le _
theorem same_self (z : Item) : sameI z z = true := by
  unfold sameI
  rw [decide_eq_true_iff]
  unfold diff
  have h : ∀ x ∈ pairs z z, x.1 = false := by
    intro x hx
    simp [pairs, eqB, eqI, eqS] at hx
    rcases hx with h | h | h | h | h | h | h | h | h | h | h | h | h | h | h | h | h <;> rw [h]
  have : ∀ l : List (Bool × ByteArray), (∀ x ∈ l, x.1 = false) → foldN l = [] := by
    intro l
    induction l with
    | nil => intro _; rfl
    | cons x l ih =>
      intro hl
      have h1 := hl x (List.mem_cons_self ..)
      have h2 := ih (fun y hy => hl y (List.mem_cons_of_mem _ hy))
      simp [foldN, h1] at h2 ⊢
      exact h2
  exact this _ h
end It
/-- The item that Decode returns. -/
def zOf (x : Nd) : It.Item := if decErr x = 0 then itemOf x.kids else It.zero
def EncU (it : It.Item) (e : Ending) (w' : World) : Prop := ∃ M : Option Addr × Nat, e = .returned (.tuple #[nda (It.yOf it) M, .int .i64 (It.vld it)]) ∧ KidsAt 1000 0 2 w' M (It.yOf it).kids
theorem encU_of {it : It.Item} {lo : Nat} {e : Ending} {w' : World} (h : EncPost it (It.vld it) lo e w') : EncU it e w' := by
  by_cases hv : It.vld it = 0
  · obtain ⟨M, he, hk⟩ := h.1 hv
    refine ⟨M, ?_, ?_⟩
    · unfold It.yOf; rw [if_pos hv, hv]; exact he
    · unfold It.yOf; rw [if_pos hv]; exact hk.lower (Nat.zero_le _)
  · refine ⟨(none, 0), ?_, ?_⟩
    · unfold It.yOf; rw [if_neg hv]; exact h.2 hv
    · unfold It.yOf; rw [if_neg hv]; exact KidsAt.nil _ _ _ _ _
def DecU (x : Nd) (e : Ending) (w' : World) : Prop := ∃ L, e = .returned (.tuple #[It.agg (zOf x) L, .int .i64 (decErr x)]) ∧ It.In w' (zOf x) L
theorem decU_of {x : Nd} {e : Ending} {w' : World} (hz : SzOk 2 x) (hn : N64 2 x) (h : DecPost (itemOf x.kids) (decErr x) e w') : DecU x e w' := by
  by_cases hv : decErr x = 0
  · obtain ⟨L, he, hI⟩ := h.1 hv
    have hT : isTr x = true := by
      unfold decErr at hv
      by_cases ht : isTr x = true
      · exact ht
      · rw [if_neg ht] at hv; cases hv
    refine ⟨L, ?_, ?_⟩
    · unfold zOf; rw [if_pos hv, hv]; exact he
    · unfold zOf; rw [if_pos hv]; exact hI.in_ (itemOf_ok hz hn (isTr_len hT))
  · refine ⟨It.zeroL, ?_, ?_⟩
    · unfold zOf; rw [if_neg hv]; exact h.2 hv
    · unfold zOf; rw [if_neg hv]; exact It.zero_in _
set_option maxRecDepth 100000 in
set_option maxHeartbeats 12800000 in
theorem itemTrees_walk (it : It.Item) (L : It.Loc) (x : Nd) (N : Option Addr × Nat) (D : Nat) (w : World) (h : It.In w it L) (hk : KidsAt 2199023255552 0 D w N x.kids) (hgd : GoodN x) (hg : Gm w) (hf : Fld w) :
    Calls Tryz.prog 4 #[It.agg it L, nda x N] w fun e w' => e = .returned (.bool true) ∧ Ext w w' := by
  obtain ⟨CA, hca, hna, -, -⟩ := It.packed it L
  obtain ⟨CN, hcn, hnn, -⟩ := nd_packed x N
  have hk2 : KidsAt 2199023255552 0 (D + 2) w N x.kids := hk.deeper.deeper
  have E1 : Hid (∀ w, It.In w it L → (∀ w', Ext w w' → Gm w') → Calls Tryz.prog 14 #[It.agg it L] w fun e w' => EncU it e w' ∧ Ext w w') := Lib.hid (fun w h hg => (encode_any it L w h hg).mono fun e w' ⟨a, b⟩ => ⟨encU_of a, b⟩)
  have E2 : Hid (∀ w, It.In w it L → Calls Tryz.prog 15 #[It.agg it L] w fun e w' => EncU it e w' ∧ Ext w w') := Lib.hid (fun w h => (rencode_any it L w h).mono fun e w' ⟨a, b⟩ => ⟨encU_of a, b⟩)
  have D1 : Hid (∀ w, KidsAt 2199023255552 0 (D + 2) w N x.kids → Gm w → Calls Tryz.prog 17 #[nda x N] w fun e w' => DecU x e w' ∧ Ext w w') := Lib.hid (fun w h hg => (decode_any 2199023255552 D x N w h (hgd.sz 2) (hgd.n64 2) (KidsAt.kids_few h) hg).mono fun e w' ⟨a, b⟩ => ⟨decU_of (hgd.sz 2) (hgd.n64 2) a, b⟩)
  have D2 : Hid (∀ w, KidsAt 2199023255552 0 (D + 2) w N x.kids → Calls Tryz.prog 18 #[nda x N] w fun e w' => DecU x e w' ∧ Ext w w') := Lib.hid (fun w h => (rdecode_any 2199023255552 D x N w h (hgd.sz 2) (hgd.n64 2) (KidsAt.kids_few h)).mono fun e w' ⟨a, b⟩ => ⟨decU_of (hgd.sz 2) (hgd.n64 2) a, b⟩)
  have G1 := Lib.hid (digest_any it L)
  have G2 := Lib.hid (rdigest_any it L)
  unfold EncU at E1 E2
  unfold DecU at D1 D2
  obtain ⟨y, hy⟩ : ∃ y, It.yOf it = y := ⟨_, rfl⟩
  obtain ⟨z, hz⟩ : ∃ z, zOf x = z := ⟨_, rfl⟩
  obtain ⟨er, her⟩ : ∃ er, It.vld it = er := ⟨_, rfl⟩
  obtain ⟨e2, he2⟩ : ∃ er, decErr x = er := ⟨_, rfl⟩
  rw [hy] at E1 E2
  rw [hz, he2] at D1 D2
  rw [her] at E1 E2 G1 G2
  obtain ⟨dg, hdg⟩ : ∃ d, (if er = 0 then It.dg it else 0) = d := ⟨_, rfl⟩
  rw [hdg] at G1 G2
  rw [hca] at E1 E2 G1 G2 ⊢
  rw [hcn] at D1 D2 ⊢
  have t1 : (er != er) = false := by simp
  have t2 : (e2 != e2) = false := by simp
  have IA := Lib.hid (infoItem hna)
  have IN := Lib.hid (infoNode hnn)
  have HG : Hid (∀ w', Ext w w' → Gm w') := Lib.hid (fun w' he => hg.ext he)
  have HF : Hid (∀ w', Ext w w' → Fld w') := Lib.hid (fun w' he => hf.ext he)
  have X0 := Lib.hid (((Ext.refl w).alloc (.cells CA 25)).alloc (.cells CN 34))
  have BA0 := Lib.hid (heap_two_fst w (.cells CA 25) (.cells CN 34))
  have BN0 := Lib.hid (heap_two_snd w (.cells CA 25) (.cells CN 34))
  have H := Lib.hid h
  have HK := Lib.hid hk2
  clear hca hna hcn hnn h hk hk2 hgd hg hf hy hz her he2 hdg
  go_enter Tryz.func4, Tryz.ntmps4
  go_wp2_with (first
    | (refine wpList_load_row_w rfl _ _ rfl w.heap.size rfl _ CA _ _ BA0.out Tryz.underlying25 rfl IA.out ?_))
  with_reducible refine (E1.out _ (H.out.ext X0.out) (fun w' he => HG.out _ (X0.out.trans he))).mono ?_
  rintro e w1 ⟨⟨M1, rfl, hK1⟩, hb1⟩
  obtain ⟨C1, hc1, hn1, ho1⟩ := nd_packed y M1
  rw [hc1]
  obtain ⟨W1, hW1⟩ : ∃ W, ((w1.alloc (.cells #[.int .i64 0, .int .i64 0, .int .i64 0, .string ⟨#[]⟩, .slice none 0 0] 34)).setRow w1.heap.size C1) = W := ⟨_, rfl⟩
  have E1' : Ext w1 W1 := by rw [← hW1]; exact ((Ext.refl _).alloc _).setRow (Nat.le_refl _) _
  have EE1 := hb1.trans E1'
  have BA1 := Lib.hid (EE1.blockAt BA0.out)
  have BN1 := Lib.hid (EE1.blockAt BN0.out)
  clear BA0 BN0
  have Q1_1 : Hid (W1.heap[w1.heap.size]? = some (.cells C1 34 (0, 0))) := Lib.hid (by rw [← hW1]; exact setRow_at (heap_alloc_new _ _))
  have KK1_1 := Lib.hid (hK1.ext E1')
  have X1 := Lib.hid (X0.out.trans EE1)
  have F1 := Lib.hid (infoNode hn1)
  have S1 := Lib.hid hn1
  have O1 := Lib.hid ho1
  have HW1 := Lib.hid hW1
  have HC1 := Lib.hid hc1
  clear hb1 hK1 hc1 hn1 ho1 hW1 E1' EE1
  go_wp2_with (first
    | (refine wpList_store_row rfl _ _ _ rfl w1.heap.size C1 rfl rfl _ #[.int .i64 0, .int .i64 0, .int .i64 0, .string ⟨#[]⟩, .slice none 0 0] (heap_alloc_new _ _) F1.out S1.out.symm O1.out ?_; rw [HW1.out])
    | (refine wpList_load_row_w rfl _ _ rfl w.heap.size rfl _ CA _ _ BA1.out Tryz.underlying25 rfl IA.out ?_))
  with_reducible refine (E2.out _ (H.out.ext X1.out)).mono ?_
  rintro e w2 ⟨⟨M2, rfl, hK2⟩, hb2⟩
  obtain ⟨C2, hc2, hn2, ho2⟩ := nd_packed y M2
  rw [hc2]
  obtain ⟨W2, hW2⟩ : ∃ W, ((w2.alloc (.cells #[.int .i64 0, .int .i64 0, .int .i64 0, .string ⟨#[]⟩, .slice none 0 0] 34)).setRow w2.heap.size C2) = W := ⟨_, rfl⟩
  have E2' : Ext w2 W2 := by rw [← hW2]; exact ((Ext.refl _).alloc _).setRow (Nat.le_refl _) _
  have EE2 := hb2.trans E2'
  have BA2 := Lib.hid (EE2.blockAt BA1.out)
  have BN2 := Lib.hid (EE2.blockAt BN1.out)
  have Q1_2 := Lib.hid (EE2.blockAt Q1_1.out)
  have KK1_2 := Lib.hid (KK1_1.out.ext EE2)
  clear BA1 BN1 Q1_1 KK1_1
  have Q2_2 : Hid (W2.heap[w2.heap.size]? = some (.cells C2 34 (0, 0))) := Lib.hid (by rw [← hW2]; exact setRow_at (heap_alloc_new _ _))
  have KK2_2 := Lib.hid (hK2.ext E2')
  have X2 := Lib.hid (X1.out.trans EE2)
  have F2 := Lib.hid (infoNode hn2)
  have S2 := Lib.hid hn2
  have O2 := Lib.hid ho2
  have HW2 := Lib.hid hW2
  have HC2 := Lib.hid hc2
  clear hb2 hK2 hc2 hn2 ho2 hW2 E2' EE2
  have EQ : Hid (Calls Tryz.prog 16 #[nda y M1, nda y M2] W2 fun e w' => e = .returned (.bool true) ∧ Ext W2 w') := Lib.hid (requal_self 1000 (by decide) 2 y M1 M2 W2 KK1_2.out KK2_2.out)
  rw [HC1.out, HC2.out] at EQ
  clear HW1
  go_wp2_with (first
    | (refine wpList_store_row rfl _ _ _ rfl w2.heap.size C2 rfl rfl _ #[.int .i64 0, .int .i64 0, .int .i64 0, .string ⟨#[]⟩, .slice none 0 0] (heap_alloc_new _ _) F2.out S2.out.symm O2.out ?_; rw [HW2.out])
    | (refine wpList_load_row_w rfl _ _ rfl w1.heap.size rfl _ C1 _ _ Q1_2.out Tryz.underlying34 rfl F1.out ?_)
    | (refine wpList_load_row_w rfl _ _ rfl w2.heap.size rfl _ C2 _ _ Q2_2.out Tryz.underlying34 rfl F2.out ?_))
  with_reducible refine EQ.out.mono ?_
  rintro e w3 ⟨rfl, EE3⟩
  clear KK1_2 KK2_2 HW2 HC1 HC2 EQ E1 E2
  clear Q1_2 Q2_2 F1 F2 S1 S2 O1 O2
  have BA3 := Lib.hid (EE3.blockAt BA2.out)
  have BN3 := Lib.hid (EE3.blockAt BN2.out)
  clear BA2 BN2
  have X3 := Lib.hid (X2.out.trans EE3)
  clear EE3
  go_wp2_with (first
    | (refine wpList_load_row_w rfl _ _ rfl (w.heap.size + 1) rfl _ CN _ _ BN3.out Tryz.underlying34 rfl IN.out ?_))
  with_reducible refine (D1.out _ (HK.out.ext X3.out) (HG.out _ X3.out)).mono ?_
  rintro e w4 ⟨⟨L4, rfl, hI4⟩, hb4⟩
  obtain ⟨C4, hc4, hn4, ho4, -⟩ := It.packed z L4
  rw [hc4]
  obtain ⟨W4, hW4⟩ : ∃ W, ((w4.alloc (.cells #[.int .i64 0, .int .i64 0, .int .i64 0, .string ⟨#[]⟩, .slice none 0 0, .slice none 0 0, .int .i64 0, .int .i64 0, .slice none 0 0, .int .i64 0, .string ⟨#[]⟩, .int .i64 0, .int .i64 0, .int .i64 0, .int .i64 0, .slice none 0 0, .int .i64 0] 25)).setRow w4.heap.size C4) = W := ⟨_, rfl⟩
  have E4' : Ext w4 W4 := by rw [← hW4]; exact ((Ext.refl _).alloc _).setRow (Nat.le_refl _) _
  have EE4 := hb4.trans E4'
  have BA4 := Lib.hid (EE4.blockAt BA3.out)
  have BN4 := Lib.hid (EE4.blockAt BN3.out)
  clear BA3 BN3
  have Q4_4 : Hid (W4.heap[w4.heap.size]? = some (.cells C4 25 (0, 0))) := Lib.hid (by rw [← hW4]; exact setRow_at (heap_alloc_new _ _))
  have KK4_4 := Lib.hid (hI4.ext E4')
  have X4 := Lib.hid (X3.out.trans EE4)
  have F4 := Lib.hid (infoItem hn4)
  have S4 := Lib.hid hn4
  have O4 := Lib.hid ho4
  have HW4 := Lib.hid hW4
  have HC4 := Lib.hid hc4
  clear hb4 hI4 hc4 hn4 ho4 hW4 E4' EE4
  go_wp2_with (first
    | (refine wpList_store_row rfl _ _ _ rfl w4.heap.size C4 rfl rfl _ #[.int .i64 0, .int .i64 0, .int .i64 0, .string ⟨#[]⟩, .slice none 0 0, .slice none 0 0, .int .i64 0, .int .i64 0, .slice none 0 0, .int .i64 0, .string ⟨#[]⟩, .int .i64 0, .int .i64 0, .int .i64 0, .int .i64 0, .slice none 0 0, .int .i64 0] (heap_alloc_new _ _) F4.out S4.out.symm O4.out ?_; rw [HW4.out])
    | (refine wpList_load_row_w rfl _ _ rfl (w.heap.size + 1) rfl _ CN _ _ BN4.out Tryz.underlying34 rfl IN.out ?_))
  with_reducible refine (D2.out _ (HK.out.ext X4.out)).mono ?_
  rintro e w5 ⟨⟨L5, rfl, hI5⟩, hb5⟩
  obtain ⟨C5, hc5, hn5, ho5, -⟩ := It.packed z L5
  rw [hc5]
  obtain ⟨W5, hW5⟩ : ∃ W, ((w5.alloc (.cells #[.int .i64 0, .int .i64 0, .int .i64 0, .string ⟨#[]⟩, .slice none 0 0, .slice none 0 0, .int .i64 0, .int .i64 0, .slice none 0 0, .int .i64 0, .string ⟨#[]⟩, .int .i64 0, .int .i64 0, .int .i64 0, .int .i64 0, .slice none 0 0, .int .i64 0] 25)).setRow w5.heap.size C5) = W := ⟨_, rfl⟩
  have E5' : Ext w5 W5 := by rw [← hW5]; exact ((Ext.refl _).alloc _).setRow (Nat.le_refl _) _
  have EE5 := hb5.trans E5'
  have BA5 := Lib.hid (EE5.blockAt BA4.out)
  have BN5 := Lib.hid (EE5.blockAt BN4.out)
  have Q4_5 := Lib.hid (EE5.blockAt Q4_4.out)
  have KK4_5 := Lib.hid (KK4_4.out.ext EE5)
  clear BA4 BN4 Q4_4 KK4_4
  have Q5_5 : Hid (W5.heap[w5.heap.size]? = some (.cells C5 25 (0, 0))) := Lib.hid (by rw [← hW5]; exact setRow_at (heap_alloc_new _ _))
  have KK5_5 := Lib.hid (hI5.ext E5')
  have X5 := Lib.hid (X4.out.trans EE5)
  have F5 := Lib.hid (infoItem hn5)
  have S5 := Lib.hid hn5
  have O5 := Lib.hid ho5
  have HW5 := Lib.hid hW5
  have HC5 := Lib.hid hc5
  clear hb5 hI5 hc5 hn5 ho5 hW5 E5' EE5
  have SQ := Lib.hid (same_to z z L4 L5 (It.same_self z) W5 KK4_5.out KK5_5.out)
  rw [HC4.out, HC5.out] at SQ
  clear HW4
  go_wp2_with (first
    | (refine wpList_store_row rfl _ _ _ rfl w5.heap.size C5 rfl rfl _ #[.int .i64 0, .int .i64 0, .int .i64 0, .string ⟨#[]⟩, .slice none 0 0, .slice none 0 0, .int .i64 0, .int .i64 0, .slice none 0 0, .int .i64 0, .string ⟨#[]⟩, .int .i64 0, .int .i64 0, .int .i64 0, .int .i64 0, .slice none 0 0, .int .i64 0] (heap_alloc_new _ _) F5.out S5.out.symm O5.out ?_; rw [HW5.out])
    | (refine wpList_load_row_w rfl _ _ rfl w4.heap.size rfl _ C4 _ _ Q4_5.out Tryz.underlying25 rfl F4.out ?_)
    | (refine wpList_load_row_w rfl _ _ rfl w5.heap.size rfl _ C5 _ _ Q5_5.out Tryz.underlying25 rfl F5.out ?_))
  with_reducible refine SQ.out.mono ?_
  rintro e w6 ⟨rfl, EE6⟩
  clear KK4_5 KK5_5 HW5 HC4 HC5 SQ D1 D2 Q4_5 Q5_5 F4 F5 S4 S5 O4 O5
  have BA6 := Lib.hid (EE6.blockAt BA5.out)
  have BN6 := Lib.hid (EE6.blockAt BN5.out)
  clear BA5 BN5
  have X6 := Lib.hid (X5.out.trans EE6)
  clear EE6
  go_wp2_with (first
    | (refine wpList_load_row_w rfl _ _ rfl w.heap.size rfl _ CA _ _ BA6.out Tryz.underlying25 rfl IA.out ?_))
  with_reducible refine (G1.out _ (H.out.ext X6.out) (fun w' he => HG.out _ (X6.out.trans he))).mono ?_
  rintro e w7 ⟨rfl, EE7⟩
  have BA7 := Lib.hid (EE7.blockAt BA6.out)
  have BN7 := Lib.hid (EE7.blockAt BN6.out)
  clear BA6 BN6
  have X7 := Lib.hid (X6.out.trans EE7)
  clear EE7
  go_wp2_with (first
    | (refine wpList_load_row_w rfl _ _ rfl w.heap.size rfl _ CA _ _ BA7.out Tryz.underlying25 rfl IA.out ?_))
  with_reducible refine (G2.out _ (H.out.ext X7.out)).mono ?_
  rintro e w8 ⟨rfl, EE8⟩
  have X8 := Lib.hid (X7.out.trans EE8)
  clear EE8
  go_wp2_with fail
  with_reducible refine (awake_any _ (fun w' he => ⟨HG.out _ (X8.out.trans he), HF.out _ (X8.out.trans he)⟩)).mono ?_
  rintro e w9 ⟨rfl, EE9⟩
  have X9 := Lib.hid (X8.out.trans EE9)
  clear EE9
  go_wp2
  go_ret
  exact ⟨rfl, X9.out⟩
theorem itemTrees_laid (os : Os) : laidMet Tryz.prog Rows.itemTreesRow.laid ((laidW os).forCall (fun _ _ => 0) ⟨#[], #[.agg #[.int .i64 0, .int .i64 0, .int .i64 0, .string ⟨#[]⟩, .slice none 0 0, .slice none 0 0, .int .i64 0, .int .i64 0, .slice none 0 0, .int .i64 0, .string ⟨#[]⟩, .int .i64 0, .int .i64 0, .int .i64 0, .int .i64 0, .slice none 0 0, .int .i64 0], .agg #[.int .i64 0, .int .i64 0, .int .i64 0, .string ⟨#[]⟩, .slice none 0 0]], []⟩).memory :=
  laidMet_of_run' 8 (by kernel_rfl) (by kernel_rfl)
theorem itemTrees_reads (os : Os) {H : Type} (enc : TypeId × Value → H) : ∃ places, DataW.whole enc Tryz.prog ((laidW os).forCall (fun _ _ => 0) ⟨#[], #[.agg #[.int .i64 0, .int .i64 0, .int .i64 0, .string ⟨#[]⟩, .slice none 0 0, .slice none 0 0, .int .i64 0, .int .i64 0, .slice none 0 0, .int .i64 0, .string ⟨#[]⟩, .int .i64 0, .int .i64 0, .int .i64 0, .int .i64 0, .slice none 0 0, .int .i64 0], .agg #[.int .i64 0, .int .i64 0, .int .i64 0, .string ⟨#[]⟩, .slice none 0 0]], []⟩).memory Tryz.f4.params.toList Rows.itemTreesSpec.vars false (#[.agg #[.int .i64 0, .int .i64 0, .int .i64 0, .string ⟨#[]⟩, .slice none 0 0, .slice none 0 0, .int .i64 0, .int .i64 0, .slice none 0 0, .int .i64 0, .string ⟨#[]⟩, .int .i64 0, .int .i64 0, .int .i64 0, .int .i64 0, .slice none 0 0, .int .i64 0], .agg #[.int .i64 0, .int .i64 0, .int .i64 0, .string ⟨#[]⟩, .slice none 0 0]] : Array Value).toList 8 = some ([.agg [.lit (.int .i64 0), .lit (.int .i64 0), .lit (.int .i64 0), .lit (.string []), .nil, .nil, .lit (.int .i64 0), .lit (.int .i64 0), .nil, .lit (.int .i64 0), .lit (.string []), .lit (.int .i64 0), .lit (.int .i64 0), .lit (.int .i64 0), .lit (.int .i64 0), .nil, .lit (.int .i64 0)], .agg [.lit (.int .i64 0), .lit (.int .i64 0), .lit (.int .i64 0), .lit (.string []), .nil]], [], places) :=
  ⟨[], by kernel_rfl⟩
set_option maxRecDepth 100000 in
theorem itemTrees_lifted (os : Os) (started : os.Started) (H : Type) (enc : TypeId × Value → H) (F : Stop.Interp) :
    ReturnsInHanded {} Tryz.checked os 4 .any ((OpenSpec.ofChange Rows.itemTreesSpec).preRow enc Tryz.prog Tryz.f4 Rows.itemTreesRow.domain false Rows.itemTreesRow.laid) (((OpenSpec.ofChange Rows.itemTreesSpec).at F).post enc Tryz.prog Tryz.f4 false true false false) := by
  obtain ⟨places, hx⟩ := itemTrees_reads os enc
  refine returnsInHanded_of_row (C := Tryz.checked) (s := (OpenSpec.ofChange Rows.itemTreesSpec)) Tryz.own started (by kernel_rfl) Tryz.func4
    (witness_row_at (enc := enc) (C := Tryz.checked) false (laidW os) #[.agg #[.int .i64 0, .int .i64 0, .int .i64 0, .string ⟨#[]⟩, .slice none 0 0, .slice none 0 0, .int .i64 0, .int .i64 0, .slice none 0 0, .int .i64 0, .string ⟨#[]⟩, .int .i64 0, .int .i64 0, .int .i64 0, .int .i64 0, .slice none 0 0, .int .i64 0], .agg #[.int .i64 0, .int .i64 0, .int .i64 0, .string ⟨#[]⟩, .slice none 0 0]] rfl (by kernel_rfl) (by kernel_rfl) (by kernel_rfl)
      (OpenSpec.preRow_of_cond 8 hx (by kernel_rfl) (fun k hk => by cases hk) (by kernel_rfl) (itemTrees_laid os))) ?_
  intro W base args ds gs before hval0 hW _ hcond hsz0 hL hsh _
  have hval : ∀ (j : Nat) t v, Tryz.f4.params[j]? = some t → args[j]? = some v → Value.okWide Tryz.prog W .any base t v := hval0
  have hW' : DataW.Whole enc Tryz.prog Tryz.f4.params.toList Rows.itemTreesSpec.vars false W args.toList ds gs before := hW
  have hW2 := hW'
  obtain ⟨p, q, hA0, hV, rfl, hfz, hnd⟩ := hW2
  have hA : DataW.TrodAll enc Tryz.prog W 0 (fun _ => true) true Tryz.f4.params.toList args.toList ds p := hA0
  rw [Tryz.params4] at hA hval
  obtain ⟨v0, vs0, d0, ds0, p0, q0, hargs, rfl, rfl, h0, r0⟩ := trodAll_cons hA
  obtain ⟨v1, vs1, d1, ds1, p1, q1, rfl, rfl, rfl, h1, r1⟩ := trodAll_cons r0
  obtain ⟨rfl, rfl, rfl⟩ := trodAll_nil r1
  obtain rfl : args = #[v0, v1] := by cases args; simp_all
  obtain ⟨rfl, rfl⟩ := trodVars_none hV
  obtain ⟨mx, hmx⟩ := Go.Proofs.cell_of_shapedOpen_int (g := 1) (zero := #[.int .i64 0]) (t := 3) hsh (by decide +kernel) (by kernel_rfl) (by decide) (by kernel_rfl) (by kernel_rfl) Tryz.underlying3
  have hsz : (DataW.weightsEach Tryz.prog (Tryz.f4.params.toList ++ Rows.itemTreesSpec.plain.varTypes Tryz.prog) _).all (· ≤ reachBytes) = true := hsz0
  rw [Tryz.params4] at hsz
  obtain ⟨it, L, rfl, hR1⟩ := item_open (hval 0 25 v0 rfl rfl) h0 (light_arg hsz (j := 0) rfl rfl)
  obtain ⟨x, N, D, rfl, hR2, hR3⟩ := node_open (hval 1 34 v1 rfl rfl) h1 (light_arg hsz (j := 1) rfl rfl)
  refine (itemTrees_walk it L x N D W hR1 hR2 hR3 ⟨mx, hmx⟩ (fld_of hL (by kernel_rfl) (by kernel_rfl))).mono fun e W' ⟨he, hw⟩ => ?_
  subst he
  exact ⟨_, rfl, law_post (s := Rows.itemTreesSpec) hW' Tryz.laidOut (by kernel_rfl) rfl (by rfl) rfl Tryz.underlying4 hw⟩

theorem itemTrees_holds : Rows.ItemTreesSaid :=
  OpenClaim.holds_of_cond 4 Tryz.f4 rfl rfl rfl rfl rfl rfl rfl ⟨rfl, rfl, rfl, rfl, rfl⟩ rfl rfl rfl rfl rfl (by kernel_rfl) Tryz.func4 (by kernel_rfl)
    (of_decide_eq_true (by kernel_rfl)) (by unfold Func.isWrapper; first | (rw [if_pos (by decide +kernel)]; kernel_rfl) | (rw [if_neg (by decide +kernel)]; exact ⟨rfl, rfl⟩))
    (fun os started H enc _ F => by rw [OpenClaim.pre_eq_preRow]; exact itemTrees_lifted os started H enc F)
theorem itemTrees_card : Rows.ItemTreesCardSaid :=
  Claim7.holds_tied_plain_at .later [] _ _ _ _
    itemTrees_holds (fun _ h => by cases h) (by kernel_rfl) (fun _ h => by cases h) itemTrees_row_tie rfl ⟨rfl, rfl⟩ (by kernel_rfl) rfl
    (fun f fn hf hfn => by
      obtain rfl : f = 4 := Option.some.inj ((show Tryz.prog.funcNamed Rows.itemTreesRow.func = some 4 by kernel_rfl).symm.trans hf) |>.symm
      obtain rfl : fn = Tryz.f4 := (Option.some.inj (Tryz.func4.symm.trans hfn)).symm
      exact ⟨by kernel_rfl, fun j t ht => by
        rw [Tryz.params4] at ht
        have hm : t ∈ [25, 34] := by simpa using Array.mem_of_getElem? ht
        have hall : ([25, 34].all fun u => !Tryz.prog.wantsStandIn u) = true := by kernel_rfl
        exact (show Tryz.prog.wantsStandIn t = false by simpa using List.all_eq_true.1 hall t hm)⟩)
    (by kernel_rfl)
#print axioms itemTrees_card

end Go.Proofs.YtdaccamiipknmaaGreatDoor
