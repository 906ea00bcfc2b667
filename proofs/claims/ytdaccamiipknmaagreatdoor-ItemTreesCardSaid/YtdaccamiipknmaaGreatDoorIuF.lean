/- item.Encode of any item: a contract; plain laws of an item's tree. Conditions: those of each theorem. -/
import Derived.Test.YtdaccamiipknmaaGreatDoorIuE
namespace Go.Proofs.YtdaccamiipknmaaGreatDoor
open Go.RowKit Go.Shelf

theorem emptyB : ({ data := #[] } : ByteArray) = ByteArray.empty := rfl
theorem itemOf_flds (it : It.Item) : itemOf (flds it) = it := by
  have hs : ∀ l : List ByteArray, (l.map leafS).map Nd.s = l := fun l => by rw [List.map_map]; exact List.map_id' l
  have hi : ∀ l : List Int, (l.map leafI).map Nd.n = l := fun l => by rw [List.map_map]; exact List.map_id' l
  show (⟨it.id, it.ver, it.kind, it.stem, (it.opts.map leafS).map Nd.s, (it.chs.map leafI).map Nd.n, it.value, it.tol, (it.texts.map leafS).map Nd.s, it.pts, it.cont, it.fam, it.set_, it.wrd, it.sec, (it.assets.map leafI).map Nd.n, it.rub⟩ : It.Item) = it
  rw [hs, hs, hi, hi]
theorem isLst_I (tag : Int) (l : List Int) : isLst (.mk tag 3 0 ⟨#[]⟩ (l.map leafI)) tag 1 = true := by
  unfold isLst
  rw [Bool.and_eq_true, List.all_eq_true]
  refine ⟨fun k hk => ?_, by simp [isNd, Nd.tag, Nd.kind, Nd.n, Nd.s, emptyB]⟩
  obtain ⟨x, _, rfl⟩ := List.mem_map.1 (show k ∈ l.map leafI from hk)
  simp [isNd, leafI, Nd.tag, Nd.kind, Nd.n, Nd.s, Nd.kids, emptyB]
theorem isLst_S (tag : Int) (l : List ByteArray) : isLst (.mk tag 3 0 ⟨#[]⟩ (l.map leafS)) tag 2 = true := by
  unfold isLst
  rw [Bool.and_eq_true, List.all_eq_true]
  refine ⟨fun k hk => ?_, by simp [isNd, Nd.tag, Nd.kind, Nd.n, Nd.s, emptyB]⟩
  obtain ⟨x, _, rfl⟩ := List.mem_map.1 (show k ∈ l.map leafS from hk)
  simp [isNd, leafS, Nd.tag, Nd.kind, Nd.n, Nd.s, Nd.kids]
theorem isTr_tree (it : It.Item) : isTr (tree it) = true := by
  unfold isTr
  rw [Bool.and_eq_true, Bool.and_eq_true, It.allN_iff]
  refine ⟨by simp [isNd, tree, Nd.tag, Nd.kind, Nd.n, Nd.s, emptyB], rfl, fun i hi => ?_⟩
  match i, hi with
  | 0, _ => simp [fldOk, tree, flds, isNd, Nd.tag, Nd.kind, Nd.n, Nd.s, Nd.kids, emptyB]
  | 1, _ => simp [fldOk, tree, flds, isNd, Nd.tag, Nd.kind, Nd.n, Nd.s, Nd.kids, emptyB]
  | 2, _ => simp [fldOk, tree, flds, isNd, Nd.tag, Nd.kind, Nd.n, Nd.s, Nd.kids, emptyB]
  | 3, _ => simp [fldOk, tree, flds, isNd, Nd.tag, Nd.kind, Nd.n, Nd.s, Nd.kids, emptyB]
  | 4, _ => exact isLst_S 5 _
  | 5, _ => exact isLst_I 6 _
  | 6, _ => simp [fldOk, tree, flds, isNd, Nd.tag, Nd.kind, Nd.n, Nd.s, Nd.kids, emptyB]
  | 7, _ => simp [fldOk, tree, flds, isNd, Nd.tag, Nd.kind, Nd.n, Nd.s, Nd.kids, emptyB]
  | 8, _ => exact isLst_S 9 _
  | 9, _ => simp [fldOk, tree, flds, isNd, Nd.tag, Nd.kind, Nd.n, Nd.s, Nd.kids, emptyB]
  | 10, _ => simp [fldOk, tree, flds, isNd, Nd.tag, Nd.kind, Nd.n, Nd.s, Nd.kids, emptyB]
  | 11, _ => simp [fldOk, tree, flds, isNd, Nd.tag, Nd.kind, Nd.n, Nd.s, Nd.kids, emptyB]
  | 12, _ => simp [fldOk, tree, flds, isNd, Nd.tag, Nd.kind, Nd.n, Nd.s, Nd.kids, emptyB]
  | 13, _ => simp [fldOk, tree, flds, isNd, Nd.tag, Nd.kind, Nd.n, Nd.s, Nd.kids, emptyB]
  | 14, _ => simp [fldOk, tree, flds, isNd, Nd.tag, Nd.kind, Nd.n, Nd.s, Nd.kids, emptyB]
  | 15, _ => exact isLst_I 16 _
  | 16, _ => simp [fldOk, tree, flds, isNd, Nd.tag, Nd.kind, Nd.n, Nd.s, Nd.kids, emptyB]
  | i + 17, hi => exact absurd hi (by omega)
theorem flds_cases {it : It.Item} {p : Nd → Prop} (hI : ∀ (t n : Int), In64 n → p (.mk t 1 n ⟨#[]⟩ [])) (hS : ∀ (t : Int) (s : ByteArray), s.size ≤ 140737488351232 → p (.mk t 2 0 s [])) (hLS : ∀ (t : Int) (l : List ByteArray), (∀ s ∈ l, s.size ≤ 140737488351232) → l.length ≤ 140737488351232 → p (.mk t 3 0 ⟨#[]⟩ (l.map leafS))) (hLI : ∀ (t : Int) (l : List Int), (∀ s ∈ l, In64 s) → l.length ≤ 140737488351232 → p (.mk t 3 0 ⟨#[]⟩ (l.map leafI))) (h : It.Ok it) : ∀ k ∈ flds it, p k := by
  intro k hk
  simp only [flds, List.mem_cons, List.not_mem_nil, or_false] at hk
  rcases hk with rfl | rfl | rfl | rfl | rfl | rfl | rfl | rfl | rfl | rfl | rfl | rfl | rfl | rfl | rfl | rfl | rfl

  · exact hI _ _ h.id
  · exact hI _ _ h.ver
  · exact hI _ _ h.kind
  · exact hS _ _ h.stem
  · exact hLS _ _ h.opts h.ol
  · exact hLI _ _ h.chs h.cl
  · exact hI _ _ h.value
  · exact hI _ _ h.tol
  · exact hLS _ _ h.texts h.tl
  · exact hI _ _ h.pts
  · exact hS _ _ h.cont
  · exact hI _ _ h.fam
  · exact hI _ _ h.set_
  · exact hI _ _ h.wrd
  · exact hI _ _ h.sec
  · exact hLI _ _ h.assets h.sl
  · exact hI _ _ h.rub
theorem in64_zero : In64 0 := by unfold In64; omega
theorem szOk_tree {it : It.Item} (h : It.Ok it) : SzOk 2 (tree it) := by
  refine ⟨⟨by simp [tree, Nd.s, emptyB], by simp [tree, flds, Nd.kids]⟩, flds_cases ?_ ?_ ?_ ?_ h⟩
  · exact fun t n _ => ⟨⟨by simp [Nd.s, emptyB], by simp [Nd.kids]⟩, fun k hk => by cases hk⟩
  · exact fun t s hs => ⟨⟨hs, by simp [Nd.kids]⟩, fun k hk => by cases hk⟩
  · refine fun t l hl hn => ⟨⟨by simp [Nd.s, emptyB], by simpa [Nd.kids] using hn⟩, fun k hk => ?_⟩
    obtain ⟨s, hs, rfl⟩ := List.mem_map.1 (show k ∈ l.map leafS from hk)
    exact ⟨hl s hs, by simp [leafS, Nd.kids]⟩
  · refine fun t l hl hn => ⟨⟨by simp [Nd.s, emptyB], by simpa [Nd.kids] using hn⟩, fun k hk => ?_⟩
    obtain ⟨s, hs, rfl⟩ := List.mem_map.1 (show k ∈ l.map leafI from hk)
    exact ⟨by simp [leafI, Nd.s, emptyB], by simp [leafI, Nd.kids]⟩
theorem n64_tree {it : It.Item} (h : It.Ok it) : N64 2 (tree it) := by
  refine ⟨in64_zero, flds_cases ?_ ?_ ?_ ?_ h⟩
  · exact fun t n hn => ⟨hn, fun k hk => by cases hk⟩
  · exact fun t s hs => ⟨in64_zero, fun k hk => by cases hk⟩
  · refine fun t l hl hn => ⟨in64_zero, fun k hk => ?_⟩
    obtain ⟨s, hs, rfl⟩ := List.mem_map.1 (show k ∈ l.map leafS from hk)
    exact in64_zero
  · refine fun t l hl hn => ⟨in64_zero, fun k hk => ?_⟩
    obtain ⟨s, hs, rfl⟩ := List.mem_map.1 (show k ∈ l.map leafI from hk)
    exact hl s hs
theorem few_tree {it : It.Item} (h : It.vld it = 0) : ∀ y ∈ (tree it).kids, y.kids.length ≤ 2199023255552 := by
  obtain ⟨h1, h2, h3, h4⟩ := It.vld_small h
  intro y hy
  simp only [tree, Nd.kids, flds, List.mem_cons, List.not_mem_nil, or_false] at hy
  rcases hy with rfl | rfl | rfl | rfl | rfl | rfl | rfl | rfl | rfl | rfl | rfl | rfl | rfl | rfl | rfl | rfl | rfl
  all_goals
    simp only [Nd.kids, List.length_map, List.length_nil]
    omega
/-- What Encode returns. -/
def EncPost (it : It.Item) (er : Int) (lo : Nat) (e : Ending) (w' : World) : Prop :=
  (er = 0 → ∃ M : Option Addr × Nat, e = .returned (.tuple #[nda (tree it) M, .int .i64 0]) ∧ KidsAt 1000 lo 2 w' M (flds it)) ∧ (er ≠ 0 → e = .returned (.tuple #[.agg #[.int .i64 0, .int .i64 0, .int .i64 0, .string ⟨#[]⟩, .slice none 0 0], .int .i64 er]))
set_option maxRecDepth 100000 in
set_option maxHeartbeats 6400000 in
theorem encode_bad (it : It.Item) (L : It.Loc) (w : World) (h : It.In w it L) (hg : ∀ w', Ext w w' → Gm w') (hv : It.vld it ≠ 0) :
    Calls Tryz.prog 14 #[It.agg it L] w fun e w' => e = .returned (.tuple #[.agg #[.int .i64 0, .int .i64 0, .int .i64 0, .string ⟨#[]⟩, .slice none 0 0], .int .i64 (It.vld it)]) ∧ Ext w w' := by
  obtain ⟨CA, hca, hna, -, -⟩ := It.packed it L
  have HV := Lib.hid (valid_any it L)
  rw [hca] at HV ⊢
  have IA := Lib.hid (infoItem hna)
  have H := Lib.hid h
  have HG := Lib.hid hg
  obtain ⟨er, her⟩ : ∃ er, It.vld it = er := ⟨_, rfl⟩
  rw [her] at HV hv ⊢
  have t0 : (er != 0) = true := by rw [bne_iff_ne]; exact hv
  clear hca hna h hg her hv
  go_enter Tryz.func14, Tryz.ntmps14
  go_wp2_with (refine wpList_load_row rfl _ _ rfl w.heap.size rfl _ CA _ _ (heap_two_fst _ _ _) Tryz.underlying25 rfl IA.out ?_)
  have X0 := ((Ext.refl w).alloc (.cells CA 25)).alloc (.cells #[.int .i64 0, .int .i64 0, .int .i64 0, .string ⟨#[]⟩, .slice none 0 0] 34)
  with_reducible refine (HV.out _ (H.out.ext X0) (HG.out _ X0)).mono ?_
  rintro e w1 ⟨rfl, hb1⟩
  have HB1 := Lib.hid (hb1.blockAt (heap_two_snd w (.cells CA 25) (.cells #[.int .i64 0, .int .i64 0, .int .i64 0, .string ⟨#[]⟩, .slice none 0 0] 34)))
  have X1 := Lib.hid (X0.trans hb1)
  clear hb1 X0
  go_wp2_with (refine wpList_store_row rfl _ _ _ rfl (w.heap.size + 1) #[.int .i64 0, .int .i64 0, .int .i64 0, .string ⟨#[]⟩, .slice none 0 0] rfl rfl _ _ HB1.out (by kernel_rfl) rfl (by simp [Value.oneCell']) ?_)
  have HRS := setRow_at (cs' := #[.int .i64 0, .int .i64 0, .int .i64 0, .string ⟨#[]⟩, .slice none 0 0]) HB1.out
  refine bodyPost_ret (v := .tuple #[.agg #[.int .i64 0, .int .i64 0, .int .i64 0, .string ⟨#[]⟩, .slice none 0 0], .int .i64 er]) (results_cell_tmp Tryz.results14 _ _ (w.heap.size + 1) _ _ _ _ rfl HRS Tryz.underlying34 rfl (by kernel_rfl) rfl) rfl ?_
  exact ⟨rfl, X1.out.setRow (Nat.le_succ _) _⟩
/-- Encode of any item. -/
theorem encode_any (it : It.Item) (L : It.Loc) (w : World) (h : It.In w it L) (hg : ∀ w', Ext w w' → Gm w') :
    Calls Tryz.prog 14 #[It.agg it L] w fun e w' => EncPost it (It.vld it) w.heap.size e w' ∧ Ext w w' := by
  by_cases hv : It.vld it = 0
  · obtain ⟨h1, h2, h3, h4⟩ := It.vld_small hv
    refine (encode_ok it L w h (fun w' he hI => ?_) (by omega) (by omega) (by omega) (by omega)).mono ?_
    · have := valid_any it L w' hI (hg w' he)
      rwa [hv] at this
    · rintro e w' ⟨he, hb⟩
      exact ⟨⟨fun _ => he, fun hn => absurd hv hn⟩, hb⟩
  · refine (encode_bad it L w h hg hv).mono ?_
    rintro e w' ⟨rfl, hb⟩
    exact ⟨⟨fun h0 => absurd h0 hv, fun _ => rfl⟩, hb⟩
end Go.Proofs.YtdaccamiipknmaaGreatDoor
