/- item.Decode of any node; Succeed of both sides: contracts. Conditions: those of each theorem. item.Encode of any item: a contract; plain laws of an item's tree. Conditions: those of each theorem. The law's sample and same: contracts. Conditions: those of each theorem. -/
import Derived.Test.YtnlenappjjlbjaaGreatDoorP13
import Derived.Test.YtnlenappjjlbjaaGreatDoorP14
import Derived.Test.YtnlenappjjlbjaaGreatDoorP12
namespace Go.Proofs.YtnlenappjjlbjaaGreatDoor
open Go.RowKit Go.Shelf

def N64 : Nat → Nd → Prop
  | 0, x => In64 x.n
  | d + 1, x => In64 x.n ∧ ∀ k ∈ x.kids, N64 d k
theorem N64.top {d : Nat} {x : Nd} (h : N64 d x) : In64 x.n := by
  cases d with
  | zero => exact h
  | succ d => exact h.1
theorem N64.kid {d : Nat} {x k : Nd} (h : N64 (d + 1) x) (hk : k ∈ x.kids) : N64 d k := h.2 k hk
theorem SzOk.kid {d : Nat} {x k : Nd} (h : SzOk (d + 1) x) (hk : k ∈ x.kids) : SzOk d k := h.2 k hk
def decErr (x : Nd) : Int := if isTr x = true then It.vld (itemOf x.kids) else 2
theorem itemOf_ok {x : Nd} (hz : SzOk 2 x) (hn : N64 2 x) (h17 : x.kids.length = 17) : It.Ok (itemOf x.kids) := by
  obtain ⟨t, kd, n, s, ks⟩ := x
  have hz' : ∀ k ∈ ks, SzOk 1 k := fun k hk => hz.kid hk
  have hn' : ∀ k ∈ ks, N64 1 k := fun k hk => hn.kid hk
  have h17' : ks.length = 17 := h17
  match ks, h17' with
  | [y0, y1, y2, y3, y4, y5, y6, y7, y8, y9, y10, y11, y12, y13, y14, y15, y16], _ =>
    simp only [List.mem_cons, List.not_mem_nil, or_false, forall_eq_or_imp, forall_eq] at hz' hn'
    obtain ⟨z0, z1, z2, z3, z4, z5, z6, z7, z8, z9, z10, z11, z12, z13, z14, z15, z16⟩ := hz'
    obtain ⟨n0, n1, n2, n3, n4, n5, n6, n7, n8, n9, n10, n11, n12, n13, n14, n15, n16⟩ := hn'
    refine ⟨n0.top, n1.top, n2.top, n6.top, n7.top, n9.top, n11.top, n12.top, n13.top, n14.top, n16.top, z3.top.1, z10.top.1, fun u hu => ?_, fun u hu => ?_, fun u hu => ?_, fun u hu => ?_, ?_, ?_, ?_, ?_⟩
    · obtain ⟨k, hk, rfl⟩ := List.mem_map.1 hu
      exact (z4.kid hk).top.1
    · obtain ⟨k, hk, rfl⟩ := List.mem_map.1 hu
      exact (z8.kid hk).top.1
    · obtain ⟨k, hk, rfl⟩ := List.mem_map.1 hu
      exact (n5.kid hk).top
    · obtain ⟨k, hk, rfl⟩ := List.mem_map.1 hu
      exact (n15.kid hk).top
    · show (List.map Nd.s y4.kids).length ≤ _
      rw [List.length_map]; exact z4.top.2
    · show (List.map Nd.n y5.kids).length ≤ _
      rw [List.length_map]; exact z5.top.2
    · show (List.map Nd.s y8.kids).length ≤ _
      rw [List.length_map]; exact z8.top.2
    · show (List.map Nd.n y15.kids).length ≤ _
      rw [List.length_map]; exact z15.top.2
set_option maxRecDepth 100000 in
set_option maxHeartbeats 6400000 in
theorem decode_no (B d : Nat) (x : Nd) (M : Option Addr × Nat) (w : World) (hK : KidsAt B 0 (d + 2) w M x.kids) (hz : SzOk 2 x) (hT : isTr x = false) :
    Calls Tryz.prog 79 #[nda x M] w fun e w' => e = .returned (.tuple #[.agg #[.int .i64 0, .int .i64 0, .int .i64 0, .string ⟨#[]⟩, .slice none 0 0, .slice none 0 0, .int .i64 0, .int .i64 0, .slice none 0 0, .int .i64 0, .string ⟨#[]⟩, .int .i64 0, .int .i64 0, .int .i64 0, .int .i64 0, .slice none 0 0, .int .i64 0], .int .i64 2]) ∧ Ext w w' := by
  have HZ := Lib.hid hz
  have HK := Lib.hid hK
  have HT := Lib.hid hT
  clear hz hT hK
  obtain ⟨CN, hcn, hns⟩ : ∃ CN : Array Value, nda x M = .agg CN ∧ CN.size = 5 := ⟨_, rfl, rfl⟩
  have HIS := Lib.hid (fun w h => isTree_v B d x M HT.out w h HZ.out)
  rw [hcn] at HIS ⊢
  have HIN : Hid ((Tryz.prog.info? 52).map (·.size) = some CN.size) := Lib.hid (by rw [hns]; kernel_rfl)
  clear hcn hns
  go_enter Tryz.func79, Tryz.ntmps79
  go_wp2_with (refine wpList_load_row rfl _ _ rfl w.heap.size rfl _ CN _ _ (heap_two_fst _ _ _) Tryz.underlying52 rfl HIN.out ?_)
  have X0 := ((Ext.refl w).alloc (.cells CN 52)).alloc (.cells #[.int .i64 0, .int .i64 0, .int .i64 0, .string ⟨#[]⟩, .slice none 0 0, .slice none 0 0, .int .i64 0, .int .i64 0, .slice none 0 0, .int .i64 0, .string ⟨#[]⟩, .int .i64 0, .int .i64 0, .int .i64 0, .int .i64 0, .slice none 0 0, .int .i64 0] 45)
  with_reducible refine (HIS.out _ (HK.out.ext X0)).mono ?_
  rintro e w1 ⟨rfl, hb1⟩
  have HB1 := Lib.hid (hb1.blockAt (heap_two_snd w (.cells CN 52) (.cells #[.int .i64 0, .int .i64 0, .int .i64 0, .string ⟨#[]⟩, .slice none 0 0, .slice none 0 0, .int .i64 0, .int .i64 0, .slice none 0 0, .int .i64 0, .string ⟨#[]⟩, .int .i64 0, .int .i64 0, .int .i64 0, .int .i64 0, .slice none 0 0, .int .i64 0] 45)))
  have X1 := Lib.hid (X0.trans hb1)
  clear hb1 X0
  go_wp2_with (refine wpList_store_row rfl _ _ _ rfl (w.heap.size + 1) #[.int .i64 0, .int .i64 0, .int .i64 0, .string ⟨#[]⟩, .slice none 0 0, .slice none 0 0, .int .i64 0, .int .i64 0, .slice none 0 0, .int .i64 0, .string ⟨#[]⟩, .int .i64 0, .int .i64 0, .int .i64 0, .int .i64 0, .slice none 0 0, .int .i64 0] rfl rfl _ _ HB1.out (by kernel_rfl) rfl (by simp [Value.oneCell']) ?_)
  have HRS := setRow_at (cs' := #[.int .i64 0, .int .i64 0, .int .i64 0, .string ⟨#[]⟩, .slice none 0 0, .slice none 0 0, .int .i64 0, .int .i64 0, .slice none 0 0, .int .i64 0, .string ⟨#[]⟩, .int .i64 0, .int .i64 0, .int .i64 0, .int .i64 0, .slice none 0 0, .int .i64 0]) HB1.out
  refine bodyPost_ret (v := .tuple #[.agg #[.int .i64 0, .int .i64 0, .int .i64 0, .string ⟨#[]⟩, .slice none 0 0, .slice none 0 0, .int .i64 0, .int .i64 0, .slice none 0 0, .int .i64 0, .string ⟨#[]⟩, .int .i64 0, .int .i64 0, .int .i64 0, .int .i64 0, .slice none 0 0, .int .i64 0], .int .i64 2]) (results_cell_tmp Tryz.results79 _ _ (w.heap.size + 1) _ _ _ _ rfl HRS Tryz.underlying45 rfl (by kernel_rfl) rfl) rfl ?_
  exact ⟨rfl, X1.out.setRow (Nat.le_succ _) _⟩
theorem isTr_len {x : Nd} (h : isTr x = true) : x.kids.length = 17 := by
  unfold isTr at h
  simp only [Bool.and_eq_true, decide_eq_true_eq] at h
  exact h.2.1
theorem decode_any (B d : Nat) (x : Nd) (M : Option Addr × Nat) (w : World) (hK : KidsAt B 0 (d + 2) w M x.kids) (hz : SzOk 2 x) (hn : N64 2 x) (hk : ∀ y ∈ x.kids, y.kids.length ≤ 2199023255552) (hg : Gm w) :
    Calls Tryz.prog 79 #[nda x M] w fun e w' => DecPost (itemOf x.kids) (decErr x) e w' ∧ Ext w w' := by
  cases hT : isTr x with
  | false =>
    refine (decode_no B d x M w hK hz hT).mono ?_
    rintro e w' ⟨rfl, hb⟩
    have e2 : decErr x = 2 := by unfold decErr; rw [hT]; rfl
    rw [e2]
    exact ⟨⟨fun h => absurd h (by decide), fun _ => rfl⟩, hb⟩
  | true =>
    have h17 := isTr_len hT
    have hok := itemOf_ok hz hn h17
    have e2 : decErr x = It.vld (itemOf x.kids) := by unfold decErr; rw [hT]; rfl
    rw [e2]
    obtain ⟨t, kd, n, s, ks⟩ := x
    have h17' : ks.length = 17 := h17
    match ks, h17', hK, hz, hT, hk, hok with
    | [y0, y1, y2, y3, y4, y5, y6, y7, y8, y9, y10, y11, y12, y13, y14, y15, y16], _, hK, hz, hT, hk, hok =>
      exact decode_lit B d t kd n s y0 y1 y2 y3 y4 y5 y6 y7 y8 y9 y10 y11 y12 y13 y14 y15 y16 M w hK hz hT hk _ (fun L w hI hG => valid_any _ L w (hI.in_ hok) hG) hg

namespace It
end It
end Go.Proofs.YtnlenappjjlbjaaGreatDoor
namespace Go.Proofs.YtnlenappjjlbjaaGreatDoor
open Go.RowKit Go.Shelf

theorem emptyB : ({ data := #[] } : ByteArray) = ByteArray.empty := rfl
theorem itemOf_flds (it : It.Item) : itemOf (flds it) = it := by
  have hs : ∀ l : List ByteArray, (l.map leafS).map Nd.s = l := fun l => by rw [List.map_map]; exact List.map_id' l
  have hi : ∀ l : List Int, (l.map leafI).map Nd.n = l := fun l => by rw [List.map_map]; exact List.map_id' l
  show (⟨it.id, it.ver, it.kind, it.stem, (it.opts.map leafS).map Nd.s, (it.chs.map leafI).map Nd.n, it.value, it.tol, (it.texts.map leafS).map Nd.s, it.pts, it.cont, it.fam, it.set_, it.wrd, it.sec, (it.assets.map leafI).map Nd.n, it.rub⟩ : It.Item) = it
  rw [hs, hs, hi, hi]
theorem isLst_I (tag : Int) (l : List Int) : isLst (.mk tag 3 0 ⟨#[]⟩ (l.map leafI)) tag 1 = true := by
  unfold isLst
  rw [Bool.and_eq_true, List.all_eq_true]
  refine ⟨fun k hk => ?_, by simp [isNd, Nd.tag, Nd.kind, Nd.n, Nd.s, emptyB]⟩
  obtain ⟨x, _, rfl⟩ := List.mem_map.1 (show k ∈ l.map leafI from hk)
  simp [isNd, leafI, Nd.tag, Nd.kind, Nd.n, Nd.s, Nd.kids, emptyB]
theorem isLst_S (tag : Int) (l : List ByteArray) : isLst (.mk tag 3 0 ⟨#[]⟩ (l.map leafS)) tag 2 = true := by
  unfold isLst
  rw [Bool.and_eq_true, List.all_eq_true]
  refine ⟨fun k hk => ?_, by simp [isNd, Nd.tag, Nd.kind, Nd.n, Nd.s, emptyB]⟩
  obtain ⟨x, _, rfl⟩ := List.mem_map.1 (show k ∈ l.map leafS from hk)
  simp [isNd, leafS, Nd.tag, Nd.kind, Nd.n, Nd.s, Nd.kids]
theorem isTr_tree (it : It.Item) : isTr (tree it) = true := by
  unfold isTr
  rw [Bool.and_eq_true, Bool.and_eq_true, It.allN_iff]
  refine ⟨by simp [isNd, tree, Nd.tag, Nd.kind, Nd.n, Nd.s, emptyB], rfl, fun i hi => ?_⟩
  match i, hi with
  | 0, _ => simp [fldOk, tree, flds, isNd, Nd.tag, Nd.kind, Nd.n, Nd.s, Nd.kids, emptyB]
  | 1, _ => simp [fldOk, tree, flds, isNd, Nd.tag, Nd.kind, Nd.n, Nd.s, Nd.kids, emptyB]
  | 2, _ => simp [fldOk, tree, flds, isNd, Nd.tag, Nd.kind, Nd.n, Nd.s, Nd.kids, emptyB]
  | 3, _ => simp [fldOk, tree, flds, isNd, Nd.tag, Nd.kind, Nd.n, Nd.s, Nd.kids, emptyB]
  | 4, _ => exact isLst_S 5 _
  | 5, _ => exact isLst_I 6 _
  | 6, _ => simp [fldOk, tree, flds, isNd, Nd.tag, Nd.kind, Nd.n, Nd.s, Nd.kids, emptyB]
  | 7, _ => simp [fldOk, tree, flds, isNd, Nd.tag, Nd.kind, Nd.n, Nd.s, Nd.kids, emptyB]
  | 8, _ => exact isLst_S 9 _
  | 9, _ => simp [fldOk, tree, flds, isNd, Nd.tag, Nd.kind, Nd.n, Nd.s, Nd.kids, emptyB]
  | 10, _ => simp [fldOk, tree, flds, isNd, Nd.tag, Nd.kind, Nd.n, Nd.s, Nd.kids, emptyB]
  | 11, _ => simp [fldOk, tree, flds, isNd, Nd.tag, Nd.kind, Nd.n, Nd.s, Nd.kids, emptyB]
  | 12, _ => simp [fldOk, tree, flds, isNd, Nd.tag, Nd.kind, Nd.n, Nd.s, Nd.kids, emptyB]
  | 13, _ => simp [fldOk, tree, flds, isNd, Nd.tag, Nd.kind, Nd.n, Nd.s, Nd.kids, emptyB]
  | 14, _ => simp [fldOk, tree, flds, isNd, Nd.tag, Nd.kind, Nd.n, Nd.s, Nd.kids, emptyB]
  | 15, _ => exact isLst_I 16 _
  | 16, _ => simp [fldOk, tree, flds, isNd, Nd.tag, Nd.kind, Nd.n, Nd.s, Nd.kids, emptyB]
  | i + 17, hi => exact absurd hi (by omega)
def EncPost (it : It.Item) (er : Int) (lo : Nat) (e : Ending) (w' : World) : Prop :=
  (er = 0 → ∃ M : Option Addr × Nat, e = .returned (.tuple #[nda (tree it) M, .int .i64 0]) ∧ KidsAt 1000 lo 2 w' M (flds it)) ∧ (er ≠ 0 → e = .returned (.tuple #[.agg #[.int .i64 0, .int .i64 0, .int .i64 0, .string ⟨#[]⟩, .slice none 0 0], .int .i64 er]))
set_option maxRecDepth 100000 in
set_option maxHeartbeats 6400000 in
theorem encode_bad (it : It.Item) (L : It.Loc) (w : World) (h : It.In w it L) (hg : ∀ w', Ext w w' → Gm w') (hv : It.vld it ≠ 0) :
    Calls Tryz.prog 23 #[It.agg it L] w fun e w' => e = .returned (.tuple #[.agg #[.int .i64 0, .int .i64 0, .int .i64 0, .string ⟨#[]⟩, .slice none 0 0], .int .i64 (It.vld it)]) ∧ Ext w w' := by
  obtain ⟨CA, hca, hna, -, -⟩ := It.packed it L
  have HV := Lib.hid (valid_any it L)
  rw [hca] at HV ⊢
  have IA := Lib.hid (infoItem hna)
  have H := Lib.hid h
  have HG := Lib.hid hg
  obtain ⟨er, her⟩ : ∃ er, It.vld it = er := ⟨_, rfl⟩
  rw [her] at HV hv ⊢
  have t0 : (er != 0) = true := by rw [bne_iff_ne]; exact hv
  clear hca hna h hg her hv
  go_enter Tryz.func23, Tryz.ntmps23
  go_wp2_with (refine wpList_load_row rfl _ _ rfl w.heap.size rfl _ CA _ _ (heap_two_fst _ _ _) Tryz.underlying45 rfl IA.out ?_)
  have X0 := ((Ext.refl w).alloc (.cells CA 45)).alloc (.cells #[.int .i64 0, .int .i64 0, .int .i64 0, .string ⟨#[]⟩, .slice none 0 0] 52)
  with_reducible refine (HV.out _ (H.out.ext X0) (HG.out _ X0)).mono ?_
  rintro e w1 ⟨rfl, hb1⟩
  have HB1 := Lib.hid (hb1.blockAt (heap_two_snd w (.cells CA 45) (.cells #[.int .i64 0, .int .i64 0, .int .i64 0, .string ⟨#[]⟩, .slice none 0 0] 52)))
  have X1 := Lib.hid (X0.trans hb1)
  clear hb1 X0
  go_wp2_with (refine wpList_store_row rfl _ _ _ rfl (w.heap.size + 1) #[.int .i64 0, .int .i64 0, .int .i64 0, .string ⟨#[]⟩, .slice none 0 0] rfl rfl _ _ HB1.out (by kernel_rfl) rfl (by simp [Value.oneCell']) ?_)
  have HRS := setRow_at (cs' := #[.int .i64 0, .int .i64 0, .int .i64 0, .string ⟨#[]⟩, .slice none 0 0]) HB1.out
  refine bodyPost_ret (v := .tuple #[.agg #[.int .i64 0, .int .i64 0, .int .i64 0, .string ⟨#[]⟩, .slice none 0 0], .int .i64 er]) (results_cell_tmp Tryz.results23 _ _ (w.heap.size + 1) _ _ _ _ rfl HRS Tryz.underlying52 rfl (by kernel_rfl) rfl) rfl ?_
  exact ⟨rfl, X1.out.setRow (Nat.le_succ _) _⟩
theorem encode_any (it : It.Item) (L : It.Loc) (w : World) (h : It.In w it L) (hg : ∀ w', Ext w w' → Gm w') :
    Calls Tryz.prog 23 #[It.agg it L] w fun e w' => EncPost it (It.vld it) w.heap.size e w' ∧ Ext w w' := by
  by_cases hv : It.vld it = 0
  · obtain ⟨h1, h2, h3, h4⟩ := It.vld_small hv
    refine (encode_ok it L w h (fun w' he hI => ?_) (by omega) (by omega) (by omega) (by omega)).mono ?_
    · have := valid_any it L w' hI (hg w' he)
      rwa [hv] at this
    · rintro e w' ⟨he, hb⟩
      exact ⟨⟨fun _ => he, fun hn => absurd hv hn⟩, hb⟩
  · refine (encode_bad it L w h hg hv).mono ?_
    rintro e w' ⟨rfl, hb⟩
    exact ⟨⟨fun h0 => absurd h0 hv, fun _ => rfl⟩, hb⟩
end Go.Proofs.YtnlenappjjlbjaaGreatDoor
namespace Go.Proofs.YtnlenappjjlbjaaGreatDoor
open Go.RowKit Go.Shelf

namespace It
end It
end Go.Proofs.YtnlenappjjlbjaaGreatDoor
