/- item.Decode of any node; Succeed of both sides: contracts. Conditions: those of each theorem. -/
import Derived.Test.YtdaccamiipknmaaGreatDoorIuD
import Derived.Test.YtdaccamiipknmaaGreatDoorItW
namespace Go.Proofs.YtdaccamiipknmaaGreatDoor
open Go.RowKit Go.Shelf

/-- A node's numbers fit. -/
def N64 : Nat → Nd → Prop
  | 0, x => In64 x.n
  | d + 1, x => In64 x.n ∧ ∀ k ∈ x.kids, N64 d k
theorem N64.top {d : Nat} {x : Nd} (h : N64 d x) : In64 x.n := by
  cases d with
  | zero => exact h
  | succ d => exact h.1
theorem N64.kid {d : Nat} {x k : Nd} (h : N64 (d + 1) x) (hk : k ∈ x.kids) : N64 d k := h.2 k hk
theorem SzOk.kid {d : Nat} {x k : Nd} (h : SzOk (d + 1) x) (hk : k ∈ x.kids) : SzOk d k := h.2 k hk
/-- The error of Decode. -/
def decErr (x : Nd) : Int := if isTr x = true then It.vld (itemOf x.kids) else 2
theorem itemOf_ok {x : Nd} (hz : SzOk 2 x) (hn : N64 2 x) (h17 : x.kids.length = 17) : It.Ok (itemOf x.kids) := by
  obtain ⟨t, kd, n, s, ks⟩ := x
  have hz' : ∀ k ∈ ks, SzOk 1 k := fun k hk => hz.kid hk
  have hn' : ∀ k ∈ ks, N64 1 k := fun k hk => hn.kid hk
  have h17' : ks.length = 17 := h17
  match ks, h17' with
  | [y0, y1, y2, y3, y4, y5, y6, y7, y8, y9, y10, y11, y12, y13, y14, y15, y16], _ =>
    simp only [List.mem_cons, List.not_mem_nil, or_false, forall_eq_or_imp, forall_eq] at hz' hn'
    obtain ⟨z0, z1, z2, z3, z4, z5, z6, z7, z8, z9, z10, z11, z12, z13, z14, z15, z16⟩ := hz'
    obtain ⟨n0, n1, n2, n3, n4, n5, n6, n7, n8, n9, n10, n11, n12, n13, n14, n15, n16⟩ := hn'
    refine ⟨n0.top, n1.top, n2.top, n6.top, n7.top, n9.top, n11.top, n12.top, n13.top, n14.top, n16.top, z3.top.1, z10.top.1, fun u hu => ?_, fun u hu => ?_, fun u hu => ?_, fun u hu => ?_, ?_, ?_, ?_, ?_⟩
    · obtain ⟨k, hk, rfl⟩ := List.mem_map.1 hu
      exact (z4.kid hk).top.1
    · obtain ⟨k, hk, rfl⟩ := List.mem_map.1 hu
      exact (z8.kid hk).top.1
    · obtain ⟨k, hk, rfl⟩ := List.mem_map.1 hu
      exact (n5.kid hk).top
    · obtain ⟨k, hk, rfl⟩ := List.mem_map.1 hu
      exact (n15.kid hk).top
    · show (List.map Nd.s y4.kids).length ≤ _
      rw [List.length_map]; exact z4.top.2
    · show (List.map Nd.n y5.kids).length ≤ _
      rw [List.length_map]; exact z5.top.2
    · show (List.map Nd.s y8.kids).length ≤ _
      rw [List.length_map]; exact z8.top.2
    · show (List.map Nd.n y15.kids).length ≤ _
      rw [List.length_map]; exact z15.top.2
set_option maxRecDepth 100000 in
set_option maxHeartbeats 6400000 in
theorem decode_no (B d : Nat) (x : Nd) (M : Option Addr × Nat) (w : World) (hK : KidsAt B 0 (d + 2) w M x.kids) (hz : SzOk 2 x) (hT : isTr x = false) :
    Calls Tryz.prog 17 #[nda x M] w fun e w' => e = .returned (.tuple #[.agg #[.int .i64 0, .int .i64 0, .int .i64 0, .string ⟨#[]⟩, .slice none 0 0, .slice none 0 0, .int .i64 0, .int .i64 0, .slice none 0 0, .int .i64 0, .string ⟨#[]⟩, .int .i64 0, .int .i64 0, .int .i64 0, .int .i64 0, .slice none 0 0, .int .i64 0], .int .i64 2]) ∧ Ext w w' := by
  have HZ := Lib.hid hz
  have HK := Lib.hid hK
  have HT := Lib.hid hT
  clear hz hT hK
  obtain ⟨CN, hcn, hns⟩ : ∃ CN : Array Value, nda x M = .agg CN ∧ CN.size = 5 := ⟨_, rfl, rfl⟩
  have HIS := Lib.hid (fun w h => isTree_v B d x M HT.out w h HZ.out)
  rw [hcn] at HIS ⊢
  have HIN : Hid ((Tryz.prog.info? 34).map (·.size) = some CN.size) := Lib.hid (by rw [hns]; kernel_rfl)
  clear hcn hns
  go_enter Tryz.func17, Tryz.ntmps17
  go_wp2_with (refine wpList_load_row rfl _ _ rfl w.heap.size rfl _ CN _ _ (heap_two_fst _ _ _) Tryz.underlying34 rfl HIN.out ?_)
  have X0 := ((Ext.refl w).alloc (.cells CN 34)).alloc (.cells #[.int .i64 0, .int .i64 0, .int .i64 0, .string ⟨#[]⟩, .slice none 0 0, .slice none 0 0, .int .i64 0, .int .i64 0, .slice none 0 0, .int .i64 0, .string ⟨#[]⟩, .int .i64 0, .int .i64 0, .int .i64 0, .int .i64 0, .slice none 0 0, .int .i64 0] 25)
  with_reducible refine (HIS.out _ (HK.out.ext X0)).mono ?_
  rintro e w1 ⟨rfl, hb1⟩
  have HB1 := Lib.hid (hb1.blockAt (heap_two_snd w (.cells CN 34) (.cells #[.int .i64 0, .int .i64 0, .int .i64 0, .string ⟨#[]⟩, .slice none 0 0, .slice none 0 0, .int .i64 0, .int .i64 0, .slice none 0 0, .int .i64 0, .string ⟨#[]⟩, .int .i64 0, .int .i64 0, .int .i64 0, .int .i64 0, .slice none 0 0, .int .i64 0] 25)))
  have X1 := Lib.hid (X0.trans hb1)
  clear hb1 X0
  go_wp2_with (refine wpList_store_row rfl _ _ _ rfl (w.heap.size + 1) #[.int .i64 0, .int .i64 0, .int .i64 0, .string ⟨#[]⟩, .slice none 0 0, .slice none 0 0, .int .i64 0, .int .i64 0, .slice none 0 0, .int .i64 0, .string ⟨#[]⟩, .int .i64 0, .int .i64 0, .int .i64 0, .int .i64 0, .slice none 0 0, .int .i64 0] rfl rfl _ _ HB1.out (by kernel_rfl) rfl (by simp [Value.oneCell']) ?_)
  have HRS := setRow_at (cs' := #[.int .i64 0, .int .i64 0, .int .i64 0, .string ⟨#[]⟩, .slice none 0 0, .slice none 0 0, .int .i64 0, .int .i64 0, .slice none 0 0, .int .i64 0, .string ⟨#[]⟩, .int .i64 0, .int .i64 0, .int .i64 0, .int .i64 0, .slice none 0 0, .int .i64 0]) HB1.out
  refine bodyPost_ret (v := .tuple #[.agg #[.int .i64 0, .int .i64 0, .int .i64 0, .string ⟨#[]⟩, .slice none 0 0, .slice none 0 0, .int .i64 0, .int .i64 0, .slice none 0 0, .int .i64 0, .string ⟨#[]⟩, .int .i64 0, .int .i64 0, .int .i64 0, .int .i64 0, .slice none 0 0, .int .i64 0], .int .i64 2]) (results_cell_tmp Tryz.results17 _ _ (w.heap.size + 1) _ _ _ _ rfl HRS Tryz.underlying25 rfl (by kernel_rfl) rfl) rfl ?_
  exact ⟨rfl, X1.out.setRow (Nat.le_succ _) _⟩
theorem isTr_len {x : Nd} (h : isTr x = true) : x.kids.length = 17 := by
  unfold isTr at h
  simp only [Bool.and_eq_true, decide_eq_true_eq] at h
  exact h.2.1
/-- Decode of any node. -/
theorem decode_any (B d : Nat) (x : Nd) (M : Option Addr × Nat) (w : World) (hK : KidsAt B 0 (d + 2) w M x.kids) (hz : SzOk 2 x) (hn : N64 2 x) (hk : ∀ y ∈ x.kids, y.kids.length ≤ 2199023255552) (hg : Gm w) :
    Calls Tryz.prog 17 #[nda x M] w fun e w' => DecPost (itemOf x.kids) (decErr x) e w' ∧ Ext w w' := by
  cases hT : isTr x with
  | false =>
    refine (decode_no B d x M w hK hz hT).mono ?_
    rintro e w' ⟨rfl, hb⟩
    have e2 : decErr x = 2 := by unfold decErr; rw [hT]; rfl
    rw [e2]
    exact ⟨⟨fun h => absurd h (by decide), fun _ => rfl⟩, hb⟩
  | true =>
    have h17 := isTr_len hT
    have hok := itemOf_ok hz hn h17
    have e2 : decErr x = It.vld (itemOf x.kids) := by unfold decErr; rw [hT]; rfl
    rw [e2]
    obtain ⟨t, kd, n, s, ks⟩ := x
    have h17' : ks.length = 17 := h17
    match ks, h17', hK, hz, hT, hk, hok with
    | [y0, y1, y2, y3, y4, y5, y6, y7, y8, y9, y10, y11, y12, y13, y14, y15, y16], _, hK, hz, hT, hk, hok =>
      exact decode_lit B d t kd n s y0 y1 y2 y3 y4 y5 y6 y7 y8 y9 y10 y11 y12 y13 y14 y15 y16 M w hK hz hT hk _ (fun L w hI hG => valid_any _ L w (hI.in_ hok) hG) hg

namespace It
/-- The error of Succeed. -/
def succ (a b : Item) : Int := if vld b ≠ 0 then vld b else if b.id ≠ a.id then 11 else if b.ver - 1 ≠ a.ver then 18 else 0
theorem vld_ver {b : Item} (h : vld b = 0) : 1 ≤ b.ver ∧ b.ver ≤ 50 := by
  unfold vld at h
  split at h
  · cases h
  · rename_i hr
    have hr : ranges b = true := by simpa using hr
    unfold ranges at hr
    simp only [Bool.and_eq_true, wi_iff] at hr
    exact hr.1.1.1.1.1.1.2
end It
set_option maxRecDepth 100000 in
set_option maxHeartbeats 6400000 in
theorem succeed_any (a b : It.Item) (La Lb : It.Loc) (w : World) (hb : It.In w b Lb) (hg : ∀ w', Ext w w' → Gm w') :
    Calls Tryz.prog 11 #[It.agg a La, It.agg b Lb] w fun e w' => e = .returned (.int .i64 (It.succ a b)) ∧ Ext w w' := by
  obtain ⟨CA, hca, hna, -, hka⟩ := It.packed a La
  obtain ⟨CB, hcb, hnb, -, hkb⟩ := It.packed b Lb
  have HV := Lib.hid (valid_any b Lb)
  rw [hca, hcb]
  rw [hcb] at HV
  have ja0 : CA[0]? = some (.int .i64 a.id) := by rw [← hka]; rfl
  have ja1 : CA[1]? = some (.int .i64 a.ver) := by rw [← hka]; rfl
  have jb0 : CB[0]? = some (.int .i64 b.id) := by rw [← hkb]; rfl
  have jb1 : CB[1]? = some (.int .i64 b.ver) := by rw [← hkb]; rfl
  have HB := Lib.hid hb
  have HG := Lib.hid hg
  have IB := Lib.hid (infoItem hnb)
  have J0 := Lib.hid (And.intro ja0 (And.intro ja1 (And.intro jb0 jb1)))
  have HVER : Hid (It.vld b = 0 → 1 ≤ b.ver ∧ b.ver ≤ 50) := Lib.hid It.vld_ver
  have HS : Hid (It.succ a b = if It.vld b ≠ 0 then It.vld b else if b.id ≠ a.id then 11 else if b.ver - 1 ≠ a.ver then 18 else 0) := Lib.hid rfl
  clear hca hcb hna hnb hka hkb ja0 ja1 jb0 jb1 hb
  obtain ⟨er, her⟩ : ∃ er, It.vld b = er := ⟨_, rfl⟩
  obtain ⟨v, hv⟩ : ∃ v, It.succ a b = v := ⟨_, rfl⟩
  rw [hv] at HS ⊢
  rw [her] at HS HVER HV
  clear her hv
  go_enter Tryz.func11, Tryz.ntmps11
  go_wp2_with (refine wpList_load_row rfl _ _ rfl (w.heap.size + 1) rfl _ CB _ _ (heap_two_snd _ _ _) Tryz.underlying25 rfl IB.out ?_)
  have X0 := ((Ext.refl w).alloc (.cells CA 25)).alloc (.cells CB 25)
  with_reducible refine (HV.out _ (HB.out.ext X0) (HG.out _ X0)).mono ?_
  rintro e w1 ⟨rfl, hb1⟩
  have A1 := hb1.blockAt (heap_two_fst w (.cells CA 25) (.cells CB 25))
  have B1 := hb1.blockAt (heap_two_snd w (.cells CA 25) (.cells CB 25))
  have a0 : w1.cell? ⟨w.heap.size, 0, none⟩ = some (.int .i64 a.id) := (cell_of_row _ _ 0 _ _ _ A1).trans J0.out.1
  have a1 : w1.cell? ⟨w.heap.size, 1, none⟩ = some (.int .i64 a.ver) := (cell_of_row _ _ 1 _ _ _ A1).trans J0.out.2.1
  have b0 : w1.cell? ⟨w.heap.size + 1, 0, none⟩ = some (.int .i64 b.id) := (cell_of_row _ _ 0 _ _ _ B1).trans J0.out.2.2.1
  have b1 : w1.cell? ⟨w.heap.size + 1, 1, none⟩ = some (.int .i64 b.ver) := (cell_of_row _ _ 1 _ _ _ B1).trans J0.out.2.2.2
  have X1 := Lib.hid (X0.trans hb1)
  clear hb1 X0 A1 B1 HV IB
  by_cases he : er = 0
  · have hver := HVER.out he
    have t0 : (er != 0) = false := by rw [he]; rfl
    have HE := Lib.hid he
    clear he
    obtain ⟨v1, v2⟩ := hver
    by_cases hid : b.id = a.id
    · have t1 : (b.id != a.id) = false := by rw [bne_eq_false_iff_eq]; exact hid
      have HI := Lib.hid hid
      clear hid
      by_cases hvv : b.ver - 1 = a.ver
      · have t2 : (b.ver - 1 != a.ver) = false := by rw [bne_eq_false_iff_eq]; exact hvv
        have HVV := Lib.hid hvv
        clear hvv
        have HF : Hid (v = 0) := Lib.hid (by rw [HS.out, if_neg (fun h => h HE.out), if_neg (fun h => h HI.out), if_neg (fun h => h HVV.out)])
        go_wp2
        go_ret
        exact ⟨ret_int HF.out.symm, X1.out⟩
      · have t2 : (b.ver - 1 != a.ver) = true := by rw [bne_iff_ne]; exact hvv
        have HVV := Lib.hid hvv
        clear hvv
        have HF : Hid (v = 18) := Lib.hid (by rw [HS.out, if_neg (fun h => h HE.out), if_neg (fun h => h HI.out), if_pos HVV.out])
        go_wp2
        go_ret
        exact ⟨ret_int HF.out.symm, X1.out⟩
    · have t1 : (b.id != a.id) = true := by rw [bne_iff_ne]; exact hid
      have HI := Lib.hid hid
      clear hid
      have HF : Hid (v = 11) := Lib.hid (by rw [HS.out, if_neg (fun h => h HE.out), if_pos HI.out])
      go_wp2
      go_ret
      exact ⟨ret_int HF.out.symm, X1.out⟩
  · have t0 : (er != 0) = true := by rw [bne_iff_ne]; exact he
    have HE := Lib.hid he
    clear he
    have HF : Hid (v = er) := Lib.hid (by rw [HS.out, if_pos HE.out])
    go_wp2
    go_ret
    exact ⟨ret_int HF.out.symm, X1.out⟩
set_option maxRecDepth 100000 in
set_option maxHeartbeats 6400000 in
theorem rsucceed_any (a b : It.Item) (La Lb : It.Loc) (w : World) (hb : It.In w b Lb) :
    Calls Tryz.prog 12 #[It.agg a La, It.agg b Lb] w fun e w' => e = .returned (.int .i64 (It.succ a b)) ∧ Ext w w' := by
  obtain ⟨CA, hca, hna, -, hka⟩ := It.packed a La
  obtain ⟨CB, hcb, hnb, -, hkb⟩ := It.packed b Lb
  have HV := Lib.hid (rvalid_any b Lb)
  rw [hca, hcb]
  rw [hcb] at HV
  have ja0 : CA[0]? = some (.int .i64 a.id) := by rw [← hka]; rfl
  have ja1 : CA[1]? = some (.int .i64 a.ver) := by rw [← hka]; rfl
  have jb0 : CB[0]? = some (.int .i64 b.id) := by rw [← hkb]; rfl
  have jb1 : CB[1]? = some (.int .i64 b.ver) := by rw [← hkb]; rfl
  have HB := Lib.hid hb
  have IB := Lib.hid (infoItem hnb)
  have J0 := Lib.hid (And.intro ja0 (And.intro ja1 (And.intro jb0 jb1)))
  have HVER : Hid (It.vld b = 0 → 1 ≤ b.ver ∧ b.ver ≤ 50) := Lib.hid It.vld_ver
  have HS : Hid (It.succ a b = if It.vld b ≠ 0 then It.vld b else if b.id ≠ a.id then 11 else if b.ver - 1 ≠ a.ver then 18 else 0) := Lib.hid rfl
  clear hca hcb hna hnb hka hkb ja0 ja1 jb0 jb1 hb
  obtain ⟨er, her⟩ : ∃ er, It.vld b = er := ⟨_, rfl⟩
  obtain ⟨v, hv⟩ : ∃ v, It.succ a b = v := ⟨_, rfl⟩
  rw [hv] at HS ⊢
  rw [her] at HS HVER HV
  clear her hv
  go_enter Tryz.func12, Tryz.ntmps12
  go_wp2_with (refine wpList_load_row rfl _ _ rfl (w.heap.size + 1) rfl _ CB _ _ (heap_two_snd _ _ _) Tryz.underlying25 rfl IB.out ?_)
  have X0 := ((Ext.refl w).alloc (.cells CA 25)).alloc (.cells CB 25)
  with_reducible refine (HV.out _ (HB.out.ext X0)).mono ?_
  rintro e w1 ⟨rfl, hb1⟩
  have A1 := hb1.blockAt (heap_two_fst w (.cells CA 25) (.cells CB 25))
  have B1 := hb1.blockAt (heap_two_snd w (.cells CA 25) (.cells CB 25))
  have a0 : w1.cell? ⟨w.heap.size, 0, none⟩ = some (.int .i64 a.id) := (cell_of_row _ _ 0 _ _ _ A1).trans J0.out.1
  have a1 : w1.cell? ⟨w.heap.size, 1, none⟩ = some (.int .i64 a.ver) := (cell_of_row _ _ 1 _ _ _ A1).trans J0.out.2.1
  have b0 : w1.cell? ⟨w.heap.size + 1, 0, none⟩ = some (.int .i64 b.id) := (cell_of_row _ _ 0 _ _ _ B1).trans J0.out.2.2.1
  have b1 : w1.cell? ⟨w.heap.size + 1, 1, none⟩ = some (.int .i64 b.ver) := (cell_of_row _ _ 1 _ _ _ B1).trans J0.out.2.2.2
  have X1 := Lib.hid (X0.trans hb1)
  clear hb1 X0 A1 B1 HV IB
  by_cases he : er = 0
  · have hver := HVER.out he
    have t0 : (er != 0) = false := by rw [he]; rfl
    have HE := Lib.hid he
    clear he
    obtain ⟨v1, v2⟩ := hver
    by_cases hid : b.id = a.id
    · have t1 : (b.id != a.id) = false := by rw [bne_eq_false_iff_eq]; exact hid
      have HI := Lib.hid hid
      clear hid
      by_cases hvv : b.ver - 1 = a.ver
      · have t2 : (b.ver - 1 != a.ver) = false := by rw [bne_eq_false_iff_eq]; exact hvv
        have HVV := Lib.hid hvv
        clear hvv
        have HF : Hid (v = 0) := Lib.hid (by rw [HS.out, if_neg (fun h => h HE.out), if_neg (fun h => h HI.out), if_neg (fun h => h HVV.out)])
        go_wp2
        go_ret
        exact ⟨ret_int HF.out.symm, X1.out⟩
      · have t2 : (b.ver - 1 != a.ver) = true := by rw [bne_iff_ne]; exact hvv
        have HVV := Lib.hid hvv
        clear hvv
        have HF : Hid (v = 18) := Lib.hid (by rw [HS.out, if_neg (fun h => h HE.out), if_neg (fun h => h HI.out), if_pos HVV.out])
        go_wp2
        go_ret
        exact ⟨ret_int HF.out.symm, X1.out⟩
    · have t1 : (b.id != a.id) = true := by rw [bne_iff_ne]; exact hid
      have HI := Lib.hid hid
      clear hid
      have HF : Hid (v = 11) := Lib.hid (by rw [HS.out, if_neg (fun h => h HE.out), if_pos HI.out])
      go_wp2
      go_ret
      exact ⟨ret_int HF.out.symm, X1.out⟩
  · have t0 : (er != 0) = true := by rw [bne_iff_ne]; exact he
    have HE := Lib.hid he
    clear he
    have HF : Hid (v = er) := Lib.hid (by rw [HS.out, if_pos HE.out])
    go_wp2
    go_ret
    exact ⟨ret_int HF.out.symm, X1.out⟩
end Go.Proofs.YtdaccamiipknmaaGreatDoor
