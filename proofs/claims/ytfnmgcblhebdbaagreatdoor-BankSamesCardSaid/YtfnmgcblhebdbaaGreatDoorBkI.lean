/- Entry, Last and Version, in the package and in the reference: contracts. Conditions: those of each theorem. -/
import Derived.Test.YtfnmgcblhebdbaaGreatDoorBkH
namespace Go.Proofs.YtfnmgcblhebdbaaGreatDoor
open Go.RowKit
namespace Bk
theorem results_ct {P : Program} {fn : Func} {p k1 : Tmp} {ty : TypeId} (h : fn.results = #[.cell p ty, .tmp k1]) (tmps : Array Value) (w : World) (g : Nat) (t : TypeId) (cs : Array Value) (fr : Nat × Nat) (d : TypeDesc) {v1 : Value}
    (hp : tmps.getD p undef = .pointer (some ⟨g, 0, none⟩)) (hg : w.heap[g]? = some (.cells cs t fr))
    (hu : P.underlying ty = some d) (hd : (match d with | .struct _ | .array _ _ => true | _ => false) = true) (hi : (P.info? ty).map (·.size) = some cs.size) (hk1 : tmps.getD k1 undef = v1) :
    (results fn tmps).run P w = .ok (.tuple #[.agg cs, v1]) w := by
  subst hk1
  have hp' : tmps[p]?.getD undef = .pointer (some ⟨g, 0, none⟩) := by simpa using hp
  simp [results, h, hp', asAddr, run_loadVar_row w g t ty cs fr d hg hu hd hi]
def zItem : It.Item := ⟨0, 0, 0, ⟨#[]⟩, [], [], 0, 0, [], 0, ⟨#[]⟩, 0, 0, 0, 0, [], 0⟩
def zLoc : It.Loc := ⟨none, 0, none, 0, none, 0, none, 0⟩
def zEntL : EntL := ⟨none, 0, [], 0, 0, ⟨none, 0, []⟩, ⟨none, 0, []⟩, none, 0, [], none, 0, []⟩
def zEnt : Ent := zEntL.ent
theorem il_nil (w : World) : (⟨none, 0, []⟩ : IL).In w := ⟨SlI.nil _ _, Nat.le_refl _, Nat.zero_le _, fun x hx => by simp at hx⟩
theorem zEntL_in (w : World) : zEntL.In w := ⟨SlX.nil _ _, ⟨Nat.le_refl _, Nat.zero_le _⟩, by unfold In64 zEntL; decide, by unfold In64 zEntL; decide, il_nil w, il_nil w, SlX.nil _ _, ⟨Nat.le_refl _, Nat.zero_le _⟩, SlX.nil _ _, ⟨Nat.le_refl _, Nat.zero_le _⟩⟩
theorem zItem_in (w : World) : It.In w zItem zLoc := by
  refine ⟨⟨?_, ?_, ?_, ?_, ?_, ?_, ?_, ?_, ?_, ?_, ?_, ?_, ?_, ?_, ?_, ?_, ?_, ?_, ?_, ?_, ?_⟩, SlS.nil _ _, SlI.nil _ _, SlS.nil _ _, SlI.nil _ _, ⟨Nat.le_refl _, Nat.zero_le _⟩, ⟨Nat.le_refl _, Nat.zero_le _⟩, ⟨Nat.le_refl _, Nat.zero_le _⟩, ⟨Nat.le_refl _, Nat.zero_le _⟩⟩
  all_goals first | (unfold In64; decide) | decide | (intro x hx; simp [zItem] at hx)
/-- An entry and whether there is one. -/
def RetFE (o : Option Ent) (r : Ending) (w' : World) : Prop := ∃ e' : EntL, r = .returned (.tuple #[e'.agg, .bool o.isSome]) ∧ e'.ent = o.getD zEnt ∧ e'.In w'
/-- An item and whether there is one. -/
def RetFI (o : Option It.Item) (r : Ending) (w' : World) : Prop := ∃ x : ItL, r = .returned (.tuple #[It.agg x.1 x.2, .bool o.isSome]) ∧ x.1 = o.getD zItem ∧ It.In w' x.1 x.2
theorem fnd_lt {es : List EntL} {id : Int} {k : Nat} (h : fnd (es.map (·.ent)) id = some k) : ∃ e, es[k]? = some e ∧ 0 < e.vs.length ∧ num e.ent = some id := by
  obtain ⟨x, hx, hn⟩ := fnd_at h
  rw [List.getElem?_map] at hx
  obtain ⟨e, he, rfl⟩ := Option.map_eq_some_iff.1 hx
  refine ⟨e, he, ?_, hn⟩
  rcases Nat.eq_zero_or_pos e.vs.length with h0 | h0
  · rw [num_nil h0] at hn; cases hn
  · exact h0
theorem entF_none {b : BankL} {id : Int} (h : fnd (b.ents.map (·.ent)) id = none) : entF b.bank id = none := by unfold entF BankL.bank; simp only; rw [h]; rfl
theorem entF_some {b : BankL} {id : Int} {k : Nat} {e : EntL} (h : fnd (b.ents.map (·.ent)) id = some k) (he : b.ents[k]? = some e) : entF b.bank id = some e.ent := by
  unfold entF BankL.bank; simp only; rw [h]; simp only [Option.bind_some]; rw [List.getElem?_map, he]; rfl
theorem lastF_none {b : BankL} {id : Int} (h : entF b.bank id = none) : lastF b.bank id = none := by unfold lastF; rw [h]; rfl
theorem lastF_some {b : BankL} {id : Int} {e : EntL} {x : ItL} {n : Nat} (h : entF b.bank id = some e.ent) (hn : e.vs.length = n) (hx : e.vs[n - 1]? = some x) : lastF b.bank id = some x.1 := by
  unfold lastF; rw [h]; simp only [Option.bind_some, EntL.ent]; rw [List.length_map, hn, List.getElem?_map, hx]; rfl
theorem verF_none {b : BankL} {id v : Int} (h : entF b.bank id = none) : verF b.bank id v = none := by unfold verF; rw [h]; rfl
theorem verF_no {b : BankL} {id v : Int} {e : EntL} {n : Nat} (h : entF b.bank id = some e.ent) (hn : e.vs.length = n) (ha : ∀ (j : Nat) (x : ItL), j < n → e.vs[j]? = some x → x.1.ver ≠ v) : verF b.bank id v = none := by
  unfold verF; rw [h]; simp only [Option.bind_some, EntL.ent]
  refine find_none fun i y hy => ?_
  rw [List.getElem?_map] at hy
  obtain ⟨x, hx, rfl⟩ := Option.map_eq_some_iff.1 hy
  exact ha i x (by rw [← hn]; exact (List.getElem?_eq_some_iff.1 hx).1) hx
theorem verF_yes {b : BankL} {id v : Int} {e : EntL} {k : Nat} {x : ItL} (h : entF b.bank id = some e.ent) (hx : e.vs[k]? = some x) (hv : x.1.ver = v) (ha : ∀ (j : Nat) (x : ItL), j < k → e.vs[j]? = some x → x.1.ver ≠ v) : verF b.bank id v = some x.1 := by
  unfold verF; rw [h]; simp only [Option.bind_some, EntL.ent]
  refine find_some (k := k) (by rw [List.getElem?_map, hx]; rfl) hv fun i y hi hy => ?_
  rw [List.getElem?_map] at hy
  obtain ⟨z, hz, rfl⟩ := Option.map_eq_some_iff.1 hy
  exact ha i z hi hz
set_option maxRecDepth 100000 in
set_option maxHeartbeats 12800000 in
theorem bEntry_any (b : BankL) (id : Int) (w : World) (h : b.In w) (hz : BankSz b.bank) :
    Calls Tryz.prog 13 #[b.agg, .int .i64 id] w fun r w' => RetFE (entF b.bank id) r w' ∧ Ext w w' := by
  obtain ⟨CB, hcb, hnb, h1b, hkb⟩ := b.packed
  rw [hcb]
  have HFI := Lib.hid (fun v hv w h => bfind_any b id (v := v) hv w h)
  rw [hcb] at HFI
  obtain ⟨W0, hW0⟩ : ∃ W, (w.alloc (.cells CB 31)).alloc (.cells #[.slice none 0 0, .int .i64 0, .int .i64 0, .slice none 0 0, .slice none 0 0, .slice none 0 0, .slice none 0 0] 56) = W := ⟨_, rfl⟩
  have HX0 : Hid (Ext w W0) := Lib.hid (by rw [← hW0]; exact ((Ext.refl _).alloc _).alloc _)
  have HB0 : Hid (W0.heap[w.heap.size]? = some (.cells CB 31 (0, 0))) := Lib.hid (by rw [← hW0]; exact two_fst' _ _ _)
  have HZ0 : Hid (W0.heap[w.heap.size + 1]? = some (.cells #[.slice none 0 0, .int .i64 0, .int .i64 0, .slice none 0 0, .slice none 0 0, .slice none 0 0, .slice none 0 0] 56 (0, 0))) := Lib.hid (by rw [← hW0]; exact heap_new_at _ _ _ (by simp))
  have HWH := Lib.hid hW0
  have H := Lib.hid h
  have HSZ := Lib.hid hz
  have IB := Lib.hid (infoBk hnb)
  have j5 : CB[5]? = some (.slice b.eA b.ents.length b.ec) := by rw [← hkb]; rfl
  obtain ⟨n, hn⟩ : ∃ n, b.ents.length = n := ⟨_, rfl⟩
  rw [hn] at j5
  have h63 : n ≤ 9223372036854775807 := by have := h.ec; unfold maxLen at this; omega
  have J5 := Lib.hid j5
  have HN := Lib.hid hn
  obtain ⟨o, ho⟩ : ∃ o, fnd (b.ents.map (·.ent)) id = o := ⟨_, rfl⟩
  have HO := Lib.hid ho
  have HIX : Hid (ixV (fnd (b.ents.map (·.ent)) id) = ixV o) := Lib.hid (by rw [ho])
  clear hW0 h hz hnb h1b hkb hcb j5 hn ho
  cases o with
  | none =>
    obtain ⟨iv, hiv⟩ : ∃ v : Int, (-1 : Int) = v := ⟨_, rfl⟩
    have HF : Hid (ixV (fnd (b.ents.map (·.ent)) id) = -1) := HIX
    go_enter Tryz.func13, Tryz.ntmps13
    go_wp2_with (with_reducible refine wpList_load_row rfl 31 (.tmp 2) rfl (w.heap.size) (by with_unfolding_all rfl) _ CB _ _ (two_fst' w _ _) Tryz.underlying31 rfl IB.out ?_)
    rw [HWH.out]
    with_reducible refine (HFI.out (-1) HF.out W0 (H.out.ext HX0.out)).mono ?_
    rintro r w1 ⟨rfl, hb1⟩
    have HZ1 := Lib.hid (hb1.blockAt HZ0.out)
    have HX1 := Lib.hid (HX0.out.trans hb1)
    clear hb1
    have INZ : Hid ((Tryz.prog.info? 56).map (·.size) = some (#[.slice none 0 0, .int .i64 0, .int .i64 0, .slice none 0 0, .slice none 0 0, .slice none 0 0, .slice none 0 0] : Array Value).size) := Lib.hid (infoEn rfl)
    go_wp2_with (with_reducible refine wpList_store_row rfl 56 (.tmp 4) (.tmp 12) rfl (w.heap.size + 1) #[.slice none 0 0, .int .i64 0, .int .i64 0, .slice none 0 0, .slice none 0 0, .slice none 0 0, .slice none 0 0] (by with_unfolding_all rfl) (by with_unfolding_all rfl) _ _ HZ1.out INZ.out rfl (by simp [Value.oneCell']) ?_)
    refine bodyPost_ret (v := .tuple #[.agg #[.slice none 0 0, .int .i64 0, .int .i64 0, .slice none 0 0, .slice none 0 0, .slice none 0 0, .slice none 0 0], .bool false]) (results_ct Tryz.results13 _ _ (w.heap.size + 1) _ _ _ _ rfl (setRow_heap _ _ _ _ _ _ HZ1.out) Tryz.underlying56 rfl INZ.out rfl) rfl ?_
    exact ⟨⟨zEntL, by rw [entF_none HO.out]; rfl, by rw [entF_none HO.out]; rfl, zEntL_in _⟩, HX1.out.rowSet (by omega) _⟩
  | some k =>
    have HF : Hid (ixV (fnd (b.ents.map (·.ent)) id) = (k : Int)) := HIX
    obtain ⟨e, hx, hp, -⟩ := fnd_lt HO.out
    have HEN := Lib.hid (entF_some HO.out hx)
    have hkn : k < n := by rw [← HN.out]; exact (List.getElem?_eq_some_iff.1 hx).1
    have ki0 : (0 : Int) ≤ (k : Int) := by omega
    have ki1 : (k : Int) < (n : Int) := by omega
    obtain ⟨EA, hEA⟩ : ∃ A, b.eA = A := ⟨_, rfl⟩
    obtain ⟨bb, off, hA, hbl, hc, hin⟩ := (H.out.ents.ext HX0.out).at_ hx
    have HSE : Hid (EntSz e.ent) := Lib.hid (HSZ.out.ent e.ent (List.mem_map.2 ⟨e, List.mem_of_getElem? hx, rfl⟩))
    rw [hEA] at J5 hA
    subst hA
    have HRG : Hid (W0.rangeAt bb (off + k * 7) e.cells) := Lib.hid hc
    have HIN := Lib.hid hin
    clear hEA hc hin hx hbl
    go_enter Tryz.func13, Tryz.ntmps13
    go_wp2_with (with_reducible refine wpList_load_row rfl 31 (.tmp 2) rfl (w.heap.size) (by with_unfolding_all rfl) _ CB _ _ (two_fst' w _ _) Tryz.underlying31 rfl IB.out ?_)
    rw [HWH.out]
    with_reducible refine (HFI.out (k : Int) HF.out W0 (H.out.ext HX0.out)).mono ?_
    rintro r w1 ⟨rfl, hb1⟩
    have HZ1 := Lib.hid (hb1.blockAt HZ0.out)
    have HX1 := Lib.hid (HX0.out.trans hb1)
    have c5 : w1.cell? ⟨w.heap.size, 5, none⟩ = some (.slice (some ⟨bb, off, none⟩) n b.ec) := (cell_of_row _ _ 5 _ _ _ (hb1.blockAt HB0.out)).trans J5.out
    have HR1 := Lib.hid (hb1.range HRG.out)
    have HI1 := Lib.hid (HIN.out.ext hb1)
    clear hb1
    obtain ⟨CE, hce, hne, h1e, hke⟩ := e.packed
    have HC : Hid (w1.rangeAt bb (off + k * 7) CE.toList) := Lib.hid (by rw [← hke]; exact HR1.out)
    have IE := Lib.hid (infoEn hne)
    have K := Lib.hid (bcopyEntry_any e w1 HI1.out HSE.out)
    rw [hce] at K
    clear hce hne h1e hke hp
    go_wp2_with (with_reducible refine wpList_load_arr rfl 56 (.tmp 16) rfl bb (off + k * 7) (by with_unfolding_all rfl) CE _ HC.out Tryz.underlying56 rfl IE.out ?_)
    with_reducible refine K.out.mono ?_
    rintro r w2 ⟨⟨e', rfl, he1, he2, he3, he4⟩, hb2⟩
    obtain ⟨CF, hcf, hnf, h1f, hkf⟩ := e'.packed
    rw [hcf]
    have HZ2 := Lib.hid (hb2.blockAt HZ1.out)
    have HX2 := Lib.hid (HX1.out.trans hb2)
    have IF := Lib.hid (infoEn hnf)
    have OF := Lib.hid h1f
    have HCF := Lib.hid hcf
    have HE1 := Lib.hid he1
    have HE2 := Lib.hid he2
    have HE3 := Lib.hid he3
    have IZ : Hid ((#[.slice none 0 0, .int .i64 0, .int .i64 0, .slice none 0 0, .slice none 0 0, .slice none 0 0, .slice none 0 0] : Array Value).size = CF.size) := Lib.hid hnf.symm
    clear hb2 he1 he2 he3 he4 hcf hnf h1f hkf c5
    go_wp2_with (with_reducible refine wpList_store_row rfl 56 (.tmp 4) (.tmp 18) rfl (w.heap.size + 1) CF (by with_unfolding_all rfl) (by with_unfolding_all rfl) _ _ HZ2.out IF.out IZ.out OF.out ?_)
    refine bodyPost_ret (v := .tuple #[.agg CF, .bool true]) (results_ct Tryz.results13 _ _ (w.heap.size + 1) _ _ _ _ rfl (setRow_heap _ _ _ _ _ _ HZ2.out) Tryz.underlying56 rfl IF.out rfl) rfl ?_
    have hoff : e'.Off (w.heap.size + 1) := eEnt.frm HE3.out (by have := blk_lt HZ1.out; omega)
    exact ⟨⟨e', by rw [HEN.out, HCF.out]; rfl, by rw [HEN.out, HE1.out]; rfl, HE2.out.but hoff (But.setRow _ _ _)⟩, HX2.out.rowSet (by omega) _⟩
set_option maxRecDepth 100000 in
set_option maxHeartbeats 12800000 in
theorem rEntry_any (b : BankL) (id : Int) (w : World) (h : b.In w) (hz : BankSz b.bank) :
    Calls Tryz.prog 18 #[b.agg, .int .i64 id] w fun r w' => RetFE (entF b.bank id) r w' ∧ Ext w w' := by
  obtain ⟨CB, hcb, hnb, h1b, hkb⟩ := b.packed
  rw [hcb]
  have HFI := Lib.hid (fun v hv w h => rat_any b id (v := v) hv w h)
  rw [hcb] at HFI
  obtain ⟨W0, hW0⟩ : ∃ W, (w.alloc (.cells CB 31)).alloc (.cells #[.slice none 0 0, .int .i64 0, .int .i64 0, .slice none 0 0, .slice none 0 0, .slice none 0 0, .slice none 0 0] 56) = W := ⟨_, rfl⟩
  have HX0 : Hid (Ext w W0) := Lib.hid (by rw [← hW0]; exact ((Ext.refl _).alloc _).alloc _)
  have HB0 : Hid (W0.heap[w.heap.size]? = some (.cells CB 31 (0, 0))) := Lib.hid (by rw [← hW0]; exact two_fst' _ _ _)
  have HZ0 : Hid (W0.heap[w.heap.size + 1]? = some (.cells #[.slice none 0 0, .int .i64 0, .int .i64 0, .slice none 0 0, .slice none 0 0, .slice none 0 0, .slice none 0 0] 56 (0, 0))) := Lib.hid (by rw [← hW0]; exact heap_new_at _ _ _ (by simp))
  have HWH := Lib.hid hW0
  have H := Lib.hid h
  have HSZ := Lib.hid hz
  have IB := Lib.hid (infoBk hnb)
  have j5 : CB[5]? = some (.slice b.eA b.ents.length b.ec) := by rw [← hkb]; rfl
  obtain ⟨n, hn⟩ : ∃ n, b.ents.length = n := ⟨_, rfl⟩
  rw [hn] at j5
  have h63 : n ≤ 9223372036854775807 := by have := h.ec; unfold maxLen at this; omega
  have J5 := Lib.hid j5
  have HN := Lib.hid hn
  obtain ⟨o, ho⟩ : ∃ o, fnd (b.ents.map (·.ent)) id = o := ⟨_, rfl⟩
  have HO := Lib.hid ho
  have HIX : Hid (ixV (fnd (b.ents.map (·.ent)) id) = ixV o) := Lib.hid (by rw [ho])
  clear hW0 h hz hnb h1b hkb hcb j5 hn ho
  cases o with
  | none =>
    obtain ⟨iv, hiv⟩ : ∃ v : Int, (-1 : Int) = v := ⟨_, rfl⟩
    have HF : Hid (ixV (fnd (b.ents.map (·.ent)) id) = -1) := HIX
    go_enter Tryz.func18, Tryz.ntmps18
    go_wp2_with (with_reducible refine wpList_load_row rfl 31 (.tmp 2) rfl (w.heap.size) (by with_unfolding_all rfl) _ CB _ _ (two_fst' w _ _) Tryz.underlying31 rfl IB.out ?_)
    rw [HWH.out]
    with_reducible refine (HFI.out (-1) HF.out W0 (H.out.ext HX0.out)).mono ?_
    rintro r w1 ⟨rfl, hb1⟩
    have HZ1 := Lib.hid (hb1.blockAt HZ0.out)
    have HX1 := Lib.hid (HX0.out.trans hb1)
    clear hb1
    have INZ : Hid ((Tryz.prog.info? 56).map (·.size) = some (#[.slice none 0 0, .int .i64 0, .int .i64 0, .slice none 0 0, .slice none 0 0, .slice none 0 0, .slice none 0 0] : Array Value).size) := Lib.hid (infoEn rfl)
    go_wp2_with (with_reducible refine wpList_store_row rfl 56 (.tmp 4) (.tmp 12) rfl (w.heap.size + 1) #[.slice none 0 0, .int .i64 0, .int .i64 0, .slice none 0 0, .slice none 0 0, .slice none 0 0, .slice none 0 0] (by with_unfolding_all rfl) (by with_unfolding_all rfl) _ _ HZ1.out INZ.out rfl (by simp [Value.oneCell']) ?_)
    refine bodyPost_ret (v := .tuple #[.agg #[.slice none 0 0, .int .i64 0, .int .i64 0, .slice none 0 0, .slice none 0 0, .slice none 0 0, .slice none 0 0], .bool false]) (results_ct Tryz.results18 _ _ (w.heap.size + 1) _ _ _ _ rfl (setRow_heap _ _ _ _ _ _ HZ1.out) Tryz.underlying56 rfl INZ.out rfl) rfl ?_
    exact ⟨⟨zEntL, by rw [entF_none HO.out]; rfl, by rw [entF_none HO.out]; rfl, zEntL_in _⟩, HX1.out.rowSet (by omega) _⟩
  | some k =>
    have HF : Hid (ixV (fnd (b.ents.map (·.ent)) id) = (k : Int)) := HIX
    obtain ⟨e, hx, hp, -⟩ := fnd_lt HO.out
    have HEN := Lib.hid (entF_some HO.out hx)
    have hkn : k < n := by rw [← HN.out]; exact (List.getElem?_eq_some_iff.1 hx).1
    have ki0 : (0 : Int) ≤ (k : Int) := by omega
    have ki1 : (k : Int) < (n : Int) := by omega
    obtain ⟨EA, hEA⟩ : ∃ A, b.eA = A := ⟨_, rfl⟩
    obtain ⟨bb, off, hA, hbl, hc, hin⟩ := (H.out.ents.ext HX0.out).at_ hx
    have HSE : Hid (EntSz e.ent) := Lib.hid (HSZ.out.ent e.ent (List.mem_map.2 ⟨e, List.mem_of_getElem? hx, rfl⟩))
    rw [hEA] at J5 hA
    subst hA
    have HRG : Hid (W0.rangeAt bb (off + k * 7) e.cells) := Lib.hid hc
    have HIN := Lib.hid hin
    clear hEA hc hin hx hbl
    go_enter Tryz.func18, Tryz.ntmps18
    go_wp2_with (with_reducible refine wpList_load_row rfl 31 (.tmp 2) rfl (w.heap.size) (by with_unfolding_all rfl) _ CB _ _ (two_fst' w _ _) Tryz.underlying31 rfl IB.out ?_)
    rw [HWH.out]
    with_reducible refine (HFI.out (k : Int) HF.out W0 (H.out.ext HX0.out)).mono ?_
    rintro r w1 ⟨rfl, hb1⟩
    have HZ1 := Lib.hid (hb1.blockAt HZ0.out)
    have HX1 := Lib.hid (HX0.out.trans hb1)
    have c5 : w1.cell? ⟨w.heap.size, 5, none⟩ = some (.slice (some ⟨bb, off, none⟩) n b.ec) := (cell_of_row _ _ 5 _ _ _ (hb1.blockAt HB0.out)).trans J5.out
    have HR1 := Lib.hid (hb1.range HRG.out)
    have HI1 := Lib.hid (HIN.out.ext hb1)
    clear hb1
    obtain ⟨CE, hce, hne, h1e, hke⟩ := e.packed
    have HC : Hid (w1.rangeAt bb (off + k * 7) CE.toList) := Lib.hid (by rw [← hke]; exact HR1.out)
    have IE := Lib.hid (infoEn hne)
    have K := Lib.hid (rentry_any e w1 HI1.out HSE.out)
    rw [hce] at K
    clear hce hne h1e hke hp
    go_wp2_with (with_reducible refine wpList_load_arr rfl 56 (.tmp 16) rfl bb (off + k * 7) (by with_unfolding_all rfl) CE _ HC.out Tryz.underlying56 rfl IE.out ?_)
    with_reducible refine K.out.mono ?_
    rintro r w2 ⟨⟨e', rfl, he1, he2, he3, he4⟩, hb2⟩
    obtain ⟨CF, hcf, hnf, h1f, hkf⟩ := e'.packed
    rw [hcf]
    have HZ2 := Lib.hid (hb2.blockAt HZ1.out)
    have HX2 := Lib.hid (HX1.out.trans hb2)
    have IF := Lib.hid (infoEn hnf)
    have OF := Lib.hid h1f
    have HCF := Lib.hid hcf
    have HE1 := Lib.hid he1
    have HE2 := Lib.hid he2
    have HE3 := Lib.hid he3
    have IZ : Hid ((#[.slice none 0 0, .int .i64 0, .int .i64 0, .slice none 0 0, .slice none 0 0, .slice none 0 0, .slice none 0 0] : Array Value).size = CF.size) := Lib.hid hnf.symm
    clear hb2 he1 he2 he3 he4 hcf hnf h1f hkf c5
    go_wp2_with (with_reducible refine wpList_store_row rfl 56 (.tmp 4) (.tmp 18) rfl (w.heap.size + 1) CF (by with_unfolding_all rfl) (by with_unfolding_all rfl) _ _ HZ2.out IF.out IZ.out OF.out ?_)
    refine bodyPost_ret (v := .tuple #[.agg CF, .bool true]) (results_ct Tryz.results18 _ _ (w.heap.size + 1) _ _ _ _ rfl (setRow_heap _ _ _ _ _ _ HZ2.out) Tryz.underlying56 rfl IF.out rfl) rfl ?_
    have hoff : e'.Off (w.heap.size + 1) := eEnt.frm HE3.out (by have := blk_lt HZ1.out; omega)
    exact ⟨⟨e', by rw [HEN.out, HCF.out]; rfl, by rw [HEN.out, HE1.out]; rfl, HE2.out.but hoff (But.setRow _ _ _)⟩, HX2.out.rowSet (by omega) _⟩
set_option maxRecDepth 100000 in
set_option maxHeartbeats 12800000 in
theorem bLast_any (b : BankL) (id : Int) (w : World) (h : b.In w) (hz : BankSz b.bank) :
    Calls Tryz.prog 19 #[b.agg, .int .i64 id] w fun r w' => RetFI (lastF b.bank id) r w' ∧ Ext w w' := by
  obtain ⟨CB, hcb, hnb, h1b, hkb⟩ := b.packed
  rw [hcb]
  have HFI := Lib.hid (fun v hv w h => bfind_any b id (v := v) hv w h)
  rw [hcb] at HFI
  obtain ⟨W0, hW0⟩ : ∃ W, (w.alloc (.cells CB 31)).alloc (.cells #[.int .i64 0, .int .i64 0, .int .i64 0, .string ⟨#[]⟩, .slice none 0 0, .slice none 0 0, .int .i64 0, .int .i64 0, .slice none 0 0, .int .i64 0, .string ⟨#[]⟩, .int .i64 0, .int .i64 0, .int .i64 0, .int .i64 0, .slice none 0 0, .int .i64 0] 39) = W := ⟨_, rfl⟩
  have HX0 : Hid (Ext w W0) := Lib.hid (by rw [← hW0]; exact ((Ext.refl _).alloc _).alloc _)
  have HB0 : Hid (W0.heap[w.heap.size]? = some (.cells CB 31 (0, 0))) := Lib.hid (by rw [← hW0]; exact two_fst' _ _ _)
  have HZ0 : Hid (W0.heap[w.heap.size + 1]? = some (.cells #[.int .i64 0, .int .i64 0, .int .i64 0, .string ⟨#[]⟩, .slice none 0 0, .slice none 0 0, .int .i64 0, .int .i64 0, .slice none 0 0, .int .i64 0, .string ⟨#[]⟩, .int .i64 0, .int .i64 0, .int .i64 0, .int .i64 0, .slice none 0 0, .int .i64 0] 39 (0, 0))) := Lib.hid (by rw [← hW0]; exact heap_new_at _ _ _ (by simp))
  have HWH := Lib.hid hW0
  have H := Lib.hid h
  have HSZ := Lib.hid hz
  have IB := Lib.hid (infoBk hnb)
  have j5 : CB[5]? = some (.slice b.eA b.ents.length b.ec) := by rw [← hkb]; rfl
  obtain ⟨n, hn⟩ : ∃ n, b.ents.length = n := ⟨_, rfl⟩
  rw [hn] at j5
  have h63 : n ≤ 9223372036854775807 := by have := h.ec; unfold maxLen at this; omega
  have J5 := Lib.hid j5
  have HN := Lib.hid hn
  obtain ⟨o, ho⟩ : ∃ o, fnd (b.ents.map (·.ent)) id = o := ⟨_, rfl⟩
  have HO := Lib.hid ho
  have HIX : Hid (ixV (fnd (b.ents.map (·.ent)) id) = ixV o) := Lib.hid (by rw [ho])
  clear hW0 h hz hnb h1b hkb hcb j5 hn ho
  cases o with
  | none =>
    obtain ⟨iv, hiv⟩ : ∃ v : Int, (-1 : Int) = v := ⟨_, rfl⟩
    have HF : Hid (ixV (fnd (b.ents.map (·.ent)) id) = -1) := HIX
    go_enter Tryz.func19, Tryz.ntmps19
    go_wp2_with (with_reducible refine wpList_load_row rfl 31 (.tmp 2) rfl (w.heap.size) (by with_unfolding_all rfl) _ CB _ _ (two_fst' w _ _) Tryz.underlying31 rfl IB.out ?_)
    rw [HWH.out]
    with_reducible refine (HFI.out (-1) HF.out W0 (H.out.ext HX0.out)).mono ?_
    rintro r w1 ⟨rfl, hb1⟩
    have HZ1 := Lib.hid (hb1.blockAt HZ0.out)
    have HX1 := Lib.hid (HX0.out.trans hb1)
    clear hb1
    have INZ : Hid ((Tryz.prog.info? 39).map (·.size) = some (#[.int .i64 0, .int .i64 0, .int .i64 0, .string ⟨#[]⟩, .slice none 0 0, .slice none 0 0, .int .i64 0, .int .i64 0, .slice none 0 0, .int .i64 0, .string ⟨#[]⟩, .int .i64 0, .int .i64 0, .int .i64 0, .int .i64 0, .slice none 0 0, .int .i64 0] : Array Value).size) := Lib.hid (infoItem rfl)
    go_wp2_with (with_reducible refine wpList_store_row rfl 39 (.tmp 4) (.tmp 13) rfl (w.heap.size + 1) #[.int .i64 0, .int .i64 0, .int .i64 0, .string ⟨#[]⟩, .slice none 0 0, .slice none 0 0, .int .i64 0, .int .i64 0, .slice none 0 0, .int .i64 0, .string ⟨#[]⟩, .int .i64 0, .int .i64 0, .int .i64 0, .int .i64 0, .slice none 0 0, .int .i64 0] (by with_unfolding_all rfl) (by with_unfolding_all rfl) _ _ HZ1.out INZ.out rfl (by simp [Value.oneCell']) ?_)
    refine bodyPost_ret (v := .tuple #[.agg #[.int .i64 0, .int .i64 0, .int .i64 0, .string ⟨#[]⟩, .slice none 0 0, .slice none 0 0, .int .i64 0, .int .i64 0, .slice none 0 0, .int .i64 0, .string ⟨#[]⟩, .int .i64 0, .int .i64 0, .int .i64 0, .int .i64 0, .slice none 0 0, .int .i64 0], .bool false]) (results_ct Tryz.results19 _ _ (w.heap.size + 1) _ _ _ _ rfl (setRow_heap _ _ _ _ _ _ HZ1.out) Tryz.underlying39 rfl INZ.out rfl) rfl ?_
    exact ⟨⟨(zItem, zLoc), by rw [lastF_none (entF_none HO.out)]; rfl, by rw [lastF_none (entF_none HO.out)]; rfl, zItem_in _⟩, HX1.out.rowSet (by omega) _⟩
  | some k =>
    have HF : Hid (ixV (fnd (b.ents.map (·.ent)) id) = (k : Int)) := HIX
    obtain ⟨e, hx, hp, -⟩ := fnd_lt HO.out
    have HEN := Lib.hid (entF_some HO.out hx)
    have hkn : k < n := by rw [← HN.out]; exact (List.getElem?_eq_some_iff.1 hx).1
    have ki0 : (0 : Int) ≤ (k : Int) := by omega
    have ki1 : (k : Int) < (n : Int) := by omega
    obtain ⟨EA, hEA⟩ : ∃ A, b.eA = A := ⟨_, rfl⟩
    obtain ⟨bb, off, hA, hbl, hc, hin⟩ := (H.out.ents.ext HX0.out).at_ hx
    have HSE : Hid (EntSz e.ent) := Lib.hid (HSZ.out.ent e.ent (List.mem_map.2 ⟨e, List.mem_of_getElem? hx, rfl⟩))
    rw [hEA] at J5 hA
    subst hA
    have HRG : Hid (W0.rangeAt bb (off + k * 7) e.cells) := Lib.hid hc
    have HIN := Lib.hid hin
    clear hEA hc hin hx hbl
    go_enter Tryz.func19, Tryz.ntmps19
    go_wp2_with (with_reducible refine wpList_load_row rfl 31 (.tmp 2) rfl (w.heap.size) (by with_unfolding_all rfl) _ CB _ _ (two_fst' w _ _) Tryz.underlying31 rfl IB.out ?_)
    rw [HWH.out]
    with_reducible refine (HFI.out (k : Int) HF.out W0 (H.out.ext HX0.out)).mono ?_
    rintro r w1 ⟨rfl, hb1⟩
    have HZ1 := Lib.hid (hb1.blockAt HZ0.out)
    have HX1 := Lib.hid (HX0.out.trans hb1)
    have c5 : w1.cell? ⟨w.heap.size, 5, none⟩ = some (.slice (some ⟨bb, off, none⟩) n b.ec) := (cell_of_row _ _ 5 _ _ _ (hb1.blockAt HB0.out)).trans J5.out
    have HR1 := Lib.hid (hb1.range HRG.out)
    have HI1 := Lib.hid (HIN.out.ext hb1)
    clear hb1
    obtain ⟨nv, hnv⟩ : ∃ n, e.vs.length = n := ⟨_, rfl⟩
    obtain ⟨m, rfl⟩ : ∃ m, nv = m + 1 := ⟨nv - 1, by omega⟩
    obtain ⟨x, hx⟩ : ∃ x, e.vs[m]? = some x := ⟨e.vs[m]'(by omega), List.getElem?_eq_getElem _⟩
    obtain ⟨bv, ov, hVA, hbl, hcv, hinv⟩ := HI1.out.vs.at_ hx
    have cv : w1.cell? ⟨bb, off + k * 7, none⟩ = some (.slice (some ⟨bv, ov, none⟩) (m + 1) e.vc) := by rw [← hVA, ← hnv]; exact HR1.out 0 _ rfl
    have hm63 : m + 1 ≤ 9223372036854775807 := by have := HI1.out.vc; unfold maxLen at this; omega
    have HLA := Lib.hid (lastF_some HEN.out hnv (by rw [Nat.add_sub_cancel]; exact hx))
    obtain ⟨CI, hci, hni, h1i, hki⟩ := itp x
    have HC : Hid (w1.rangeAt bv (ov + m * 17) CI.toList) := Lib.hid (by rw [← hki]; exact hcv)
    have II := Lib.hid (infoItem hni)
    have K := Lib.hid (bcopyItem_any x.1 x.2 w1 hinv (HSE.out.its x.1 (List.mem_map.2 ⟨x, List.mem_of_getElem? hx, rfl⟩)))
    rw [hci] at K
    clear hci hni h1i hki hx hnv hVA hbl hcv hinv hp
    go_wp2_with (with_reducible refine wpList_load_arr rfl 39 (.tmp 24) rfl bv (ov + m * 17) (by with_unfolding_all rfl) CI _ HC.out Tryz.underlying39 rfl II.out ?_)
    with_reducible refine K.out.mono ?_
    rintro r w2 ⟨⟨L, rfl, he2, he3⟩, hb2⟩
    obtain ⟨CF, hcf, hnf, h1f, hkf⟩ := itp (x.1, L)
    dsimp only at hcf
    rw [hcf]
    have HZ2 := Lib.hid (hb2.blockAt HZ1.out)
    have HX2 := Lib.hid (HX1.out.trans hb2)
    have IF := Lib.hid (infoItem hnf)
    have OF := Lib.hid h1f
    have HCF := Lib.hid hcf
    have HE2 := Lib.hid he2
    have HE3 := Lib.hid he3
    have IZ : Hid ((#[.int .i64 0, .int .i64 0, .int .i64 0, .string ⟨#[]⟩, .slice none 0 0, .slice none 0 0, .int .i64 0, .int .i64 0, .slice none 0 0, .int .i64 0, .string ⟨#[]⟩, .int .i64 0, .int .i64 0, .int .i64 0, .int .i64 0, .slice none 0 0, .int .i64 0] : Array Value).size = CF.size) := Lib.hid hnf.symm
    clear hb2 he2 he3 hcf hnf h1f hkf c5 cv
    go_wp2_with (with_reducible refine wpList_store_row rfl 39 (.tmp 4) (.tmp 26) rfl (w.heap.size + 1) CF (by with_unfolding_all rfl) (by with_unfolding_all rfl) _ _ HZ2.out IF.out IZ.out OF.out ?_)
    refine bodyPost_ret (v := .tuple #[.agg CF, .bool true]) (results_ct Tryz.results19 _ _ (w.heap.size + 1) _ _ _ _ rfl (setRow_heap _ _ _ _ _ _ HZ2.out) Tryz.underlying39 rfl IF.out rfl) rfl ?_
    have hoff : ItOff (w.heap.size + 1) (x.1, L) := eIt.frm HE3.out (by have := blk_lt HZ1.out; omega)
    exact ⟨⟨(x.1, L), by rw [HLA.out]; show _ = Ending.returned (.tuple #[It.agg x.1 L, _]); rw [HCF.out]; rfl, by rw [HLA.out]; rfl, eIt.but HE2.out hoff (But.setRow _ _ _)⟩, HX2.out.rowSet (by omega) _⟩
set_option maxRecDepth 100000 in
set_option maxHeartbeats 12800000 in
theorem rLast_any (b : BankL) (id : Int) (w : World) (h : b.In w) (hz : BankSz b.bank) :
    Calls Tryz.prog 20 #[b.agg, .int .i64 id] w fun r w' => RetFI (lastF b.bank id) r w' ∧ Ext w w' := by
  obtain ⟨CB, hcb, hnb, h1b, hkb⟩ := b.packed
  rw [hcb]
  have HFI := Lib.hid (fun v hv w h => rat_any b id (v := v) hv w h)
  rw [hcb] at HFI
  obtain ⟨W0, hW0⟩ : ∃ W, (w.alloc (.cells CB 31)).alloc (.cells #[.int .i64 0, .int .i64 0, .int .i64 0, .string ⟨#[]⟩, .slice none 0 0, .slice none 0 0, .int .i64 0, .int .i64 0, .slice none 0 0, .int .i64 0, .string ⟨#[]⟩, .int .i64 0, .int .i64 0, .int .i64 0, .int .i64 0, .slice none 0 0, .int .i64 0] 39) = W := ⟨_, rfl⟩
  have HX0 : Hid (Ext w W0) := Lib.hid (by rw [← hW0]; exact ((Ext.refl _).alloc _).alloc _)
  have HB0 : Hid (W0.heap[w.heap.size]? = some (.cells CB 31 (0, 0))) := Lib.hid (by rw [← hW0]; exact two_fst' _ _ _)
  have HZ0 : Hid (W0.heap[w.heap.size + 1]? = some (.cells #[.int .i64 0, .int .i64 0, .int .i64 0, .string ⟨#[]⟩, .slice none 0 0, .slice none 0 0, .int .i64 0, .int .i64 0, .slice none 0 0, .int .i64 0, .string ⟨#[]⟩, .int .i64 0, .int .i64 0, .int .i64 0, .int .i64 0, .slice none 0 0, .int .i64 0] 39 (0, 0))) := Lib.hid (by rw [← hW0]; exact heap_new_at _ _ _ (by simp))
  have HWH := Lib.hid hW0
  have H := Lib.hid h
  have HSZ := Lib.hid hz
  have IB := Lib.hid (infoBk hnb)
  have j5 : CB[5]? = some (.slice b.eA b.ents.length b.ec) := by rw [← hkb]; rfl
  obtain ⟨n, hn⟩ : ∃ n, b.ents.length = n := ⟨_, rfl⟩
  rw [hn] at j5
  have h63 : n ≤ 9223372036854775807 := by have := h.ec; unfold maxLen at this; omega
  have J5 := Lib.hid j5
  have HN := Lib.hid hn
  obtain ⟨o, ho⟩ : ∃ o, fnd (b.ents.map (·.ent)) id = o := ⟨_, rfl⟩
  have HO := Lib.hid ho
  have HIX : Hid (ixV (fnd (b.ents.map (·.ent)) id) = ixV o) := Lib.hid (by rw [ho])
  clear hW0 h hz hnb h1b hkb hcb j5 hn ho
  cases o with
  | none =>
    obtain ⟨iv, hiv⟩ : ∃ v : Int, (-1 : Int) = v := ⟨_, rfl⟩
    have HF : Hid (ixV (fnd (b.ents.map (·.ent)) id) = -1) := HIX
    go_enter Tryz.func20, Tryz.ntmps20
    go_wp2_with (with_reducible refine wpList_load_row rfl 31 (.tmp 2) rfl (w.heap.size) (by with_unfolding_all rfl) _ CB _ _ (two_fst' w _ _) Tryz.underlying31 rfl IB.out ?_)
    rw [HWH.out]
    with_reducible refine (HFI.out (-1) HF.out W0 (H.out.ext HX0.out)).mono ?_
    rintro r w1 ⟨rfl, hb1⟩
    have HZ1 := Lib.hid (hb1.blockAt HZ0.out)
    have HX1 := Lib.hid (HX0.out.trans hb1)
    clear hb1
    have INZ : Hid ((Tryz.prog.info? 39).map (·.size) = some (#[.int .i64 0, .int .i64 0, .int .i64 0, .string ⟨#[]⟩, .slice none 0 0, .slice none 0 0, .int .i64 0, .int .i64 0, .slice none 0 0, .int .i64 0, .string ⟨#[]⟩, .int .i64 0, .int .i64 0, .int .i64 0, .int .i64 0, .slice none 0 0, .int .i64 0] : Array Value).size) := Lib.hid (infoItem rfl)
    go_wp2_with (with_reducible refine wpList_store_row rfl 39 (.tmp 4) (.tmp 13) rfl (w.heap.size + 1) #[.int .i64 0, .int .i64 0, .int .i64 0, .string ⟨#[]⟩, .slice none 0 0, .slice none 0 0, .int .i64 0, .int .i64 0, .slice none 0 0, .int .i64 0, .string ⟨#[]⟩, .int .i64 0, .int .i64 0, .int .i64 0, .int .i64 0, .slice none 0 0, .int .i64 0] (by with_unfolding_all rfl) (by with_unfolding_all rfl) _ _ HZ1.out INZ.out rfl (by simp [Value.oneCell']) ?_)
    refine bodyPost_ret (v := .tuple #[.agg #[.int .i64 0, .int .i64 0, .int .i64 0, .string ⟨#[]⟩, .slice none 0 0, .slice none 0 0, .int .i64 0, .int .i64 0, .slice none 0 0, .int .i64 0, .string ⟨#[]⟩, .int .i64 0, .int .i64 0, .int .i64 0, .int .i64 0, .slice none 0 0, .int .i64 0], .bool false]) (results_ct Tryz.results20 _ _ (w.heap.size + 1) _ _ _ _ rfl (setRow_heap _ _ _ _ _ _ HZ1.out) Tryz.underlying39 rfl INZ.out rfl) rfl ?_
    exact ⟨⟨(zItem, zLoc), by rw [lastF_none (entF_none HO.out)]; rfl, by rw [lastF_none (entF_none HO.out)]; rfl, zItem_in _⟩, HX1.out.rowSet (by omega) _⟩
  | some k =>
    have HF : Hid (ixV (fnd (b.ents.map (·.ent)) id) = (k : Int)) := HIX
    obtain ⟨e, hx, hp, -⟩ := fnd_lt HO.out
    have HEN := Lib.hid (entF_some HO.out hx)
    have hkn : k < n := by rw [← HN.out]; exact (List.getElem?_eq_some_iff.1 hx).1
    have ki0 : (0 : Int) ≤ (k : Int) := by omega
    have ki1 : (k : Int) < (n : Int) := by omega
    obtain ⟨EA, hEA⟩ : ∃ A, b.eA = A := ⟨_, rfl⟩
    obtain ⟨bb, off, hA, hbl, hc, hin⟩ := (H.out.ents.ext HX0.out).at_ hx
    have HSE : Hid (EntSz e.ent) := Lib.hid (HSZ.out.ent e.ent (List.mem_map.2 ⟨e, List.mem_of_getElem? hx, rfl⟩))
    rw [hEA] at J5 hA
    subst hA
    have HRG : Hid (W0.rangeAt bb (off + k * 7) e.cells) := Lib.hid hc
    have HIN := Lib.hid hin
    clear hEA hc hin hx hbl
    go_enter Tryz.func20, Tryz.ntmps20
    go_wp2_with (with_reducible refine wpList_load_row rfl 31 (.tmp 2) rfl (w.heap.size) (by with_unfolding_all rfl) _ CB _ _ (two_fst' w _ _) Tryz.underlying31 rfl IB.out ?_)
    rw [HWH.out]
    with_reducible refine (HFI.out (k : Int) HF.out W0 (H.out.ext HX0.out)).mono ?_
    rintro r w1 ⟨rfl, hb1⟩
    have HZ1 := Lib.hid (hb1.blockAt HZ0.out)
    have HX1 := Lib.hid (HX0.out.trans hb1)
    have c5 : w1.cell? ⟨w.heap.size, 5, none⟩ = some (.slice (some ⟨bb, off, none⟩) n b.ec) := (cell_of_row _ _ 5 _ _ _ (hb1.blockAt HB0.out)).trans J5.out
    have HR1 := Lib.hid (hb1.range HRG.out)
    have HI1 := Lib.hid (HIN.out.ext hb1)
    clear hb1
    obtain ⟨nv, hnv⟩ : ∃ n, e.vs.length = n := ⟨_, rfl⟩
    obtain ⟨m, rfl⟩ : ∃ m, nv = m + 1 := ⟨nv - 1, by omega⟩
    obtain ⟨x, hx⟩ : ∃ x, e.vs[m]? = some x := ⟨e.vs[m]'(by omega), List.getElem?_eq_getElem _⟩
    obtain ⟨bv, ov, hVA, hbl, hcv, hinv⟩ := HI1.out.vs.at_ hx
    have cv : w1.cell? ⟨bb, off + k * 7, none⟩ = some (.slice (some ⟨bv, ov, none⟩) (m + 1) e.vc) := by rw [← hVA, ← hnv]; exact HR1.out 0 _ rfl
    have hm63 : m + 1 ≤ 9223372036854775807 := by have := HI1.out.vc; unfold maxLen at this; omega
    have HLA := Lib.hid (lastF_some HEN.out hnv (by rw [Nat.add_sub_cancel]; exact hx))
    obtain ⟨CI, hci, hni, h1i, hki⟩ := itp x
    have HC : Hid (w1.rangeAt bv (ov + m * 17) CI.toList) := Lib.hid (by rw [← hki]; exact hcv)
    have II := Lib.hid (infoItem hni)
    have K := Lib.hid (ritem_any x.1 x.2 w1 hinv (HSE.out.its x.1 (List.mem_map.2 ⟨x, List.mem_of_getElem? hx, rfl⟩)))
    rw [hci] at K
    clear hci hni h1i hki hx hnv hVA hbl hcv hinv hp
    go_wp2_with (with_reducible refine wpList_load_arr rfl 39 (.tmp 24) rfl bv (ov + m * 17) (by with_unfolding_all rfl) CI _ HC.out Tryz.underlying39 rfl II.out ?_)
    with_reducible refine K.out.mono ?_
    rintro r w2 ⟨⟨L, rfl, he2, he3⟩, hb2⟩
    obtain ⟨CF, hcf, hnf, h1f, hkf⟩ := itp (x.1, L)
    dsimp only at hcf
    rw [hcf]
    have HZ2 := Lib.hid (hb2.blockAt HZ1.out)
    have HX2 := Lib.hid (HX1.out.trans hb2)
    have IF := Lib.hid (infoItem hnf)
    have OF := Lib.hid h1f
    have HCF := Lib.hid hcf
    have HE2 := Lib.hid he2
    have HE3 := Lib.hid he3
    have IZ : Hid ((#[.int .i64 0, .int .i64 0, .int .i64 0, .string ⟨#[]⟩, .slice none 0 0, .slice none 0 0, .int .i64 0, .int .i64 0, .slice none 0 0, .int .i64 0, .string ⟨#[]⟩, .int .i64 0, .int .i64 0, .int .i64 0, .int .i64 0, .slice none 0 0, .int .i64 0] : Array Value).size = CF.size) := Lib.hid hnf.symm
    clear hb2 he2 he3 hcf hnf h1f hkf c5 cv
    go_wp2_with (with_reducible refine wpList_store_row rfl 39 (.tmp 4) (.tmp 26) rfl (w.heap.size + 1) CF (by with_unfolding_all rfl) (by with_unfolding_all rfl) _ _ HZ2.out IF.out IZ.out OF.out ?_)
    refine bodyPost_ret (v := .tuple #[.agg CF, .bool true]) (results_ct Tryz.results20 _ _ (w.heap.size + 1) _ _ _ _ rfl (setRow_heap _ _ _ _ _ _ HZ2.out) Tryz.underlying39 rfl IF.out rfl) rfl ?_
    have hoff : ItOff (w.heap.size + 1) (x.1, L) := eIt.frm HE3.out (by have := blk_lt HZ1.out; omega)
    exact ⟨⟨(x.1, L), by rw [HLA.out]; show _ = Ending.returned (.tuple #[It.agg x.1 L, _]); rw [HCF.out]; rfl, by rw [HLA.out]; rfl, eIt.but HE2.out hoff (But.setRow _ _ _)⟩, HX2.out.rowSet (by omega) _⟩
end Bk
end Go.Proofs.YtfnmgcblhebdbaaGreatDoor
