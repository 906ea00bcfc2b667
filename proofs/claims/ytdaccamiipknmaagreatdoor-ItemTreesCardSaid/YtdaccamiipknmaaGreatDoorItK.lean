/- codec.copies, List, Int and String; the same of the reference; lists of numbers and texts as nodes: contracts. Conditions: those of each theorem. -/
import Derived.Test.YtdaccamiipknmaaGreatDoorItN
namespace Go.Proofs.YtdaccamiipknmaaGreatDoor
open Go.RowKit

theorem Tryz.infoNd : (Tryz.prog.info? 34).map (fun i => (i.zero, i.size, i.bytes)) = some (some (.agg #[.int .i64 0, .int .i64 0, .int .i64 0, .string ⟨#[]⟩, .slice none 0 0]), 5, 64) := by kernel_rfl
/-- make of a slice of nodes. -/
theorem make_nd (n : Nat) (hn : n ≤ 1000000) (w : World) :
    (Instr.makeSlice 32 (.int .i64 (n : Int)) (.int .i64 (n : Int))).run Tryz.prog w = .ok (.slice (some ⟨w.heap.size, 0, none⟩) n n) (w.alloc (.cells (madeCells #[.int .i64 0, .int .i64 0, .int .i64 0, .string ⟨#[]⟩, .slice none 0 0] (n * 5)) 34)) := by
  obtain ⟨i, hi, hzz⟩ := Option.map_eq_some_iff.1 Tryz.infoNd
  simp only [Prod.mk.injEq] at hzz
  obtain ⟨hz, hs, hb⟩ := hzz
  have hr := run_make (P := Tryz.prog) w 32 34 i _ Tryz.underlying32 hi hz .i64 .i64 n n (by omega) (Int.le_refl _) (by rw [hb]; omega) (by omega)
  simp only [Int.toNat_natCast, hs] at hr
  exact hr
theorem rowN_made (B d : Nat) (w : World) (n : Nat) (ks : List Nd) : RowN B d (w.alloc (.cells (madeCells #[.int .i64 0, .int .i64 0, .int .i64 0, .string ⟨#[]⟩, .slice none 0 0] (n * 5)) 34)) w.heap.size n 0 ks := by
  have h := World.rowIs_alloc w (madeCells #[.int .i64 0, .int .i64 0, .int .i64 0, .string ⟨#[]⟩, .slice none 0 0] (n * 5)) 34 (fun i => (madeCells #[.int .i64 0, .int .i64 0, .int .i64 0, .string ⟨#[]⟩, .slice none 0 0] (n * 5))[i]!) (fun i hi => by rw [getElem!_pos _ i hi]; exact Array.getElem?_eq_getElem hi)
  rw [size_madeCells] at h
  exact RowN.start h ks

set_option maxRecDepth 100000 in
set_option maxHeartbeats 1600000 in
theorem int_any (tag n : Int) (w : World) : Calls Tryz.prog 33 #[.int .i64 tag, .int .i64 n] w fun e w' => e = .returned (nda (.mk tag 1 n ⟨#[]⟩ []) (none, 0)) ∧ Ext w w' := by
  go_enter Tryz.func33, Tryz.ntmps33
  go_wp2
  refine bodyPost_ret (v := .agg #[.int .i64 tag, .int .i64 1, .int .i64 n, .string ⟨#[]⟩, .slice none 0 0]) (by simp [results, Tryz.results33, go_sem]) rfl ⟨rfl, ?_⟩
  with_reducible exact (Ext.refl _).alloc _
set_option maxRecDepth 100000 in
set_option maxHeartbeats 1600000 in
theorem string_any (tag : Int) (s : ByteArray) (w : World) : Calls Tryz.prog 34 #[.int .i64 tag, .string s] w fun e w' => e = .returned (nda (.mk tag 2 0 s []) (none, 0)) ∧ Ext w w' := by
  go_enter Tryz.func34, Tryz.ntmps34
  go_wp2
  refine bodyPost_ret (v := .agg #[.int .i64 tag, .int .i64 2, .int .i64 0, .string s, .slice none 0 0]) (by simp [results, Tryz.results34, go_sem]) rfl ⟨rfl, ?_⟩
  with_reducible exact (Ext.refl _).alloc _

/-- The post of a function that returns a list of children. -/
def RetKids (B lo d : Nat) (ks : List Nd) (e : Ending) (w' : World) : Prop := ∃ M : Option Addr × Nat, e = .returned (.slice M.1 ks.length M.2) ∧ KidsAt B lo d w' M ks
/-- A node is written over the k-th place. -/
theorem RowN.put5' {B d : Nat} {w : World} {g n k : Nat} {ks : List Nd} (h : RowN B d w g n k ks) (hk : k < n) (x : Nd) (M : Option Addr × Nat) :
    RowN B d (((((w.setCell ⟨g, k * 5, none⟩ (.int .i64 x.tag)).setCell ⟨g, k * 5 + 1, none⟩ (.int .i64 x.kind)).setCell ⟨g, k * 5 + 2, none⟩ (.int .i64 x.n)).setCell ⟨g, k * 5 + 3, none⟩ (.string x.s)).setCell ⟨g, k * 5 + 4, none⟩ (.slice M.1 x.kids.length M.2)) g n k ks ∧
    ∀ j v, (ndc x M)[j]? = some v → (((((w.setCell ⟨g, k * 5, none⟩ (.int .i64 x.tag)).setCell ⟨g, k * 5 + 1, none⟩ (.int .i64 x.kind)).setCell ⟨g, k * 5 + 2, none⟩ (.int .i64 x.n)).setCell ⟨g, k * 5 + 3, none⟩ (.string x.s)).setCell ⟨g, k * 5 + 4, none⟩ (.slice M.1 x.kids.length M.2)).cell? ⟨g, k * 5 + j, none⟩ = some v := by
  have h1 := h.put (o := k * 5) (by omega) (.int .i64 x.tag)
  have h2 := h1.put (o := k * 5 + 1) (by omega) (.int .i64 x.kind)
  have h3 := h2.put (o := k * 5 + 2) (by omega) (.int .i64 x.n)
  have h4 := h3.put (o := k * 5 + 3) (by omega) (.string x.s)
  have h5 := h4.put (o := k * 5 + 4) (by omega) (.slice M.1 x.kids.length M.2)
  refine ⟨h5, fun j v hv => ?_⟩
  obtain ⟨⟨f, hf⟩, _⟩ := h
  have r1 := hf.set (k * 5) (.int .i64 x.tag)
  have r2 := r1.set (k * 5 + 1) (.int .i64 x.kind)
  have r3 := r2.set (k * 5 + 2) (.int .i64 x.n)
  have r4 := r3.set (k * 5 + 3) (.string x.s)
  have r5 := r4.set (k * 5 + 4) (.slice M.1 x.kids.length M.2)
  have hj : j < 5 := by
    rcases Nat.lt_or_ge j (ndc x M).length with g | g
    · exact g
    · rw [List.getElem?_eq_none g] at hv; cases hv
  rw [r5.cell (show k * 5 + j < n * 5 by omega)]
  rw [← hv]
  rcases (show j = 0 ∨ j = 1 ∨ j = 2 ∨ j = 3 ∨ j = 4 by omega) with rfl | rfl | rfl | rfl | rfl
  · rw [if_neg (by omega), if_neg (by omega), if_neg (by omega), if_neg (by omega), if_pos (by omega)]; rfl
  · rw [if_neg (by omega), if_neg (by omega), if_neg (by omega), if_pos (by omega)]; rfl
  · rw [if_neg (by omega), if_neg (by omega), if_pos (by omega)]; rfl
  · rw [if_neg (by omega), if_pos (by omega)]; rfl
  · rw [if_pos (by omega)]; rfl
/-- A node is written over the k-th place, then a block is laid. -/
theorem RowN.put5 {B d : Nat} {w : World} {g n k : Nat} {ks : List Nd} (h : RowN B d w g n k ks) (hk : k < n) (x : Nd) (M : Option Addr × Nat) (Z : Obj) :
    RowN B d ((((((w.setCell ⟨g, k * 5, none⟩ (.int .i64 x.tag)).setCell ⟨g, k * 5 + 1, none⟩ (.int .i64 x.kind)).setCell ⟨g, k * 5 + 2, none⟩ (.int .i64 x.n)).setCell ⟨g, k * 5 + 3, none⟩ (.string x.s)).setCell ⟨g, k * 5 + 4, none⟩ (.slice M.1 x.kids.length M.2)).alloc Z) g n k ks ∧
    ∀ j v, (ndc x M)[j]? = some v → ((((((w.setCell ⟨g, k * 5, none⟩ (.int .i64 x.tag)).setCell ⟨g, k * 5 + 1, none⟩ (.int .i64 x.kind)).setCell ⟨g, k * 5 + 2, none⟩ (.int .i64 x.n)).setCell ⟨g, k * 5 + 3, none⟩ (.string x.s)).setCell ⟨g, k * 5 + 4, none⟩ (.slice M.1 x.kids.length M.2)).alloc Z).cell? ⟨g, k * 5 + j, none⟩ = some v := by
  obtain ⟨h1, h2⟩ := h.put5' hk x M
  exact ⟨h1.ext ((Ext.refl _).alloc _), fun j v hv => ((Ext.refl _).alloc Z).keep (h2 j v hv)⟩
/-- A leaf is written over the k-th place. -/
theorem RowN.leaf {B d : Nat} {w : World} {g n k : Nat} {ks : List Nd} (h : RowN B d w g n k ks) (hk : k < n) {t q m : Int} {s : ByteArray} (hx : ks[k]? = some (.mk t q m s [])) :
    RowN B d (((((w.setCell ⟨g, k * 5, none⟩ (.int .i64 t)).setCell ⟨g, k * 5 + 1, none⟩ (.int .i64 q)).setCell ⟨g, k * 5 + 2, none⟩ (.int .i64 m)).setCell ⟨g, k * 5 + 3, none⟩ (.string s)).setCell ⟨g, k * 5 + 4, none⟩ (.slice none 0 0)) g n (k + 1) ks := by
  obtain ⟨h1, h2⟩ := h.put5' hk (.mk t q m s []) (none, 0)
  exact h1.next hx h2 (KidsAt.nil _ _ _ _ _)
/-- The post of a function that returns a node. -/
def RetNd (B lo d : Nat) (x : Nd) (e : Ending) (w' : World) : Prop := ∃ M : Option Addr × Nat, e = .returned (nda x M) ∧ KidsAt B lo d w' M x.kids
theorem ext_put5 {w wr : World} (he : Ext w wr) (o0 o1 o2 o3 o4 : Nat) (v0 v1 v2 v3 v4 : Value) (Z : Obj) :
    Ext w ((((((wr.setCell ⟨w.heap.size, o0, none⟩ v0).setCell ⟨w.heap.size, o1, none⟩ v1).setCell ⟨w.heap.size, o2, none⟩ v2).setCell ⟨w.heap.size, o3, none⟩ v3).setCell ⟨w.heap.size, o4, none⟩ v4).alloc Z) :=
  (((((he.setCell (Nat.le_refl _) _).setCell (Nat.le_refl _) _).setCell (Nat.le_refl _) _).setCell (Nat.le_refl _) _).setCell (Nat.le_refl _) _).alloc _
theorem RowN.fin {B d : Nat} {W w3 : World} {g n k : Nat} {ks : List Nd} (h : RowN B d W g n k ks) (he : Ext W w3) {x : Nd} (hx : ks[k]? = some x) {M M' : Option Addr × Nat} (hc : ∀ j v, (ndc x M)[j]? = some v → W.cell? ⟨g, k * 5 + j, none⟩ = some v)
    (hM : KidsAt B W.heap.size d w3 M' x.kids) : RowN B d (w3.setCell ⟨g, k * 5 + 4, none⟩ (.slice M'.1 x.kids.length M'.2)) g n (k + 1) ks := by
  have hlt := h.lt
  refine RowN.next ((h.ext he).put (by omega) _) hx (fun j v hv => ?_) ((hM.lower (by omega)).setCell (by simp))
  have hj : j < 5 := by
    rcases Nat.lt_or_ge j (ndc x M').length with g | g
    · exact g
    · rw [List.getElem?_eq_none g] at hv; cases hv
  by_cases h4 : j = 4
  · subst h4
    have h0 := he.keep (hc 4 _ rfl)
    rw [World.cell?_setCell_same' _ _ _ (by rw [h0]; rfl)]
    exact hv
  · rw [World.cell?_setCell_other _ _ _ _ (by simp <;> omega)]
    refine he.keep (hc j v ?_)
    rcases (show j = 0 ∨ j = 1 ∨ j = 2 ∨ j = 3 by omega) with rfl | rfl | rfl | rfl
    all_goals exact hv
set_option maxRecDepth 100000 in
set_option maxHeartbeats 6400000 in
theorem copies_any (B : Nat) (hB : B ≤ 1000000) : ∀ (d : Nat) (L : Option Addr × Nat) (ks : List Nd) (w : World), KidsAt B 0 d w L ks →
    Calls Tryz.prog 65 #[.slice L.1 ks.length L.2] w fun e w' => RetKids B w.heap.size d ks e w' ∧ Ext w w' := by
  intro d
  induction d with
  | zero =>
    rintro ⟨A, c⟩ ks w ⟨rfl, _⟩
    dsimp only [List.length_nil]
    go_enter Tryz.func65, Tryz.ntmps65
    go_wp2
    go_ret
    exact ⟨⟨((none, 0) : Option Addr × Nat), rfl, KidsAt.nil _ _ _ _ _⟩, Ext.refl _⟩
  | succ d ih =>
    rintro ⟨A, c⟩ ks w h
    have HIH := Lib.hid ih
    clear ih
    have H := Lib.hid h
    have hfew := h.few
    clear h
    dsimp only
    rcases Nat.eq_zero_or_pos ks.length with h0 | h0
    · obtain rfl := List.eq_nil_of_length_eq_zero h0
      clear h0
      dsimp only [List.length_nil]
      go_enter Tryz.func65, Tryz.ntmps65
      go_wp2
      go_ret
      exact ⟨⟨((none, 0) : Option Addr × Nat), rfl, KidsAt.nil _ _ _ _ _⟩, Ext.refl _⟩
    · obtain ⟨n, hn⟩ : ∃ n, ks.length = n := ⟨_, rfl⟩
      rw [hn] at h0 hfew ⊢
      have HN := Lib.hid hn
      clear hn
      have hmk := make_nd n (by omega)
      have e0 : ((n : Int) == 0) = false := by rw [beq_eq_false_iff_ne]; omega
      go_enter Tryz.func65, Tryz.ntmps65
      go_wp2
      clear hmk
      go_loopw [14] (fun i wr => ∃ k : Nat, k ≤ n ∧ i = .int .i64 k ∧ Hid (RowN B d wr w.heap.size n k ks) ∧ Ext w wr) (fun i _ => n - (intOf i).toNat)
      case atStart => exact ⟨0, by omega, rfl, Lib.hid (rowN_made _ _ _ _ _), (Ext.refl _).alloc _⟩
      case round =>
        obtain ⟨k, hk, rfl, HR, he⟩ := hrel
        by_cases hlt : k < n
        · obtain ⟨x, hx⟩ : ∃ x, ks[k]? = some x := ⟨ks[k]'(by rw [HN.out]; exact hlt), List.getElem?_eq_getElem _⟩
          obtain ⟨b, off, M, hA, hb0, c0', c1', c2', c3', c4', hKM⟩ := H.out.at_ hx
          have c0 := he.keep c0'
          have c1 := he.keep c1'
          have c2 := he.keep c2'
          have c3 := he.keep c3'
          have c4 := he.keep c4'
          have hb : b < wr.heap.size := Nat.lt_of_lt_of_le hb0 he.size
          clear c0' c1' c2' c3' c4' hb0
          dsimp only at hA
          subst hA
          have HX := Lib.hid hx
          have HKM := Lib.hid hKM
          clear hx hKM
          obtain ⟨v0, v1, v2, v3, v4, ⟨g0, g1, g2, g3, g4⟩, hfr⟩ := HR.out.cells hlt
          have hg := HR.out.lt
          have hfr0 := hfr (k * 5)
          have hfr1 := hfr (k * 5 + 1)
          have hfr2 := hfr (k * 5 + 1 + 1)
          have hfr3 := hfr (k * 5 + 1 + 1 + 1)
          have hfr4 := hfr (k * 5 + 1 + 1 + 1 + 1)
          clear hfr
          have ki0 : (0 : Int) ≤ (k : Int) := by omega
          have ki1 : (k : Int) < (n : Int) := by omega
          obtain ⟨HR5, HC5⟩ := RowN.put5 HR.out hlt x M (.cells #[.int .i64 x.tag, .int .i64 x.kind, .int .i64 x.n, .string x.s, .slice M.1 x.kids.length M.2] 34)
          have H5 := Lib.hid HR5
          have HCS := Lib.hid HC5
          have X5 := Lib.hid (ext_put5 he (k * 5) (k * 5 + 1) (k * 5 + 2) (k * 5 + 3) (k * 5 + 4) (.int .i64 x.tag) (.int .i64 x.kind) (.int .i64 x.n) (.string x.s) (.slice M.1 x.kids.length M.2) (.cells #[.int .i64 x.tag, .int .i64 x.kind, .int .i64 x.n, .string x.s, .slice M.1 x.kids.length M.2] 34))
          clear HR5 HC5
          go_wp2_with fail
          with_reducible refine (HIH.out M x.kids _ (HKM.out.ext X5.out)).mono ?_
          rintro e w3 ⟨⟨M', rfl, hM'⟩, hb3⟩
          have q4 : w3.cell? ⟨w.heap.size, k * 5 + 4, none⟩ = some (.slice M.1 x.kids.length M.2) := hb3.keep (HCS.out 4 _ rfl)
          have q4f : w3.frozen? ⟨w.heap.size, k * 5 + 4, none⟩ = false := by
            rw [Below.frozen hb3 (p := ⟨w.heap.size, k * 5 + 4, none⟩) H5.out.lt]
            obtain ⟨⟨f, hf⟩, _⟩ := H5.out
            exact hf.frozen _
          have HF := Lib.hid (RowN.fin H5.out hb3 HX.out HCS.out hM')
          have X3 := Lib.hid (X5.out.trans hb3)
          clear hM' hb3 H5 HCS
          go_wp2
          go_roundw
          case rel => exact ⟨k + 1, by omega, by go_num, HF, X3.out.setCell (Nat.le_refl _) _⟩
          case measure => simp [intOf]; omega
        · obtain rfl : k = n := by omega
          go_wp2
          go_ret
          exact ⟨⟨(some ⟨w.heap.size, 0, none⟩, k), by rw [HN.out]; rfl, by have := RowN.done (lo := w.heap.size) (by rw [HN.out]; exact HR.out) HN.out hfew (by unfold maxLen; omega) (Nat.le_refl _); exact this⟩, he⟩
theorem ext_cells5 {w wr : World} (he : Ext w wr) (o0 o1 o2 o3 o4 : Nat) (v0 v1 v2 v3 v4 : Value) (g : Nat) (hg : w.heap.size ≤ g) :
    Ext w (((((wr.setCell ⟨g, o0, none⟩ v0).setCell ⟨g, o1, none⟩ v1).setCell ⟨g, o2, none⟩ v2).setCell ⟨g, o3, none⟩ v3).setCell ⟨g, o4, none⟩ v4) :=
  ((((he.setCell hg _).setCell hg _).setCell hg _).setCell hg _).setCell hg _
theorem kids_cells5 {B lo d : Nat} {w : World} {L : Option Addr × Nat} {ks : List Nd} (h : KidsAt B lo d w L ks) (o0 o1 o2 o3 o4 : Nat) (v0 v1 v2 v3 v4 : Value) {g : Nat} (hg : g < lo) :
    KidsAt B lo d (((((w.setCell ⟨g, o0, none⟩ v0).setCell ⟨g, o1, none⟩ v1).setCell ⟨g, o2, none⟩ v2).setCell ⟨g, o3, none⟩ v3).setCell ⟨g, o4, none⟩ v4) L ks :=
  ((((h.setCell hg).setCell hg).setCell hg).setCell hg).setCell hg
/-- A new block of five cells, seen later. -/
theorem block5 {w w' : World} {c0 c1 c2 c3 c4 : Value} {T : TypeId} (he : Ext (w.alloc (.cells #[c0, c1, c2, c3, c4] T)) w') :
    (w'.cell? ⟨w.heap.size, 0, none⟩ = some c0 ∧ w'.cell? ⟨w.heap.size, 1, none⟩ = some c1 ∧ w'.cell? ⟨w.heap.size, 2, none⟩ = some c2 ∧ w'.cell? ⟨w.heap.size, 3, none⟩ = some c3 ∧ w'.cell? ⟨w.heap.size, 4, none⟩ = some c4) ∧ (∀ i, w'.frozen? ⟨w.heap.size, i, none⟩ = false) ∧ w.heap.size < w'.heap.size := by
  have hb : w'.heap[w.heap.size]? = some (.cells #[c0, c1, c2, c3, c4] T (0, 0)) := he.blockAt (heap_alloc_new w _)
  refine ⟨⟨he.keep ?_, he.keep ?_, he.keep ?_, he.keep ?_, he.keep ?_⟩, fun i => by simp [World.frozen?, hb], ?_⟩
  · rw [World.cell?_alloc_new]; rfl
  · rw [World.cell?_alloc_new]; rfl
  · rw [World.cell?_alloc_new]; rfl
  · rw [World.cell?_alloc_new]; rfl
  · rw [World.cell?_alloc_new]; rfl
  · have := he.size; simp at this; omega
/-- What five stores leave, each seen behind it. -/
theorem seen5 {w : World} {g : Nat} {c0 c1 c2 c3 c4 : Value} (k0 : w.cell? ⟨g, 0, none⟩ = some c0) (k1 : w.cell? ⟨g, 1, none⟩ = some c1) (k2 : w.cell? ⟨g, 2, none⟩ = some c2) (k3 : w.cell? ⟨g, 3, none⟩ = some c3) (k4 : w.cell? ⟨g, 4, none⟩ = some c4) (v0 v1 v2 v3 v4 : Value) :
    (w.setCell ⟨g, 0, none⟩ v0).cell? ⟨g, 0, none⟩ = some v0 ∧ ((w.setCell ⟨g, 0, none⟩ v0).setCell ⟨g, 1, none⟩ v1).cell? ⟨g, 1, none⟩ = some v1 ∧ (((w.setCell ⟨g, 0, none⟩ v0).setCell ⟨g, 1, none⟩ v1).setCell ⟨g, 2, none⟩ v2).cell? ⟨g, 2, none⟩ = some v2 ∧
    ((((w.setCell ⟨g, 0, none⟩ v0).setCell ⟨g, 1, none⟩ v1).setCell ⟨g, 2, none⟩ v2).setCell ⟨g, 3, none⟩ v3).cell? ⟨g, 3, none⟩ = some v3 ∧ (((((w.setCell ⟨g, 0, none⟩ v0).setCell ⟨g, 1, none⟩ v1).setCell ⟨g, 2, none⟩ v2).setCell ⟨g, 3, none⟩ v3).setCell ⟨g, 4, none⟩ v4).cell? ⟨g, 4, none⟩ = some v4 := by
  refine ⟨World.cell?_setCell_same' _ _ _ (by rw [k0]; rfl), World.cell?_setCell_same' _ _ _ ?_, World.cell?_setCell_same' _ _ _ ?_, World.cell?_setCell_same' _ _ _ ?_, World.cell?_setCell_same' _ _ _ ?_⟩
  · rw [World.cell?_setCell_other _ _ _ _ (by simp), k1]; rfl
  · rw [World.cell?_setCell_other _ _ _ _ (by simp), World.cell?_setCell_other _ _ _ _ (by simp), k2]; rfl
  · rw [World.cell?_setCell_other _ _ _ _ (by simp), World.cell?_setCell_other _ _ _ _ (by simp), World.cell?_setCell_other _ _ _ _ (by simp), k3]; rfl
  · rw [World.cell?_setCell_other _ _ _ _ (by simp), World.cell?_setCell_other _ _ _ _ (by simp), World.cell?_setCell_other _ _ _ _ (by simp), World.cell?_setCell_other _ _ _ _ (by simp), k4]; rfl
set_option maxRecDepth 100000 in
set_option maxHeartbeats 6400000 in
theorem list_any (B : Nat) (hB : B ≤ 1000000) (d : Nat) (tag : Int) (L : Option Addr × Nat) (ks : List Nd) (w : World) (h : KidsAt B 0 d w L ks) :
    Calls Tryz.prog 32 #[.int .i64 tag, .slice L.1 ks.length L.2] w fun e w' => RetNd B w.heap.size d (.mk tag 3 0 ⟨#[]⟩ ks) e w' ∧ Ext w w' := by
  have H := Lib.hid h
  clear h
  go_enter Tryz.func32, Tryz.ntmps32
  go_wp2_with fail
  refine (copies_any B hB d L ks _ (H.out.ext ((Ext.refl _).alloc _))).mono ?_
  rintro e w1 ⟨⟨M, rfl, hM⟩, hb1⟩
  obtain ⟨⟨k0, k1, k2, k3, k4⟩, hfr, hlt⟩ := block5 hb1
  have f0 := hfr 0
  have f1 := hfr 1
  have f2 := hfr 2
  have f3 := hfr 3
  have f4 := hfr 4
  clear hfr
  have HM : Hid (KidsAt B (w.heap.size + 1) d w1 M ks) := Lib.hid (by rwa [World.size_alloc] at hM)
  have X1 : Hid (Ext w w1) := Lib.hid (((Ext.refl w).alloc _).trans hb1)
  clear hM hb1
  obtain ⟨s0, s1, s2, s3, s4⟩ := seen5 k0 k1 k2 k3 k4 (.int .i64 tag) (.int .i64 3) (.int .i64 0) (.string ⟨#[]⟩) (.slice M.1 ks.length M.2)
  go_wp2
  refine bodyPost_ret (v := .agg #[.int .i64 tag, .int .i64 3, .int .i64 0, .string ⟨#[]⟩, .slice M.1 ks.length M.2]) (by simp [results, Tryz.results32, go_sem, s0, s1, s2, s3, s4]) rfl ⟨⟨M, rfl, ?_⟩, ?_⟩
  · exact (kids_cells5 (g := w.heap.size) HM.out 0 1 2 3 4 (.int .i64 tag) (.int .i64 3) (.int .i64 0) (.string ⟨#[]⟩) (.slice M.1 ks.length M.2) (Nat.lt_succ_self _)).lower (Nat.le_succ _)
  · exact ext_cells5 X1.out 0 1 2 3 4 (.int .i64 tag) (.int .i64 3) (.int .i64 0) (.string ⟨#[]⟩) (.slice M.1 ks.length M.2) w.heap.size (Nat.le_refl _)
end Go.Proofs.YtdaccamiipknmaaGreatDoor
