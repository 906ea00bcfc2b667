/- The package's numbers and texts: lists as nodes: contracts. Conditions: those of each theorem. -/
import Derived.Test.YtdaccamiipknmaaGreatDoorItK
import Derived.Test.YtdaccamiipknmaaGreatDoorItA
namespace Go.Proofs.YtdaccamiipknmaaGreatDoor
open Go.RowKit

def leafI (x : Int) : Nd := .mk 0 1 x ⟨#[]⟩ []
def leafS (s : ByteArray) : Nd := .mk 0 2 0 s []
theorem list_to (B : Nat) (hB : B ≤ 1000000) (d : Nat) (tag : Int) (A : Option Addr) (c : Nat) (ks : List Nd) {n : Nat} (hn : ks.length = n) (w : World) (h : KidsAt B 0 d w (A, c) ks) :
    Calls Tryz.prog 32 #[.int .i64 tag, .slice A n c] w fun e w' => (∃ M : Option Addr × Nat, e = .returned (.agg #[.int .i64 tag, .int .i64 3, .int .i64 0, .string ⟨#[]⟩, .slice M.1 n M.2]) ∧ KidsAt B w.heap.size d w' M ks) ∧ Ext w w' := by
  subst hn
  refine (list_any B hB d tag (A, c) ks w h).mono ?_
  rintro e w' ⟨⟨M, rfl, hM⟩, hb⟩
  exact ⟨⟨M, rfl, hM⟩, hb⟩
theorem int_to (tag n : Int) (w : World) : Calls Tryz.prog 33 #[.int .i64 tag, .int .i64 n] w fun e w' => e = .returned (.agg #[.int .i64 tag, .int .i64 1, .int .i64 n, .string ⟨#[]⟩, .slice none 0 0]) ∧ Ext w w' := int_any tag n w
theorem string_to (tag : Int) (s : ByteArray) (w : World) : Calls Tryz.prog 34 #[.int .i64 tag, .string s] w fun e w' => e = .returned (.agg #[.int .i64 tag, .int .i64 2, .int .i64 0, .string s, .slice none 0 0]) ∧ Ext w w' := string_any tag s w
/-- A row's cells that are written next. -/
theorem RowN.free {B d : Nat} {w : World} {g n k : Nat} {ks : List Nd} (h : RowN B d w g n k ks) (i : Nat) : w.frozen? ⟨g, i, none⟩ = false := by
  obtain ⟨⟨f, hf⟩, _⟩ := h
  exact hf.frozen _


set_option maxRecDepth 100000 in
set_option maxHeartbeats 6400000 in
theorem numbers_any (tag : Int) (A : Option Addr) (c : Nat) (l : List Int) (w : World) (h : SlI w A l) (hl : l.length ≤ 1000) :
    Calls Tryz.prog 36 #[.int .i64 tag, .slice A l.length c] w fun e w' => RetNd 1000 w.heap.size 1 (.mk tag 3 0 ⟨#[]⟩ (l.map leafI)) e w' ∧ Ext w w' := by
  have H := Lib.hid h
  clear h
  obtain ⟨n, hn⟩ : ∃ n, l.length = n := ⟨_, rfl⟩
  rw [hn] at hl ⊢
  have HN := Lib.hid hn
  have HM : Hid ((l.map leafI).length = n) := Lib.hid (by rw [List.length_map, hn])
  clear hn
  have hmk := make_nd n (by omega)
  go_enter Tryz.func36, Tryz.ntmps36
  go_wp2
  clear hmk
  go_loopw [13] (fun i wr => ∃ k : Nat, k ≤ n ∧ i = .int .i64 k ∧ Hid (RowN 1000 0 wr (w.heap.size + 1) n k (l.map leafI)) ∧ Ext (w.alloc (.cells #[.int .i64 0, .int .i64 0, .int .i64 0, .string ⟨#[]⟩, .slice none 0 0] 34)) wr) (fun i _ => n - (intOf i).toNat)
  case atStart => exact ⟨0, by omega, rfl, Lib.hid (by have := rowN_made 1000 0 (w.alloc (.cells #[.int .i64 0, .int .i64 0, .int .i64 0, .string ⟨#[]⟩, .slice none 0 0] 34)) n (l.map leafI); rwa [World.size_alloc] at this), (Ext.refl _).alloc _⟩
  case round =>
    obtain ⟨k, hk, rfl, HR, he⟩ := hrel
    have hew : Hid (Ext w wr) := Lib.hid (((Ext.refl w).alloc _).trans he)
    by_cases hlt : k < n
    · have hlk : k < l.length := by rw [HN.out]; exact hlt
      obtain ⟨b, off, x, rfl, hb, hx, hc⟩ := (H.out.ext hew.out).at_ hlk
      have HX : Hid ((l.map leafI)[k]? = some (.mk 0 1 x ⟨#[]⟩ [])) := Lib.hid (by rw [List.getElem?_map, hx]; rfl)
      clear hx hlk
      have ki0 : (0 : Int) ≤ (k : Int) := by omega
      have ki1 : (k : Int) < (n : Int) := by omega
      go_wp2_with fail
      refine (int_to 0 x _).mono ?_
      rintro e w1 ⟨rfl, hb1⟩
      have HR1 := Lib.hid (HR.out.ext hb1)
      obtain ⟨v0, v1, v2, v3, v4, ⟨g0, g1, g2, g3, g4⟩, _⟩ := HR1.out.cells hlt
      have hfr0 := HR1.out.free (k * 5)
      have hfr1 := HR1.out.free (k * 5 + 1)
      have hfr2 := HR1.out.free (k * 5 + 1 + 1)
      have hfr3 := HR1.out.free (k * 5 + 1 + 1 + 1)
      have hfr4 := HR1.out.free (k * 5 + 1 + 1 + 1 + 1)
      have hg1 := HR1.out.lt
      have HF := Lib.hid (RowN.leaf HR1.out hlt HX.out)
      have X1 := Lib.hid (he.trans hb1)
      clear hb1 HR1
      go_wp2
      go_roundw
      case rel => exact ⟨k + 1, by omega, by go_num, HF, ext_cells5 X1.out (k * 5) (k * 5 + 1) (k * 5 + 2) (k * 5 + 3) (k * 5 + 4) (.int .i64 0) (.int .i64 1) (.int .i64 x) (.string ⟨#[]⟩) (.slice none 0 0) (w.heap.size + 1) (by simp)⟩
      case measure => simp [intOf]; omega
    · obtain rfl : k = n := by omega
      have HK : Hid (KidsAt 1000 0 1 wr (some ⟨w.heap.size + 1, 0, none⟩, k) (l.map leafI)) := Lib.hid (RowN.done (by rw [HM.out]; exact HR.out) HM.out hl (by unfold maxLen; omega) (Nat.zero_le _))
      go_wp2_with fail
      refine (list_to 1000 (by omega) 1 tag (some ⟨w.heap.size + 1, 0, none⟩) k (l.map leafI) HM.out _ HK.out).mono ?_
      rintro e w1 ⟨⟨M, rfl, hM⟩, hb1⟩
      obtain ⟨⟨k0, k1, k2, k3, k4⟩, hfr, hlt1⟩ := block5 (he.trans hb1)
      have f0 := hfr 0
      have f1 := hfr 1
      have f2 := hfr 2
      have f3 := hfr 3
      have f4 := hfr 4
      clear hfr
      have hwr : w.heap.size + 1 ≤ wr.heap.size := by have := he.size; simpa using this
      have HMK : Hid (KidsAt 1000 (w.heap.size + 1) 1 w1 M (l.map leafI)) := Lib.hid (hM.lower hwr)
      have X1 : Hid (Ext w w1) := Lib.hid (hew.out.trans hb1)
      clear hM hb1 he
      obtain ⟨s0, s1, s2, s3, s4⟩ := seen5 k0 k1 k2 k3 k4 (.int .i64 tag) (.int .i64 3) (.int .i64 0) (.string ⟨#[]⟩) (.slice M.1 k M.2)
      go_wp2
      refine bodyPost_ret (v := .agg #[.int .i64 tag, .int .i64 3, .int .i64 0, .string ⟨#[]⟩, .slice M.1 k M.2]) (by simp [results, Tryz.results36, go_sem, s0, s1, s2, s3, s4]) rfl ⟨⟨M, by show _ = Ending.returned (.agg #[.int .i64 tag, .int .i64 3, .int .i64 0, .string ⟨#[]⟩, .slice M.1 (l.map leafI).length M.2]); rw [HM.out], ?_⟩, ?_⟩
      · exact (kids_cells5 (g := w.heap.size) HMK.out 0 1 2 3 4 (.int .i64 tag) (.int .i64 3) (.int .i64 0) (.string ⟨#[]⟩) (.slice M.1 k M.2) (Nat.lt_succ_self _)).lower (Nat.le_succ _)
      · exact ext_cells5 X1.out 0 1 2 3 4 (.int .i64 tag) (.int .i64 3) (.int .i64 0) (.string ⟨#[]⟩) (.slice M.1 k M.2) w.heap.size (Nat.le_refl _)


set_option maxRecDepth 100000 in
set_option maxHeartbeats 6400000 in
theorem texts_any (tag : Int) (A : Option Addr) (c : Nat) (l : List ByteArray) (w : World) (h : SlS w A l) (hl : l.length ≤ 1000) :
    Calls Tryz.prog 35 #[.int .i64 tag, .slice A l.length c] w fun e w' => RetNd 1000 w.heap.size 1 (.mk tag 3 0 ⟨#[]⟩ (l.map leafS)) e w' ∧ Ext w w' := by
  have H := Lib.hid h
  clear h
  obtain ⟨n, hn⟩ : ∃ n, l.length = n := ⟨_, rfl⟩
  rw [hn] at hl ⊢
  have HN := Lib.hid hn
  have HM : Hid ((l.map leafS).length = n) := Lib.hid (by rw [List.length_map, hn])
  clear hn
  have hmk := make_nd n (by omega)
  go_enter Tryz.func35, Tryz.ntmps35
  go_wp2
  clear hmk
  go_loopw [13] (fun i wr => ∃ k : Nat, k ≤ n ∧ i = .int .i64 k ∧ Hid (RowN 1000 0 wr (w.heap.size + 1) n k (l.map leafS)) ∧ Ext (w.alloc (.cells #[.int .i64 0, .int .i64 0, .int .i64 0, .string ⟨#[]⟩, .slice none 0 0] 34)) wr) (fun i _ => n - (intOf i).toNat)
  case atStart => exact ⟨0, by omega, rfl, Lib.hid (by have := rowN_made 1000 0 (w.alloc (.cells #[.int .i64 0, .int .i64 0, .int .i64 0, .string ⟨#[]⟩, .slice none 0 0] 34)) n (l.map leafS); rwa [World.size_alloc] at this), (Ext.refl _).alloc _⟩
  case round =>
    obtain ⟨k, hk, rfl, HR, he⟩ := hrel
    have hew : Hid (Ext w wr) := Lib.hid (((Ext.refl w).alloc _).trans he)
    by_cases hlt : k < n
    · have hlk : k < l.length := by rw [HN.out]; exact hlt
      obtain ⟨b, off, rfl, hb, hc⟩ := (H.out.ext hew.out).at_ hlk
      obtain ⟨x, hx0⟩ : ∃ x, l[k] = x := ⟨_, rfl⟩
      have hx : l[k]? = some x := by rw [List.getElem?_eq_getElem hlk, hx0]
      rw [hx0] at hc
      clear hx0
      have HX : Hid ((l.map leafS)[k]? = some (.mk 0 2 0 x [])) := Lib.hid (by rw [List.getElem?_map, hx]; rfl)
      clear hx hlk
      have ki0 : (0 : Int) ≤ (k : Int) := by omega
      have ki1 : (k : Int) < (n : Int) := by omega
      go_wp2_with fail
      refine (string_to 0 x _).mono ?_
      rintro e w1 ⟨rfl, hb1⟩
      have HR1 := Lib.hid (HR.out.ext hb1)
      obtain ⟨v0, v1, v2, v3, v4, ⟨g0, g1, g2, g3, g4⟩, _⟩ := HR1.out.cells hlt
      have hfr0 := HR1.out.free (k * 5)
      have hfr1 := HR1.out.free (k * 5 + 1)
      have hfr2 := HR1.out.free (k * 5 + 1 + 1)
      have hfr3 := HR1.out.free (k * 5 + 1 + 1 + 1)
      have hfr4 := HR1.out.free (k * 5 + 1 + 1 + 1 + 1)
      have hg1 := HR1.out.lt
      have HF := Lib.hid (RowN.leaf HR1.out hlt HX.out)
      have X1 := Lib.hid (he.trans hb1)
      clear hb1 HR1
      go_wp2
      go_roundw
      case rel => exact ⟨k + 1, by omega, by go_num, HF, ext_cells5 X1.out (k * 5) (k * 5 + 1) (k * 5 + 2) (k * 5 + 3) (k * 5 + 4) (.int .i64 0) (.int .i64 2) (.int .i64 0) (.string x) (.slice none 0 0) (w.heap.size + 1) (by simp)⟩
      case measure => simp [intOf]; omega
    · obtain rfl : k = n := by omega
      have HK : Hid (KidsAt 1000 0 1 wr (some ⟨w.heap.size + 1, 0, none⟩, k) (l.map leafS)) := Lib.hid (RowN.done (by rw [HM.out]; exact HR.out) HM.out hl (by unfold maxLen; omega) (Nat.zero_le _))
      go_wp2_with fail
      refine (list_to 1000 (by omega) 1 tag (some ⟨w.heap.size + 1, 0, none⟩) k (l.map leafS) HM.out _ HK.out).mono ?_
      rintro e w1 ⟨⟨M, rfl, hM⟩, hb1⟩
      obtain ⟨⟨k0, k1, k2, k3, k4⟩, hfr, hlt1⟩ := block5 (he.trans hb1)
      have f0 := hfr 0
      have f1 := hfr 1
      have f2 := hfr 2
      have f3 := hfr 3
      have f4 := hfr 4
      clear hfr
      have hwr : w.heap.size + 1 ≤ wr.heap.size := by have := he.size; simpa using this
      have HMK : Hid (KidsAt 1000 (w.heap.size + 1) 1 w1 M (l.map leafS)) := Lib.hid (hM.lower hwr)
      have X1 : Hid (Ext w w1) := Lib.hid (hew.out.trans hb1)
      clear hM hb1 he
      obtain ⟨s0, s1, s2, s3, s4⟩ := seen5 k0 k1 k2 k3 k4 (.int .i64 tag) (.int .i64 3) (.int .i64 0) (.string ⟨#[]⟩) (.slice M.1 k M.2)
      go_wp2
      refine bodyPost_ret (v := .agg #[.int .i64 tag, .int .i64 3, .int .i64 0, .string ⟨#[]⟩, .slice M.1 k M.2]) (by simp [results, Tryz.results35, go_sem, s0, s1, s2, s3, s4]) rfl ⟨⟨M, by show _ = Ending.returned (.agg #[.int .i64 tag, .int .i64 3, .int .i64 0, .string ⟨#[]⟩, .slice M.1 (l.map leafS).length M.2]); rw [HM.out], ?_⟩, ?_⟩
      · exact (kids_cells5 (g := w.heap.size) HMK.out 0 1 2 3 4 (.int .i64 tag) (.int .i64 3) (.int .i64 0) (.string ⟨#[]⟩) (.slice M.1 k M.2) (Nat.lt_succ_self _)).lower (Nat.le_succ _)
      · exact ext_cells5 X1.out 0 1 2 3 4 (.int .i64 tag) (.int .i64 3) (.int .i64 0) (.string ⟨#[]⟩) (.slice M.1 k M.2) w.heap.size (Nat.le_refl _)

end Go.Proofs.YtdaccamiipknmaaGreatDoor
