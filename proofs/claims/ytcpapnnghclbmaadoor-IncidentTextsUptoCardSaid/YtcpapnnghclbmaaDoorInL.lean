/- incident.Parse: its contract. Conditions: those of each theorem. -/
import Derived.Test.YtcpapnnghclbmaaDoorInK
import Derived.Test.YtcpapnnghclbmaaDoorInD
import Derived.Deep.QuietTactic
import Derived.BigQuiet
namespace Go.Proofs.YtcpapnnghclbmaaDoor
open Go.RowKit Go.Lib

namespace In
def zero : Inc := (0, 0, 0, 0)
/-- The kind of a word among the kinds below a number. -/
def kdU (a : ByteArray) : Nat → Int
  | 0 => 0
  | k + 1 => if a = str (word (k + 1)) then (k + 1 : Int) else kdU a k
def kd (a : ByteArray) : Int := kdU a 6
def AT : ByteArray := ⟨#[97, 116]⟩
def LOST : ByteArray := ⟨#[108, 111, 115, 116]⟩
def GRAVE : ByteArray := ⟨#[103, 114, 97, 118, 101]⟩
def inc7 (a0 a2 a4 a6 : ByteArray) : Inc := (kd a0, numV a2.data.toList 1099511627776, numV a4.data.toList 86400, numV a6.data.toList 3)
def good7 (a0 a2 a4 a6 : ByteArray) : Prop := kd a0 ≠ 0 ∧ isNum a2.data.toList = true ∧ isNum a4.data.toList = true ∧ isNum a6.data.toList = true
instance (a0 a2 a4 a6 : ByteArray) : Decidable (good7 a0 a2 a4 a6) := by unfold good7; infer_instance
/-- What Parse returns, by the pieces. -/
def parseP : List ByteArray → Inc × Int
  | [a0, a1, a2, a3, a4, a5, a6] => if a1 = AT ∧ a3 = LOST ∧ a5 = GRAVE then (if good7 a0 a2 a4 a6 then (if vld (inc7 a0 a2 a4 a6) ≠ 0 then (zero, vld (inc7 a0 a2 a4 a6)) else (inc7 a0 a2 a4 a6, 0)) else (zero, 2)) else (zero, 2)
  | _ => (zero, 2)
theorem parseP_len {l : List ByteArray} (h : l.length ≠ 7) : parseP l = (zero, 2) := by
  unfold parseP
  split
  · simp at h
  · rfl
theorem eqT {a b : ByteArray} (h : a = b) : (a.toList == b.toList) = true := by rw [h]; simp
theorem eqF {a b : ByteArray} (h : a ≠ b) : (a.toList == b.toList) = false := by
  rw [beq_eq_false_iff_ne]
  intro e
  rw [ByteArray.toList_eq, ByteArray.toList_eq] at e
  exact h (ByteArray.ext (Array.toList_inj.1 e))
theorem tlT {a : ByteArray} {l : List UInt8} (h : a = str l) : a.toList = l := by rw [h, ByteArray.toList_eq]; rfl
theorem tlF {a : ByteArray} {l : List UInt8} (h : a ≠ str l) : ¬ a.toList = l := fun e => h (by
  rw [ByteArray.toList_eq] at e
  rw [← e]
  exact (str_eta a).symm)
end In
set_option maxRecDepth 100000 in
set_option maxHeartbeats 6400000 in
theorem parse_long (s : ByteArray) (hs : s.size ≤ 140737488355328) (hn : (In.pcs s).length ≠ 7) (w : World) :
    Calls Tryd.prog 27 #[.string s] w fun e w' => e = .returned (.tuple #[.agg #[.int .i64 0, .int .i64 0, .int .i64 0, .int .i64 0], .int .i64 2]) ∧ Ext w w' := by
  obtain ⟨n, hl⟩ : ∃ n, (In.pcs s).length = n := ⟨_, rfl⟩
  rw [hl] at hn
  have HL := Lib.hid hl
  have hn' : ((n : Int) != 7) = true := by rw [bne_iff_ne]; omega
  clear hl hn
  go_enter Tryd.func27, Tryd.ntmps27
  go_wp2_with fail
  refine (splitN_to s _ hs HL.out).mono ?_
  rintro e w1 ⟨g, c, rfl, hS, hg, hb1⟩
  clear hS
  have k0 : w1.cell? ⟨w.heap.size, 0, none⟩ = some (.int .i64 0) := hb1.keep (by simp [go_sem])
  have k1 : w1.cell? ⟨w.heap.size, 1, none⟩ = some (.int .i64 0) := hb1.keep (by simp [go_sem])
  have k2 : w1.cell? ⟨w.heap.size, 2, none⟩ = some (.int .i64 0) := hb1.keep (by simp [go_sem])
  have k3 : w1.cell? ⟨w.heap.size, 3, none⟩ = some (.int .i64 0) := hb1.keep (by simp [go_sem])
  obtain ⟨hc1, hf1⟩ := hb1.cells
  have hz := hb1.size
  simp at hz
  go_wp2
  refine bodyPost_ret (v := .tuple #[.agg #[.int .i64 0, .int .i64 0, .int .i64 0, .int .i64 0], .int .i64 2]) (by simp [results, Tryd.results27, go_sem, k0, k1, k2, k3]) rfl ⟨rfl, Ext.setCells (Nat.le_refl _) [.int .i64 0, .int .i64 0, .int .i64 0, .int .i64 0] 0 (((Ext.refl w).alloc _).trans hb1)⟩

/-- Four numbers lie in block g, and may be written. -/
def BlkAt (w : World) (g : Nat) (a b c d : Int) : Prop := g < w.heap.size ∧ (w.cell? ⟨g, 0, none⟩ = some (.int .i64 a) ∧ w.cell? ⟨g, 1, none⟩ = some (.int .i64 b) ∧ w.cell? ⟨g, 2, none⟩ = some (.int .i64 c) ∧ w.cell? ⟨g, 3, none⟩ = some (.int .i64 d)) ∧
  (w.frozen? ⟨g, 0, none⟩ = false ∧ w.frozen? ⟨g, 1, none⟩ = false ∧ w.frozen? ⟨g, 2, none⟩ = false ∧ w.frozen? ⟨g, 3, none⟩ = false)
theorem BlkAt.ext {w w' : World} {g : Nat} {a b c d : Int} (h : BlkAt w g a b c d) (he : Ext w w') : BlkAt w' g a b c d := by
  obtain ⟨hc, hf⟩ := he.cells
  obtain ⟨hg, h1, h2⟩ := h
  refine ⟨Nat.lt_of_lt_of_le hg he.size, ?_, ?_⟩
  · rw [hc _ _ hg, hc _ _ hg, hc _ _ hg, hc _ _ hg]; exact h1
  · rw [hf _ _ hg, hf _ _ hg, hf _ _ hg, hf _ _ hg]; exact h2
theorem BlkAt.new (w : World) (a b c d : Int) (t : TypeId) : BlkAt (w.alloc (.cells #[.int .i64 a, .int .i64 b, .int .i64 c, .int .i64 d] t)) w.heap.size a b c d := by
  refine ⟨by simp, ⟨by simp [go_sem], by simp [go_sem], by simp [go_sem], by simp [go_sem]⟩, ⟨by simp [go_sem], by simp [go_sem], by simp [go_sem], by simp [go_sem]⟩⟩
theorem BlkAt.set0 {w : World} {g : Nat} {a b c d : Int} (h : BlkAt w g a b c d) (x : Int) : BlkAt (w.setCell ⟨g, 0, none⟩ (.int .i64 x)) g x b c d := by
  obtain ⟨hg, ⟨h0, h1, h2, h3⟩, f⟩ := h
  refine ⟨by simpa [World.setCell] using hg, ⟨World.cell?_setCell_same _ _ _ h0, ?_, ?_, ?_⟩, ?_⟩
  · rw [World.cell?_setCell_other _ _ _ _ (by simp)]; exact h1
  · rw [World.cell?_setCell_other _ _ _ _ (by simp)]; exact h2
  · rw [World.cell?_setCell_other _ _ _ _ (by simp)]; exact h3
  · rw [World.frozen?_setCell, World.frozen?_setCell, World.frozen?_setCell, World.frozen?_setCell]; exact f

theorem BlkAt.set1 {w : World} {g : Nat} {a b c d : Int} (h : BlkAt w g a b c d) (x : Int) : BlkAt (w.setCell ⟨g, 1, none⟩ (.int .i64 x)) g a x c d := by
  obtain ⟨hg, ⟨h0, h1, h2, h3⟩, f⟩ := h
  refine ⟨by simpa [World.setCell] using hg, ⟨?_, World.cell?_setCell_same _ _ _ h1, ?_, ?_⟩, ?_⟩
  · rw [World.cell?_setCell_other _ _ _ _ (by simp)]; exact h0
  · rw [World.cell?_setCell_other _ _ _ _ (by simp)]; exact h2
  · rw [World.cell?_setCell_other _ _ _ _ (by simp)]; exact h3
  · rw [World.frozen?_setCell, World.frozen?_setCell, World.frozen?_setCell, World.frozen?_setCell]; exact f
theorem BlkAt.set2 {w : World} {g : Nat} {a b c d : Int} (h : BlkAt w g a b c d) (x : Int) : BlkAt (w.setCell ⟨g, 2, none⟩ (.int .i64 x)) g a b x d := by
  obtain ⟨hg, ⟨h0, h1, h2, h3⟩, f⟩ := h
  refine ⟨by simpa [World.setCell] using hg, ⟨?_, ?_, World.cell?_setCell_same _ _ _ h2, ?_⟩, ?_⟩
  · rw [World.cell?_setCell_other _ _ _ _ (by simp)]; exact h0
  · rw [World.cell?_setCell_other _ _ _ _ (by simp)]; exact h1
  · rw [World.cell?_setCell_other _ _ _ _ (by simp)]; exact h3
  · rw [World.frozen?_setCell, World.frozen?_setCell, World.frozen?_setCell, World.frozen?_setCell]; exact f
theorem BlkAt.set3 {w : World} {g : Nat} {a b c d : Int} (h : BlkAt w g a b c d) (x : Int) : BlkAt (w.setCell ⟨g, 3, none⟩ (.int .i64 x)) g a b c x := by
  obtain ⟨hg, ⟨h0, h1, h2, h3⟩, f⟩ := h
  refine ⟨by simpa [World.setCell] using hg, ⟨?_, ?_, ?_, World.cell?_setCell_same _ _ _ h3⟩, ?_⟩
  · rw [World.cell?_setCell_other _ _ _ _ (by simp)]; exact h0
  · rw [World.cell?_setCell_other _ _ _ _ (by simp)]; exact h1
  · rw [World.cell?_setCell_other _ _ _ _ (by simp)]; exact h2
  · rw [World.frozen?_setCell, World.frozen?_setCell, World.frozen?_setCell, World.frozen?_setCell]; exact f
theorem BlkAt.other {w : World} {g : Nat} {a b c d : Int} (h : BlkAt w g a b c d) {g' o : Nat} (hne : g ≠ g') (x : Value) : BlkAt (w.setCell ⟨g', o, none⟩ x) g a b c d := by
  obtain ⟨hg, ⟨h0, h1, h2, h3⟩, f⟩ := h
  have key : ∀ j, (w.setCell ⟨g', o, none⟩ x).cell? ⟨g, j, none⟩ = w.cell? ⟨g, j, none⟩ := fun j => World.cell?_setCell_other _ _ _ _ (fun e => hne (congrArg Addr.block e).symm)
  refine ⟨by simpa [World.setCell] using hg, ⟨(key 0).trans h0, (key 1).trans h1, (key 2).trans h2, (key 3).trans h3⟩, ?_⟩
  rw [World.frozen?_setCell, World.frozen?_setCell, World.frozen?_setCell, World.frozen?_setCell]; exact f
theorem SlS.seven {w : World} {g : Nat} {a0 a1 a2 a3 a4 a5 a6 : ByteArray} (h : SlS w (some ⟨g, 0, none⟩) [a0, a1, a2, a3, a4, a5, a6]) :
    w.cell? ⟨g, 0, none⟩ = some (.string a0) ∧ w.cell? ⟨g, 1, none⟩ = some (.string a1) ∧ w.cell? ⟨g, 2, none⟩ = some (.string a2) ∧ w.cell? ⟨g, 3, none⟩ = some (.string a3) ∧ w.cell? ⟨g, 4, none⟩ = some (.string a4) ∧ w.cell? ⟨g, 5, none⟩ = some (.string a5) ∧ w.cell? ⟨g, 6, none⟩ = some (.string a6) := by
  have key : ∀ (i : Nat) (a : ByteArray), [a0, a1, a2, a3, a4, a5, a6][i]? = some a → w.cell? ⟨g, i, none⟩ = some (.string a) := fun i a hi => by
    obtain ⟨b, o, hA, _, hc⟩ := Sl.at_ (i := i) (cs := [.string a]) h (by rw [List.getElem?_map, hi]; rfl)
    injection hA with hA
    injection hA with hA hA2
    subst hA hA2
    have := hc 0 _ rfl
    simpa using this
  exact ⟨key 0 _ rfl, key 1 _ rfl, key 2 _ rfl, key 3 _ rfl, key 4 _ rfl, key 5 _ rfl, key 6 _ rfl⟩

set_option maxRecDepth 100000 in
set_option maxHeartbeats 6400000 in
theorem parse_word (s a0 a1 a2 a3 a4 a5 a6 : ByteArray) (hs : s.size ≤ 140737488355328) (hp : In.pcs s = [a0, a1, a2, a3, a4, a5, a6]) (hbad : ¬ (a1 = In.AT ∧ a3 = In.LOST ∧ a5 = In.GRAVE)) (w : World) :
    Calls Tryd.prog 27 #[.string s] w fun e w' => e = .returned (.tuple #[.agg #[.int .i64 0, .int .i64 0, .int .i64 0, .int .i64 0], .int .i64 2]) ∧ Ext w w' := by
  have HL : Hid ((In.pcs s).length = 7) := Lib.hid (by rw [hp]; rfl)
  have HP := Lib.hid hp
  clear hp
  have hc : (a1 ≠ In.AT) ∨ (a1 = In.AT ∧ a3 ≠ In.LOST) ∨ (a1 = In.AT ∧ a3 = In.LOST ∧ a5 ≠ In.GRAVE) := by
    by_cases h1 : a1 = In.AT
    · by_cases h3 : a3 = In.LOST
      · exact Or.inr (Or.inr ⟨h1, h3, fun h5 => hbad ⟨h1, h3, h5⟩⟩)
      · exact Or.inr (Or.inl ⟨h1, h3⟩)
    · exact Or.inl h1
  clear hbad
  rcases hc with h1 | ⟨h1, h3⟩ | ⟨h1, h3, h5⟩
  · have q1 := In.tlF (l := [97, 116]) h1
    clear h1
    go_enter Tryd.func27, Tryd.ntmps27
    go_wp2_with fail
    refine (splitN_to s _ hs HL.out).mono ?_
    rintro e w1 ⟨g, c, rfl, hS, hg, hb1⟩
    rw [HP.out] at hS
    obtain ⟨s0, s1, s2, s3, s4, s5, s6⟩ := hS.seven
    clear hS
    have k0 : w1.cell? ⟨w.heap.size, 0, none⟩ = some (.int .i64 0) := hb1.keep (by simp [go_sem])
    have k1 : w1.cell? ⟨w.heap.size, 1, none⟩ = some (.int .i64 0) := hb1.keep (by simp [go_sem])
    have k2 : w1.cell? ⟨w.heap.size, 2, none⟩ = some (.int .i64 0) := hb1.keep (by simp [go_sem])
    have k3 : w1.cell? ⟨w.heap.size, 3, none⟩ = some (.int .i64 0) := hb1.keep (by simp [go_sem])
    obtain ⟨hc1, hf1⟩ := hb1.cells
    have hz := hb1.size
    simp at hz
    go_wp2
    exact bodyPost_ret (v := .tuple #[.agg #[.int .i64 0, .int .i64 0, .int .i64 0, .int .i64 0], .int .i64 2]) (by simp [results, Tryd.results27, go_sem, k0, k1, k2, k3]) rfl ⟨rfl, Ext.setCells (Nat.le_refl _) [.int .i64 0, .int .i64 0, .int .i64 0, .int .i64 0] 0 (((Ext.refl w).alloc _).trans hb1)⟩
  · have q1 := In.tlT (l := [97, 116]) h1
    have q3 := In.tlF (l := [108, 111, 115, 116]) h3
    clear h1 h3
    go_enter Tryd.func27, Tryd.ntmps27
    go_wp2_with fail
    refine (splitN_to s _ hs HL.out).mono ?_
    rintro e w1 ⟨g, c, rfl, hS, hg, hb1⟩
    rw [HP.out] at hS
    obtain ⟨s0, s1, s2, s3, s4, s5, s6⟩ := hS.seven
    clear hS
    have k0 : w1.cell? ⟨w.heap.size, 0, none⟩ = some (.int .i64 0) := hb1.keep (by simp [go_sem])
    have k1 : w1.cell? ⟨w.heap.size, 1, none⟩ = some (.int .i64 0) := hb1.keep (by simp [go_sem])
    have k2 : w1.cell? ⟨w.heap.size, 2, none⟩ = some (.int .i64 0) := hb1.keep (by simp [go_sem])
    have k3 : w1.cell? ⟨w.heap.size, 3, none⟩ = some (.int .i64 0) := hb1.keep (by simp [go_sem])
    obtain ⟨hc1, hf1⟩ := hb1.cells
    have hz := hb1.size
    simp at hz
    go_wp2
    exact bodyPost_ret (v := .tuple #[.agg #[.int .i64 0, .int .i64 0, .int .i64 0, .int .i64 0], .int .i64 2]) (by simp [results, Tryd.results27, go_sem, k0, k1, k2, k3]) rfl ⟨rfl, Ext.setCells (Nat.le_refl _) [.int .i64 0, .int .i64 0, .int .i64 0, .int .i64 0] 0 (((Ext.refl w).alloc _).trans hb1)⟩
  · have q1 := In.tlT (l := [97, 116]) h1
    have q3 := In.tlT (l := [108, 111, 115, 116]) h3
    have q5 := In.tlF (l := [103, 114, 97, 118, 101]) h5
    have q5' : (a5.toList == [103, 114, 97, 118, 101]) = false := by rw [beq_eq_false_iff_ne]; exact q5
    clear h1 h3 h5
    go_enter Tryd.func27, Tryd.ntmps27
    go_wp2_with fail
    refine (splitN_to s _ hs HL.out).mono ?_
    rintro e w1 ⟨g, c, rfl, hS, hg, hb1⟩
    rw [HP.out] at hS
    obtain ⟨s0, s1, s2, s3, s4, s5, s6⟩ := hS.seven
    clear hS
    have k0 : w1.cell? ⟨w.heap.size, 0, none⟩ = some (.int .i64 0) := hb1.keep (by simp [go_sem])
    have k1 : w1.cell? ⟨w.heap.size, 1, none⟩ = some (.int .i64 0) := hb1.keep (by simp [go_sem])
    have k2 : w1.cell? ⟨w.heap.size, 2, none⟩ = some (.int .i64 0) := hb1.keep (by simp [go_sem])
    have k3 : w1.cell? ⟨w.heap.size, 3, none⟩ = some (.int .i64 0) := hb1.keep (by simp [go_sem])
    obtain ⟨hc1, hf1⟩ := hb1.cells
    have hz := hb1.size
    simp at hz
    go_wp2
    exact bodyPost_ret (v := .tuple #[.agg #[.int .i64 0, .int .i64 0, .int .i64 0, .int .i64 0], .int .i64 2]) (by simp [results, Tryd.results27, go_sem, k0, k1, k2, k3]) rfl ⟨rfl, Ext.setCells (Nat.le_refl _) [.int .i64 0, .int .i64 0, .int .i64 0, .int .i64 0] 0 (((Ext.refl w).alloc _).trans hb1)⟩

set_option maxRecDepth 100000 in
set_option maxHeartbeats 12800000 in
theorem parse_seven (s a0 a1 a2 a3 a4 a5 a6 : ByteArray) (hs : s.size ≤ 140737488355328) (hp : In.pcs s = [a0, a1, a2, a3, a4, a5, a6]) (h1 : a1 = In.AT) (h3 : a3 = In.LOST) (h5 : a5 = In.GRAVE) (w : World) {r : In.Inc} {er : Int} (hr : In.parseP (In.pcs s) = (r, er)) :
    Calls Tryd.prog 27 #[.string s] w fun e w' => e = .returned (.tuple #[In.agg r, .int .i64 er]) ∧ Ext w w' := by
  have HL : Hid ((In.pcs s).length = 7) := Lib.hid (by rw [hp]; rfl)
  have HR : Hid ((if In.good7 a0 a2 a4 a6 then (if In.vld (In.inc7 a0 a2 a4 a6) ≠ 0 then (In.zero, In.vld (In.inc7 a0 a2 a4 a6)) else (In.inc7 a0 a2 a4 a6, 0)) else (In.zero, 2)) = (r, er)) := Lib.hid (by
    rw [← hr, hp]
    exact (if_pos (c := a1 = In.AT ∧ a3 = In.LOST ∧ a5 = In.GRAVE) ⟨h1, h3, h5⟩).symm)
  have HSZ : Hid (∀ x ∈ In.pcs s, x.size ≤ s.size) := Lib.hid (fun x hx => In.splitB_size 7 s x hx)
  have z2 : a2.size ≤ 140737488355328 := Nat.le_trans (HSZ.out a2 (by rw [hp]; simp)) hs
  have z4 : a4.size ≤ 140737488355328 := Nat.le_trans (HSZ.out a4 (by rw [hp]; simp)) hs
  have z6 : a6.size ≤ 140737488355328 := Nat.le_trans (HSZ.out a6 (by rw [hp]; simp)) hs
  have HP := Lib.hid hp
  have q1 := In.tlT (l := [97, 116]) h1
  have q3 := In.tlT (l := [108, 111, 115, 116]) h3
  have q5 := In.tlT (l := [103, 114, 97, 118, 101]) h5
  clear hp hr h1 h3 h5
  go_enter Tryd.func27, Tryd.ntmps27
  go_wp2_with fail
  refine (splitN_to s _ hs HL.out).mono ?_
  rintro e w1 ⟨g, c, rfl, hS, hg, hb1⟩
  rw [HP.out] at hS
  obtain ⟨s0, s1, s2, s3, s4, s5, s6⟩ := hS.seven
  clear hS
  have x1 : Ext w w1 := ((Ext.refl w).alloc _).trans hb1
  have HB0 : Hid (BlkAt w1 w.heap.size 0 0 0 0) := Lib.hid ((BlkAt.new w 0 0 0 0 _).ext hb1)
  have hz := hb1.size
  simp at hz
  clear hb1
  go_wp2_with fail
  clear q1 q3 q5
  have S0 := Lib.hid s0
  have S2 := Lib.hid s2
  have S4 := Lib.hid s4
  have S6 := Lib.hid s6
  clear s0 s1 s2 s3 s4 s5 s6
  go_loopw [6] (fun i wr => ∃ k : Nat, k ≤ 6 ∧ i = .int .i64 ((k : Int) + 1) ∧ BlkAt wr w1.heap.size (In.kdU a0 k) 0 0 0 ∧ Ext w1 wr) (fun i _ => 7 - (intOf i).toNat)
  case atStart => exact ⟨0, by omega, rfl, BlkAt.new _ _ _ _ _ _, (Ext.refl _).alloc _⟩
  case round =>
    obtain ⟨k, hk, rfl, hblk, he⟩ := hrel
    have HBL := Lib.hid hblk
    obtain ⟨hgl, ⟨b0, b1, b2, b3⟩, ⟨f0, f1, f2, f3⟩⟩ := hblk
    have s0 := he.keep S0.out
    by_cases hlt : k < 6
    · obtain ⟨wd, hwd⟩ : ∃ wd, In.word ((k : Int) + 1) = wd := ⟨_, rfl⟩
      have HWD := Lib.hid hwd
      have hlt' : (k : Int) + 1 ≤ 6 := by omega
      clear hwd
      by_cases heq : a0 = In.str wd
      · have q0 := In.eqT heq
        have q0' : a0.toList = (In.str wd).toList := by rw [heq]
        have HS : Hid (In.kdU a0 (k + 1) = (k : Int) + 1) := Lib.hid (by rw [In.kdU, HWD.out, if_pos heq])
        clear heq
        go_wp2_with fail
        go_quiet ((go_at_call 38; exact Calls.quiet_of_same (word_to HWD.out _)))
        go_wp2
        go_roundw
        case rel =>
          refine ⟨k + 1, by omega, by go_num, ?_, Ext.setCell (he.drewN _) (Nat.le_refl _) _⟩
          rw [HS.out]
          exact (HBL.out.ext ((Ext.refl _).drewN _)).set0 _
        case measure => simp [intOf]; omega
      · have q0 := In.eqF heq
        have q0' : ¬ a0.toList = (In.str wd).toList := by rw [beq_eq_false_iff_ne] at q0; exact q0
        have HS : Hid (In.kdU a0 (k + 1) = In.kdU a0 k) := Lib.hid (by rw [In.kdU, HWD.out, if_neg heq])
        clear heq
        go_wp2_with fail
        go_quiet ((go_at_call 38; exact Calls.quiet_of_same (word_to HWD.out _)))
        go_wp2
        go_roundw
        case rel =>
          refine ⟨k + 1, by omega, by go_num, ?_, he.drewN _⟩
          rw [HS.out]
          exact HBL.out.ext ((Ext.refl _).drewN _)
        case measure => simp [intOf]; omega
    · obtain rfl : k = 6 := by omega
      have hlt' : ¬ ((6 : Nat) : Int) + 1 ≤ 6 := by omega
      obtain ⟨kk, hkk⟩ : ∃ kk, In.kdU a0 6 = kk := ⟨_, rfl⟩
      rw [hkk] at HBL b0
      have HKK : Hid (In.kd a0 = kk) := Lib.hid hkk
      clear hkk
      have s2 := he.keep S2.out
      have s4 := he.keep S4.out
      have s6 := he.keep S6.out
      have hes := he.size
      obtain ⟨n2, hn2⟩ : ∃ n, In.numV a2.data.toList 1099511627776 = n := ⟨_, rfl⟩
      obtain ⟨t2, ht2⟩ : ∃ n, In.isNum a2.data.toList = n := ⟨_, rfl⟩
      obtain ⟨n4, hn4⟩ : ∃ n, In.numV a4.data.toList 86400 = n := ⟨_, rfl⟩
      obtain ⟨t4, ht4⟩ : ∃ n, In.isNum a4.data.toList = n := ⟨_, rfl⟩
      obtain ⟨n6, hn6⟩ : ∃ n, In.numV a6.data.toList 3 = n := ⟨_, rfl⟩
      obtain ⟨t6, ht6⟩ : ∃ n, In.isNum a6.data.toList = n := ⟨_, rfl⟩
      have HN2 := Lib.hid hn2
      have HT2 := Lib.hid ht2
      have HN4 := Lib.hid hn4
      have HT4 := Lib.hid ht4
      have HN6 := Lib.hid hn6
      have HT6 := Lib.hid ht6
      clear hn2 ht2 hn4 ht4 hn6 ht6
      go_wp2_with fail
      refine (number_to a2 HN2.out HT2.out (by omega) (by omega) z2 _).mono ?_
      rintro e w2 ⟨rfl, rfl⟩
      go_wp2_with fail
      refine (number_to a4 HN4.out HT4.out (by omega) (by omega) z4 _).mono ?_
      rintro e w3 ⟨rfl, rfl⟩
      go_wp2_with fail
      refine (number_to a6 HN6.out HT6.out (by omega) (by omega) z6 _).mono ?_
      rintro e w4 ⟨rfl, rfl⟩
      have hne : w.heap.size ≠ w1.heap.size := by omega
      have HB3 : Hid (BlkAt (((w2.setCell ⟨w1.heap.size, 1, none⟩ (.int .i64 n2)).setCell ⟨w1.heap.size, 2, none⟩ (.int .i64 n4)).setCell ⟨w1.heap.size, 3, none⟩ (.int .i64 n6)) w1.heap.size kk n2 n4 n6) := Lib.hid (((HBL.out.set1 n2).set2 n4).set3 n6)
      have HBR : Hid (BlkAt (((w2.setCell ⟨w1.heap.size, 1, none⟩ (.int .i64 n2)).setCell ⟨w1.heap.size, 2, none⟩ (.int .i64 n4)).setCell ⟨w1.heap.size, 3, none⟩ (.int .i64 n6)) w.heap.size 0 0 0 0) := Lib.hid ((((HB0.out.ext he).other hne _).other hne _).other hne _)
      have x3 : Ext w (((w2.setCell ⟨w1.heap.size, 1, none⟩ (.int .i64 n2)).setCell ⟨w1.heap.size, 2, none⟩ (.int .i64 n4)).setCell ⟨w1.heap.size, 3, none⟩ (.int .i64 n6)) := (((x1.trans he).setCell x1.size _).setCell x1.size _).setCell x1.size _
      by_cases hgood : In.good7 a0 a2 a4 a6
      · obtain ⟨g1, g2, g3, g4⟩ := hgood
        have hgood : In.good7 a0 a2 a4 a6 := ⟨g1, g2, g3, g4⟩
        rw [HT2.out] at g2
        rw [HT4.out] at g3
        rw [HT6.out] at g4
        rw [HKK.out] at g1
        subst g2 g3 g4
        have g1' : (kk == 0) = false := by rw [beq_eq_false_iff_ne]; exact g1
        clear g1
        obtain ⟨v, hv⟩ : ∃ v, In.vld (kk, n2, n4, n6) = v := ⟨_, rfl⟩
        have HV := Lib.hid hv
        clear hv
        have HI : Hid (In.inc7 a0 a2 a4 a6 = (kk, n2, n4, n6)) := Lib.hid (by unfold In.inc7; rw [HKK.out, HN2.out, HN4.out, HN6.out])
        have HG := Lib.hid hgood
        clear hgood
        go_wp2_with fail
        refine (valid_to (kk, n2, n4, n6) HV.out _).mono ?_
        rintro e w5 ⟨rfl, hb5⟩
        obtain ⟨hgi, ⟨i0, i1, i2, i3⟩, -⟩ := HB3.out.ext hb5
        obtain ⟨hgr, ⟨r0, r1, r2, r3⟩, ⟨rf0, rf1, rf2, rf3⟩⟩ := HBR.out.ext hb5
        have x5 := x3.trans hb5
        by_cases hz0 : v = 0
        · have hz0' : (v != 0) = false := by rw [hz0]; rfl
          have hfin := HR.out
          rw [if_pos HG.out, HI.out, HV.out, if_neg (by simp [hz0])] at hfin
          injection hfin with hf1 hf2
          subst hf1 hf2
          clear hz0 b0 b1 b2 b3 f0 f1 f2 f3 s0 s2 s4 s6
          go_wp2
          exact bodyPost_ret (v := .tuple #[.agg #[.int .i64 kk, .int .i64 n2, .int .i64 n4, .int .i64 n6], .int .i64 0]) (by simp [results, Tryd.results27, go_sem, r0, r1, r2, r3]) rfl ⟨rfl, Ext.setCells (Nat.le_refl _) [.int .i64 kk, .int .i64 n2, .int .i64 n4, .int .i64 n6] 0 x5⟩
        · have hz0' : (v != 0) = true := by rw [bne_iff_ne]; exact hz0
          have hfin := HR.out
          rw [if_pos HG.out, HI.out, HV.out, if_pos (by simp [hz0])] at hfin
          injection hfin with hf1 hf2
          subst hf1 hf2
          clear hz0 b0 b1 b2 b3 f0 f1 f2 f3 s0 s2 s4 s6
          go_wp2
          exact bodyPost_ret (v := .tuple #[.agg #[.int .i64 0, .int .i64 0, .int .i64 0, .int .i64 0], .int .i64 v]) (by simp [results, Tryd.results27, go_sem, r0, r1, r2, r3]) rfl ⟨rfl, Ext.setCells (Nat.le_refl _) [.int .i64 0, .int .i64 0, .int .i64 0, .int .i64 0] 0 x5⟩
      · have hfin := HR.out
        rw [if_neg hgood] at hfin
        injection hfin with hf1 hf2
        subst hf1 hf2
        have hcs : kk = 0 ∨ (kk ≠ 0 ∧ t2 = false) ∨ (kk ≠ 0 ∧ t2 = true ∧ t4 = false) ∨ (kk ≠ 0 ∧ t2 = true ∧ t4 = true ∧ t6 = false) := by
          by_cases e0 : kk = 0
          · exact Or.inl e0
          · cases t2 with
            | false => exact Or.inr (Or.inl ⟨e0, rfl⟩)
            | true =>
              cases t4 with
              | false => exact Or.inr (Or.inr (Or.inl ⟨e0, rfl, rfl⟩))
              | true =>
                cases t6 with
                | false => exact Or.inr (Or.inr (Or.inr ⟨e0, rfl, rfl, rfl⟩))
                | true => exact absurd ⟨by rw [HKK.out]; exact e0, HT2.out, HT4.out, HT6.out⟩ hgood
        obtain ⟨hgr, ⟨r0, r1, r2, r3⟩, ⟨rf0, rf1, rf2, rf3⟩⟩ := HBR.out
        obtain ⟨hgi, ⟨i0, i1, i2, i3⟩, -⟩ := HB3.out
        have hz9 : w.heap.size < w2.heap.size := by omega
        have p0 : w2.cell? ⟨w.heap.size, 0, none⟩ = some (.int .i64 0) := (HB0.out.ext he).2.1.1
        have p1 : w2.cell? ⟨w.heap.size, 1, none⟩ = some (.int .i64 0) := (HB0.out.ext he).2.1.2.1
        have p2 : w2.cell? ⟨w.heap.size, 2, none⟩ = some (.int .i64 0) := (HB0.out.ext he).2.1.2.2.1
        have p3 : w2.cell? ⟨w.heap.size, 3, none⟩ = some (.int .i64 0) := (HB0.out.ext he).2.1.2.2.2
        have pf0 : w2.frozen? ⟨w.heap.size, 0, none⟩ = false := (HB0.out.ext he).2.2.1
        have pf1 : w2.frozen? ⟨w.heap.size, 1, none⟩ = false := (HB0.out.ext he).2.2.2.1
        have pf2 : w2.frozen? ⟨w.heap.size, 2, none⟩ = false := (HB0.out.ext he).2.2.2.2.1
        have pf3 : w2.frozen? ⟨w.heap.size, 3, none⟩ = false := (HB0.out.ext he).2.2.2.2.2
        have hne' : w1.heap.size ≠ w.heap.size := by omega
        have R0 := Lib.hid r0
        have R1 := Lib.hid r1
        have R2 := Lib.hid r2
        have R3 := Lib.hid r3
        clear hgood hgr hgi r0 r1 r2 r3 i0 i1 i2 i3 rf0 rf1 rf2 rf3
        rcases hcs with rfl | ⟨e0, rfl⟩ | ⟨e0, rfl, rfl⟩ | ⟨e0, rfl, rfl, rfl⟩
        · go_wp2
          exact bodyPost_ret (v := .tuple #[.agg #[.int .i64 0, .int .i64 0, .int .i64 0, .int .i64 0], .int .i64 2]) (by simp [results, Tryd.results27, go_sem, R0.out, R1.out, R2.out, R3.out]) rfl ⟨rfl, Ext.setCells (Nat.le_refl _) [.int .i64 0, .int .i64 0, .int .i64 0, .int .i64 0] 0 x3⟩
        all_goals
          have e0' : (kk == 0) = false := by rw [beq_eq_false_iff_ne]; exact e0
          clear e0
          go_wp2
          exact bodyPost_ret (v := .tuple #[.agg #[.int .i64 0, .int .i64 0, .int .i64 0, .int .i64 0], .int .i64 2]) (by simp [results, Tryd.results27, go_sem, R0.out, R1.out, R2.out, R3.out]) rfl ⟨rfl, Ext.setCells (Nat.le_refl _) [.int .i64 0, .int .i64 0, .int .i64 0, .int .i64 0] 0 x3⟩
/-- Parse, whatever the string. -/
theorem parse_any (s : ByteArray) (hs : s.size ≤ 140737488355328) (w : World) {r : In.Inc} {er : Int} (hr : In.parseP (In.pcs s) = (r, er)) :
    Calls Tryd.prog 27 #[.string s] w fun e w' => e = .returned (.tuple #[In.agg r, .int .i64 er]) ∧ Ext w w' := by
  by_cases h7 : (In.pcs s).length = 7
  · obtain ⟨a0, a1, a2, a3, a4, a5, a6, hp⟩ : ∃ a0 a1 a2 a3 a4 a5 a6, In.pcs s = [a0, a1, a2, a3, a4, a5, a6] := by
      match In.pcs s, h7 with
      | [a0, a1, a2, a3, a4, a5, a6], _ => exact ⟨a0, a1, a2, a3, a4, a5, a6, rfl⟩
    by_cases hg : a1 = In.AT ∧ a3 = In.LOST ∧ a5 = In.GRAVE
    · exact parse_seven s a0 a1 a2 a3 a4 a5 a6 hs hp hg.1 hg.2.1 hg.2.2 w hr
    · have e1 : (r, er) = (In.zero, 2) := by
        rw [← hr, hp]
        exact if_neg hg
      injection e1 with e1 e2
      subst e1 e2
      exact parse_word s a0 a1 a2 a3 a4 a5 a6 hs hp hg w
  · rw [In.parseP_len h7] at hr
    injection hr with e1 e2
    subst e1 e2
    exact parse_long s hs h7 w
end Go.Proofs.YtcpapnnghclbmaaDoor
