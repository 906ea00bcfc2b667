/- Big numbers of the reference: slices of limbs; Norm: its contract. Conditions: those of each theorem. Limbs of a number; multiplication limb by limb, in plain words. No conditions. -/
import Derived.Test.YtgaepmddbjdhfaaGreatDoorIL
import Derived.Laws.CopyOwn
import Derived.Laws.MakeOwn
namespace Go.Proofs.YtgaepmddbjdhfaaGreatDoor
open Go.ChangeShapes Go.WideShapes Go.ChangeAt Go.RowKit

namespace Na
/-- Without the zeros at the end. -/
def nrm : List Nat → List Nat
  | [] => []
  | x :: l => if nrm l = [] ∧ x = 0 then [] else x :: nrm l
theorem nrm_zero : ∀ {l : List Nat}, (∀ x ∈ l, x = 0) → nrm l = []
  | [], _ => rfl
  | x :: l, h => by
    rw [nrm, if_pos ⟨nrm_zero (fun y hy => h y (by simp [hy])), h x (by simp)⟩]
theorem nrm_last : ∀ {l m : List Nat} {x : Nat}, x ≠ 0 → (∀ y ∈ m, y = 0) → nrm (l ++ x :: m) = l ++ [x]
  | [], m, x, hx, hm => by rw [List.nil_append, nrm, if_neg (fun e => hx e.2), nrm_zero hm]; rfl
  | y :: l, m, x, hx, hm => by
    rw [List.cons_append, nrm, nrm_last (l := l) hx hm, if_neg (fun e => by simp at e)]; rfl
theorem nrm_take {l : List Nat} {k : Nat} (hk : k ≤ l.length) (h0 : ∀ (j v : Nat), k ≤ j → l[j]? = some v → v = 0) (h1 : k = 0 ∨ ∃ v, l[k - 1]? = some v ∧ v ≠ 0) : nrm l = l.take k := by
  have hz : ∀ y ∈ l.drop k, y = 0 := fun y hy => by
    obtain ⟨j, hj⟩ := List.getElem?_of_mem hy
    rw [List.getElem?_drop] at hj
    exact h0 (k + j) y (by omega) hj
  rcases h1 with rfl | ⟨v, hv, hv0⟩
  · rw [List.drop_zero] at hz
    rw [nrm_zero hz]; rfl
  · rcases Nat.eq_zero_or_pos k with g | g
    · subst g
      rw [List.drop_zero] at hz
      rw [nrm_zero hz]; rfl
    · obtain ⟨j, rfl⟩ : ∃ j, k = j + 1 := ⟨k - 1, by omega⟩
      rw [Nat.add_sub_cancel] at hv
      obtain ⟨hj, rfl⟩ := List.getElem?_eq_some_iff.1 hv
      have e : l = l.take j ++ l[j] :: l.drop (j + 1) := by
        rw [← List.drop_eq_getElem_cons hj, List.take_append_drop]
      have := nrm_last (l := l.take j) (m := l.drop (j + 1)) hv0 hz
      rw [← e] at this
      rw [this, List.take_add_one, hv]; rfl
theorem nrm_len : ∀ l : List Nat, (nrm l).length ≤ l.length
  | [] => Nat.le_refl _
  | x :: l => by
    have := nrm_len l
    rw [nrm]; split <;> simp; omega
theorem nrm_mem : ∀ {l : List Nat} {x : Nat}, x ∈ nrm l → x ∈ l
  | [], _, h => h
  | y :: l, x, h => by
    rw [nrm] at h
    split at h
    · simp at h
    · rcases List.mem_cons.1 h with rfl | g
      · simp
      · exact List.mem_cons_of_mem _ (nrm_mem g)
/-- The number. -/
def val : List Nat → Nat
  | [] => 0
  | x :: l => x + 4294967296 * val l
theorem val_nrm : ∀ l : List Nat, val (nrm l) = val l
  | [] => rfl
  | x :: l => by
    have ih := val_nrm l
    rw [nrm]
    split
    · rename_i h
      rw [h.1] at ih
      show 0 = x + 4294967296 * val l
      rw [← ih, h.2]; rfl
    · rw [val, val, ih]
theorem nrm_nil {l : List Nat} : nrm l = [] ↔ val l = 0 := by
  constructor
  · intro h; rw [← val_nrm, h]; rfl
  · intro h
    refine nrm_zero ?_
    induction l with
    | nil => intro x hx; simp at hx
    | cons y l ih =>
      rw [val] at h
      intro x hx
      rcases List.mem_cons.1 hx with rfl | g
      · omega
      · exact ih (by omega) x g
theorem nrm_nrm (l : List Nat) : nrm (nrm l) = nrm l := by
  induction l with
  | nil => rfl
  | cons x l ih =>
    by_cases h : nrm l = [] ∧ x = 0
    · have e : nrm (x :: l) = [] := by rw [nrm, if_pos h]
      rw [e]; rfl
    · have e : nrm (x :: l) = x :: nrm l := by rw [nrm, if_neg h]
      rw [e, nrm, ih, if_neg h]
/-- Division by a small number, the rest too. -/
def quo (d : Nat) : List Nat → List Nat × Nat
  | [] => ([], 0)
  | x :: l => (((quo d l).2 * 4294967296 + x) / d :: (quo d l).1, ((quo d l).2 * 4294967296 + x) % d)
theorem quo_len (d : Nat) : ∀ l : List Nat, (quo d l).1.length = l.length
  | [] => rfl
  | x :: l => by rw [quo]; simp [quo_len d l]
theorem quo_lt {d : Nat} (hd : 0 < d) : ∀ l : List Nat, (quo d l).2 < d
  | [] => hd
  | x :: l => by rw [quo]; exact Nat.mod_lt _ hd
theorem quo_val {d : Nat} (hd : 0 < d) : ∀ l : List Nat, val (quo d l).1 * d + (quo d l).2 = val l
  | [] => by simp [quo, val]
  | x :: l => by
    have ih := quo_val hd l
    rw [quo]
    simp only [val]
    rw [← ih]
    have e := Nat.div_add_mod ((quo d l).2 * 4294967296 + x) d
    generalize ((quo d l).2 * 4294967296 + x) / d = q at *
    generalize ((quo d l).2 * 4294967296 + x) % d = r at *
    generalize val (quo d l).1 = V at *
    generalize (quo d l).2 = R at *
    have e2 : (q + 4294967296 * V) * d = d * q + 4294967296 * (V * d) := by
      rw [Nat.add_mul, Nat.mul_comm q d, Nat.mul_assoc]
    rw [e2, Nat.mul_add]
    omega
theorem quo_div {d : Nat} (hd : 0 < d) (l : List Nat) : val (quo d l).1 = val l / d ∧ (quo d l).2 = val l % d := by
  have h := quo_val hd l
  have h2 := quo_lt hd l
  constructor
  · rw [← h, Nat.mul_comm, Nat.mul_add_div hd, Nat.div_eq_of_lt h2, Nat.add_zero]
  · rw [← h, Nat.mul_comm, Nat.mul_add_mod, Nat.mod_eq_of_lt h2]
theorem quo_limb {d : Nat} (hd : 0 < d) : ∀ {l : List Nat}, (∀ x ∈ l, x < 4294967296) → ∀ x ∈ (quo d l).1, x < 4294967296
  | [], _, x, hx => by simp [quo] at hx
  | y :: l, h, x, hx => by
    rw [quo] at hx
    rcases List.mem_cons.1 hx with rfl | g
    · have h1 := quo_lt hd l
      have h2 := h y (by simp)
      rw [Nat.div_lt_iff_lt_mul hd]
      have : (quo d l).2 + 1 ≤ d := h1
      have := Nat.mul_le_mul_right 4294967296 this
      rw [Nat.mul_comm 4294967296 d]
      omega
    · exact quo_limb hd (fun z hz => h z (by simp [hz])) x g
end Na

/-- The limbs lie at A. -/
def SlU (w : World) (A : Option Addr) (xs : List Nat) : Prop := Sl w 1 A (xs.map fun x : Nat => [.int .u32 (x : Int)])
theorem SlU.ext {w w' : World} {A : Option Addr} {xs : List Nat} (h : SlU w A xs) (he : Ext w w') : SlU w' A xs := Sl.ext h he
theorem SlU.nil (w : World) (A : Option Addr) : SlU w A [] := Or.inl rfl
theorem SlU.at_ {w : World} {A : Option Addr} {xs : List Nat} (h : SlU w A xs) {i x : Nat} (hi : xs[i]? = some x) :
    ∃ b off, A = some ⟨b, off, none⟩ ∧ b < w.heap.size ∧ w.cell? ⟨b, off + i, none⟩ = some (.int .u32 (x : Int)) := by
  obtain ⟨b, off, hA, hb, hc⟩ := Sl.at_ (i := i) (cs := [.int .u32 (x : Int)]) h (by simp [hi])
  refine ⟨b, off, hA, hb, ?_⟩
  have := hc 0 _ rfl
  simpa using this
/-- A block's cells as a slice. -/
theorem Sl.of_heap {w : World} {g : Nat} {cs : List Value} {t : TypeId} {fr : Nat × Nat} (h : w.heap[g]? = some (.cells cs.toArray t fr)) : Sl w 1 (some ⟨g, 0, none⟩) (cs.map fun v => [v]) := by
  refine Or.inr ⟨g, 0, rfl, ?_, fun i xs hi j v hv => ?_⟩
  · rcases Nat.lt_or_ge g w.heap.size with e | e
    · exact e
    · rw [Array.getElem?_eq_none e] at h; cases h
  · rw [List.getElem?_map] at hi
    obtain ⟨u, hu, rfl⟩ := Option.map_eq_some_iff.1 hi
    have hj : j = 0 := by
      rcases Nat.eq_zero_or_pos j with g | g
      · exact g
      · rw [List.getElem?_eq_none (by simp; omega)] at hv; cases hv
    subst hj
    simp at hv
    subst hv
    rw [show 0 + (i * 1 + 0) = i by omega, cell_of_row w g i _ t fr h]
    simpa using hu
theorem SlU.of_heap {w : World} {g : Nat} {xs : List Nat} {t : TypeId} {fr : Nat × Nat} (h : w.heap[g]? = some (.cells (xs.map fun x : Nat => Value.int .u32 (x : Int)).toArray t fr)) : SlU w (some ⟨g, 0, none⟩) xs := by
  have := Sl.of_heap h
  rw [List.map_map] at this
  exact this
theorem slU_take {w : World} {A : Option Addr} {xs : List Nat} (h : SlU w A xs) (k : Nat) : SlU w A (xs.take k) := by
  rcases h with h | ⟨b, off, hA, hb, hc⟩
  · have : xs = [] := by simpa using h
    subst this
    simp; exact SlU.nil _ _
  · refine Or.inr ⟨b, off, hA, hb, fun i cs hi j v hv => ?_⟩
    rw [List.map_take, List.getElem?_take] at hi
    split at hi
    · exact hc i cs hi j v hv
    · cases hi
theorem Tryz.infoU32 : (Tryz.prog.info? 73).map (fun i => (i.zero, i.size, i.bytes)) = some (some (.int .u32 0), 1, 4) := by kernel_rfl
theorem splice_all {α : Type} {L cs : List α} (h : cs.length = L.length) : Go.splice L 0 cs = cs := by
  unfold Go.splice
  rw [List.take_zero, List.nil_append, List.drop_eq_nil_of_le (by omega), List.append_nil]

theorem ret_slice2 {A : Option Addr} {n m : Nat} (h : n = m) : Ending.returned (.slice A n n) = .returned (.slice A m m) := by rw [h]
theorem copy_onto {P : Program} {w W0 : World} {dT sT elem : TypeId} (hu : P.underlying dT = some (.slice elem)) (hs : (P.info? elem).map (·.size) = some 1) (g n dc sLen sCap : Nat) (A : Option Addr) (cur : List Value) (t : TypeId) (hg : w.heap[g]? = some (.cells cur.toArray t (0, 0))) (cs : List Value)
    (hcs : cs.length = n) (hcur : cur.length = n) (hmin : n ≤ sLen) (hsl : Sl w 1 A (cs.map fun v => [v])) (h1 : ∀ v ∈ cs, v.oneCell' = true) (hb : Ext W0 w) (hBg : W0.heap.size ≤ g) :
    ∃ w2, (∀ ty, (Builtin.copy_ #[dT, sT] ty #[.slice (some ⟨g, 0, none⟩) n dc, .slice A sLen sCap]).run P w = .ok (.int .i64 (n : Int)) w2) ∧ w2.heap[g]? = some (.cells cs.toArray t (0, 0)) ∧ Ext W0 w2 := by
  rcases Nat.eq_zero_or_pos n with h0 | h0
  · subst h0
    have e1 := List.eq_nil_of_length_eq_zero hcs
    have e2 := List.eq_nil_of_length_eq_zero hcur
    subst e1 e2
    exact ⟨w, fun ty => run_copy_none (P := P) w dT sT ty elem (some ⟨g, 0, none⟩) A 0 dc sLen sCap hu hs (Nat.min_zero _), hg, hb⟩
  · obtain ⟨b, off, hA, hbl, hc⟩ : ∃ b off, A = some ⟨b, off, none⟩ ∧ b < w.heap.size ∧ ∀ i xs, (cs.map fun v => [v])[i]? = some xs → ∀ j v, xs[j]? = some v → w.cell? ⟨b, off + (i * 1 + j), none⟩ = some v := by
      rcases hsl with e | e
      · have : cs = [] := by simpa using e
        rw [this] at hcs; simp at hcs; omega
      · exact e
    subst hA
    refine ⟨w.setRow g cs.toArray, fun ty => ?_, setRow_heap w g _ _ t _ hg, below_setRow hb hBg _⟩
    have := run_copy_row (P := P) w dT sT ty elem g 0 n dc ⟨b, off, none⟩ sLen sCap cur.toArray t cs hu hs hg (by rw [hcs]; exact (Nat.min_eq_right hmin).symm) (fun j v hj => by
      rw [add_plain]
      have := hc j [v] (by rw [List.getElem?_map, hj]; rfl) 0 v rfl
      rw [show off + (j * 1 + 0) = off + j by omega] at this
      exact this) (by rw [hcs]; simp [hcur]) h1
    have e : (cur.toArray.toList.take 0 ++ cs ++ cur.toArray.toList.drop (0 + cs.length)) = cs := by
      rw [List.take_zero, List.nil_append, List.drop_eq_nil_of_le (by simp; omega), List.append_nil]
    rw [this, e, hcs]
    rfl

set_option maxRecDepth 100000 in
set_option maxHeartbeats 3200000 in
theorem norm_any (A : Option Addr) (c : Nat) (xs : List Nat) (n : Nat) (hn : xs.length = n) {ys : List Nat} {m : Nat} (hy : Na.nrm xs = ys) (hm : ys.length = m) (w : World) (h : SlU w A xs) (hb : n ≤ 1000) :
    Calls Tryz.prog 105 #[.slice A n c] w fun e w' => ∃ b, e = .returned (.slice (some ⟨b, 0, none⟩) m m) ∧ w.heap.size ≤ b ∧ SlU w' (some ⟨b, 0, none⟩) ys ∧ Ext w w' := by
  have H := Lib.hid h
  have HN := Lib.hid hn
  have HY := Lib.hid hy
  have HM := Lib.hid hm
  clear h hn hy hm
  go_enter Tryz.func105, Tryz.ntmps105
  go_wp2
  go_loopw [3] (fun i wr => ∃ k : Nat, k ≤ n ∧ i = .int .i64 k ∧ (∀ (j v : Nat), k ≤ j → xs[j]? = some v → v = 0) ∧ Ext w wr) (fun i _ => (intOf i).toNat)
  case atStart => exact ⟨n, Nat.le_refl _, rfl, fun j v hj hv => (by rw [List.getElem?_eq_none (by rw [HN.out]; exact hj)] at hv; cases hv), Ext.refl _⟩
  case round =>
    obtain ⟨k, hk, rfl, hz, he⟩ := hrel
    have HZ := Lib.hid hz
    clear hz
    by_cases hk0 : k = 0
    · have HT : Hid (ys = xs.take k) := Lib.hid (by rw [← HY.out, Na.nrm_take (by rw [HN.out]; exact hk) HZ.out (Or.inl hk0)])
      have hk1 : ¬ (0 : Int) < (k : Int) := by omega
      have hk2 : ¬ 0 < k := by omega
      have hk3 : decide (0 < k) = false := by rw [decide_eq_false_iff_not]; exact hk2
      have hmk := run_make_row' (P := Tryz.prog) 75 73 (.int .u32 0) 4 Tryz.underlying75 Tryz.infoU32 rfl .i64 .i64 k (by omega) (by omega)
      have HK0 := Lib.hid hk0
      clear hk0
      have HTL : Hid (((xs.take k).map fun x : Nat => Value.int .u32 (x : Int)).length = k) := Lib.hid (by rw [List.length_map, List.length_take, HN.out]; omega)
      have HMK : Hid (k = m) := Lib.hid (by rw [← HM.out, HT.out, List.length_take, HN.out]; omega)
      obtain ⟨cs, hcs⟩ : ∃ cs, ((xs.take k).map fun x : Nat => Value.int .u32 (x : Int)) = cs := ⟨_, rfl⟩
      rw [hcs] at HTL
      have H1 : Hid (∀ v ∈ cs, v.oneCell' = true) := Lib.hid (fun v hv => by
        rw [← hcs] at hv
        obtain ⟨x, -, rfl⟩ := List.mem_map.1 hv
        rfl)
      have HSL : Hid (Sl (wr.alloc (.cells (madeCells #[.int .u32 0] k) 73)) 1 (A) (cs.map fun v => [v])) := Lib.hid (by
        rw [← hcs, List.map_map]
        exact slU_take ((H.out.ext he).ext ((Ext.refl _).alloc _)) k)
      have HCS := Lib.hid hcs
      clear hcs
      obtain ⟨w2, hrun, hg2, hb2⟩ := copy_onto (P := Tryz.prog) (W0 := wr) (dT := 75) (sT := 75) Tryz.underlying75 (show (Tryz.prog.info? 73).map (·.size) = some 1 by kernel_rfl) wr.heap.size k k n c (A) (madeCells #[.int .u32 0] k).toList 73 (heap_alloc_new _ _) cs HTL.out (by simp [madeCells]) hk HSL.out H1.out ((Ext.refl wr).alloc _) (Nat.le_refl _)
      have HG2 := Lib.hid hg2
      clear hg2
      go_wp2
      go_ret
      have hg3 := HG2.out
      rw [← HCS.out, ← HT.out] at hg3
      refine ⟨wr.heap.size, ?_, he.size, SlU.of_heap hg3, he.trans hb2⟩
      exact ret_slice2 HMK.out
    · obtain ⟨v, hv⟩ : ∃ v, xs[k - 1]? = some v := ⟨xs[k - 1]'(by rw [HN.out]; omega), List.getElem?_eq_getElem _⟩
      have HV := Lib.hid hv
      obtain ⟨gb, go, hA, hgb, x0⟩ := (H.out.ext he).at_ hv
      have hk1 : (0 : Int) < (k : Int) := by omega
      have hk2 : 0 < k := by omega
      have hk3 : decide (0 < k) = true := by rw [decide_eq_true_eq]; exact hk2
      have kj0 : (0 : Int) ≤ (k : Int) - 1 := by omega
      have kj1 : (k : Int) - 1 < (n : Int) := by omega
      have kj2 : 1 ≤ (k : Int) := by omega
      have hwr : IntKind.i64.wrap ((k : Int) - 1) = (k : Int) - 1 := IntWalk.i64_in _ (by omega)
      have e1 : ((k : Int) - 1).toNat = k - 1 := by omega
      clear hv
      by_cases hv0 : v = 0
      · have hb0 : ((v : Int) == 0) = true := by rw [hv0]; rfl
        have HS : Hid (∀ (j u : Nat), k - 1 ≤ j → xs[j]? = some u → u = 0) := Lib.hid (fun j u hj hu => by
          rcases Nat.lt_or_ge j k with g | g
          · obtain rfl : j = k - 1 := by omega
            rw [HV.out] at hu
            injection hu with hu
            omega
          · exact HZ.out j u g hu)
        clear hv0
        subst hA
        go_wp2
        go_roundw
        case rel => exact ⟨k - 1, by omega, by congr 1; omega, HS.out, he⟩
        case measure => simp [intOf]; omega
      · have hb0 : ((v : Int) == 0) = false := by rw [beq_eq_false_iff_ne]; omega
        have HT : Hid (ys = xs.take k) := Lib.hid (by rw [← HY.out, Na.nrm_take (by rw [HN.out]; exact hk) HZ.out (Or.inr ⟨v, HV.out, hv0⟩)])
        have hmk := run_make_row' (P := Tryz.prog) 75 73 (.int .u32 0) 4 Tryz.underlying75 Tryz.infoU32 rfl .i64 .i64 k (by omega) (by omega)
        clear hv0
        subst hA
        have HTL : Hid (((xs.take k).map fun x : Nat => Value.int .u32 (x : Int)).length = k) := Lib.hid (by rw [List.length_map, List.length_take, HN.out]; omega)
        have HMK : Hid (k = m) := Lib.hid (by rw [← HM.out, HT.out, List.length_take, HN.out]; omega)
        obtain ⟨cs, hcs⟩ : ∃ cs, ((xs.take k).map fun x : Nat => Value.int .u32 (x : Int)) = cs := ⟨_, rfl⟩
        rw [hcs] at HTL
        have H1 : Hid (∀ v ∈ cs, v.oneCell' = true) := Lib.hid (fun v hv => by
          rw [← hcs] at hv
          obtain ⟨x, -, rfl⟩ := List.mem_map.1 hv
          rfl)
        have HSL : Hid (Sl (wr.alloc (.cells (madeCells #[.int .u32 0] k) 73)) 1 (some ⟨gb, go, none⟩) (cs.map fun v => [v])) := Lib.hid (by
          rw [← hcs, List.map_map]
          exact slU_take ((H.out.ext he).ext ((Ext.refl _).alloc _)) k)
        have HCS := Lib.hid hcs
        clear hcs
        obtain ⟨w2, hrun, hg2, hb2⟩ := copy_onto (P := Tryz.prog) (W0 := wr) (dT := 75) (sT := 75) Tryz.underlying75 (show (Tryz.prog.info? 73).map (·.size) = some 1 by kernel_rfl) wr.heap.size k k n c (some ⟨gb, go, none⟩) (madeCells #[.int .u32 0] k).toList 73 (heap_alloc_new _ _) cs HTL.out (by simp [madeCells]) hk HSL.out H1.out ((Ext.refl wr).alloc _) (Nat.le_refl _)
        have HG2 := Lib.hid hg2
        clear hg2
        go_wp2
        go_ret
        have hg3 := HG2.out
        rw [← HCS.out, ← HT.out] at hg3
        refine ⟨wr.heap.size, ?_, he.size, SlU.of_heap hg3, he.trans hb2⟩
        exact ret_slice2 HMK.out
end Go.Proofs.YtgaepmddbjdhfaaGreatDoor
namespace Go.Proofs.YtgaepmddbjdhfaaGreatDoor
namespace Rw
/-- The limbs of a number, least first. -/
def limbs (n : Nat) : List Nat := if h : n = 0 then [] else n % 4294967296 :: limbs (n / 4294967296)
termination_by n
decreasing_by omega
theorem limbs_zero : limbs 0 = [] := by rw [limbs]; simp
theorem limbs_pos {n : Nat} (h : n ≠ 0) : limbs n = n % 4294967296 :: limbs (n / 4294967296) := by rw [limbs]; simp [h]
theorem val_limbs (n : Nat) : Na.val (limbs n) = n := by
  induction n using Nat.strongRecOn with
  | ind n ih =>
    by_cases h : n = 0
    · subst h; rw [limbs_zero]; rfl
    · rw [limbs_pos h, Na.val, ih _ (by omega)]; omega
theorem limbs_lt (n : Nat) : ∀ x ∈ limbs n, x < 4294967296 := by
  induction n using Nat.strongRecOn with
  | ind n ih =>
    by_cases h : n = 0
    · subst h; rw [limbs_zero]; simp
    · rw [limbs_pos h]
      intro x hx
      rcases List.mem_cons.1 hx with rfl | hx
      · omega
      · exact ih _ (by omega) x hx
theorem limbs_val : ∀ {l : List Nat}, (∀ x ∈ l, x < 4294967296) → Na.nrm l = limbs (Na.val l)
  | [], _ => by show [] = limbs 0; rw [limbs_zero]
  | x :: l, h => by
    have ih := limbs_val (l := l) (fun y hy => h y (by simp [hy]))
    have hx := h x (by simp)
    rw [Na.nrm, Na.val, ih]
    by_cases hz : Na.val l = 0
    · rw [hz, limbs_zero]
      by_cases h0 : x = 0
      · subst h0; rw [if_pos ⟨rfl, rfl⟩, Nat.mul_zero, Nat.add_zero, limbs_zero]
      · rw [if_neg (fun e => h0 e.2), Nat.mul_zero, Nat.add_zero, limbs_pos h0, Nat.mod_eq_of_lt hx, Nat.div_eq_of_lt hx, limbs_zero]
    · rw [if_neg (fun e => by
        have := congrArg Na.val e.1
        rw [val_limbs] at this
        exact hz this), limbs_pos (n := x + 4294967296 * Na.val l) (by omega), Nat.add_mul_mod_self_left, Nat.mod_eq_of_lt hx, Nat.add_mul_div_left _ _ (by decide), Nat.div_eq_of_lt hx, Nat.zero_add]
theorem nrm_limbs (n : Nat) : Na.nrm (limbs n) = limbs n := by rw [limbs_val (limbs_lt n), val_limbs]
theorem limbs_len {k : Nat} : ∀ {n : Nat}, n < 4294967296 ^ k → (limbs n).length ≤ k := by
  induction k with
  | zero => intro n h; obtain rfl : n = 0 := by simpa using h
            rw [limbs_zero]; simp
  | succ k ih =>
    intro n h
    by_cases h0 : n = 0
    · subst h0; rw [limbs_zero]; simp
    · rw [limbs_pos h0, List.length_cons]
      have := ih (n := n / 4294967296) (by rw [Nat.div_lt_iff_lt_mul (by decide), ← Nat.pow_succ]; exact h)
      omega
theorem limbs_inj {a b : Nat} (h : limbs a = limbs b) : a = b := by rw [← val_limbs a, h, val_limbs]
/-- A last limb is not 0. -/
theorem limbs_last {n : Nat} : ∀ {l : List Nat} {x : Nat}, limbs n = l ++ [x] → x ≠ 0 := by
  intro l x h h0
  subst h0
  have h1 := nrm_limbs n
  rw [h] at h1
  have h2 : Na.nrm (l ++ [0]) = Na.nrm l := by
    clear h h1
    induction l with
    | nil => rfl
    | cons y l ih => rw [List.cons_append, Na.nrm, Na.nrm, ih]
  rw [h2] at h1
  have := Na.nrm_len l
  rw [h1] at this
  simp at this
  omega


theorem val_append : ∀ l m : List Nat, Na.val (l ++ m) = Na.val l + 4294967296 ^ l.length * Na.val m
  | [], m => by simp [Na.val]
  | x :: l, m => by
    rw [List.cons_append, Na.val, Na.val, val_append l m, List.length_cons, Nat.pow_succ]
    generalize 4294967296 ^ l.length = B
    generalize Na.val l = L
    generalize Na.val m = M
    grind
theorem val_set : ∀ {l : List Nat} {k p : Nat} (v : Nat), l[k]? = some p → Na.val (l.set k v) + p * 4294967296 ^ k = Na.val l + v * 4294967296 ^ k
  | [], k, p, v, h => by simp at h
  | x :: l, 0, p, v, h => by
    simp at h
    subst h
    simp [Na.val]
    omega
  | x :: l, k + 1, p, v, h => by
    have ih := val_set (l := l) (k := k) (p := p) v (by simpa using h)
    rw [List.set_cons_succ, Na.val, Na.val, Nat.pow_succ]
    generalize 4294967296 ^ k = B at *
    generalize Na.val l = L at *
    generalize Na.val (l.set k v) = M at *
    grind
theorem val_take {l : List Nat} {k x : Nat} (h : l[k]? = some x) : Na.val (l.take (k + 1)) = Na.val (l.take k) + x * 4294967296 ^ k := by
  obtain ⟨hk, -⟩ := List.getElem?_eq_some_iff.1 h
  rw [List.take_add_one, h, Option.toList_some, val_append, List.length_take, Nat.min_eq_left (by omega), Na.val, Na.val, Nat.mul_zero, Nat.add_zero, Nat.mul_comm]
theorem val_zeros : ∀ n : Nat, Na.val (List.replicate n 0) = 0
  | 0 => rfl
  | n + 1 => by rw [List.replicate_succ, Na.val, val_zeros n]
/-- Multiplication limb by limb: i rows are done, and j places of the next one; c is carried. -/
structure MI (xs ys : List Nat) (i j c : Nat) (P : List Nat) : Prop where
  len : P.length = xs.length + ys.length
  lt : ∀ x ∈ P, x < 4294967296
  cl : c < 4294967296
  val : Na.val P + c * 4294967296 ^ (i + j) = Na.val (xs.take i) * Na.val ys + xs.getD i 0 * Na.val (ys.take j) * 4294967296 ^ i
  zero : ∀ q, i + ys.length ≤ q → q < P.length → P[q]? = some 0
theorem MI.start (xs ys : List Nat) : MI xs ys 0 0 0 (List.replicate (xs.length + ys.length) 0) where
  len := by simp
  lt x hx := by rw [(List.mem_replicate.1 hx).2]; decide
  cl := by decide
  val := by rw [val_zeros]; simp [Na.val]
  zero q _ hq := by rw [List.length_replicate] at hq; rw [List.getElem?_replicate, if_pos hq]
theorem limb_sum {x y p c : Nat} (hx : x < 4294967296) (hy : y < 4294967296) (hp : p < 4294967296) (hc : c < 4294967296) : x * y + p + c < 18446744073709551616 := by
  have h1 : x * y ≤ 4294967295 * 4294967295 := Nat.mul_le_mul (by omega) (by omega)
  omega
theorem MI.at_ {xs ys P : List Nat} {i j c : Nat} (h : MI xs ys i j c P) {q : Nat} (hq : q < xs.length + ys.length) : ∃ p, P[q]? = some p ∧ p < 4294967296 := by
  have : q < P.length := by rw [h.len]; exact hq
  exact ⟨P[q], List.getElem?_eq_getElem this, h.lt _ (List.getElem_mem this)⟩
theorem MI.step {xs ys P : List Nat} {i j c x y p : Nat} (h : MI xs ys i j c P) (hx : xs[i]? = some x) (hy : ys[j]? = some y) (hp : P[i + j]? = some p) (hxl : x < 4294967296) (hyl : y < 4294967296) :
    MI xs ys i (j + 1) ((x * y + p + c) / 4294967296) (P.set (i + j) ((x * y + p + c) % 4294967296)) := by
  obtain ⟨hj, -⟩ := List.getElem?_eq_some_iff.1 hy
  have hpl : p < 4294967296 := h.lt p (List.mem_of_getElem? hp)
  have hs := limb_sum hxl hyl hpl h.cl
  refine ⟨by rw [List.length_set, h.len], fun z hz => ?_, by omega, ?_, fun q h1 h2 => ?_⟩
  · rcases List.mem_or_eq_of_mem_set hz with hz | rfl
    · exact h.lt z hz
    · exact Nat.mod_lt _ (by decide)
  · have e1 := val_set ((x * y + p + c) % 4294967296) hp
    have e2 := h.val
    have e3 := val_take hy
    have e4 := Nat.div_add_mod (x * y + p + c) 4294967296
    have e5 : xs.getD i 0 = x := by rw [List.getD_eq_getElem?_getD, hx]; rfl
    rw [e5] at e2 ⊢
    rw [e3]
    have e6 : 4294967296 ^ (i + (j + 1)) = 4294967296 * 4294967296 ^ (i + j) := by rw [← Nat.add_assoc, Nat.pow_succ, Nat.mul_comm]
    have e7 : 4294967296 ^ (i + j) = 4294967296 ^ i * 4294967296 ^ j := Nat.pow_add _ _ _
    rw [e6]
    generalize 4294967296 ^ (i + j) = BIJ at *
    generalize 4294967296 ^ i = BI at *
    generalize 4294967296 ^ j = BJ at *
    generalize (x * y + p + c) / 4294967296 = D at *
    generalize (x * y + p + c) % 4294967296 = R at *
    generalize Na.val (P.set (i + j) R) = V' at *
    generalize Na.val P = V at *
    generalize Na.val (ys.take j) = YJ at *
    generalize Na.val (xs.take i) * Na.val ys = W at *
    grind
  · rw [List.length_set] at h2
    rw [List.getElem?_set_ne (by omega)]
    exact h.zero q h1 h2
theorem MI.next {xs ys P : List Nat} {i c x : Nat} (h : MI xs ys i ys.length c P) (hx : xs[i]? = some x) : MI xs ys (i + 1) 0 0 (P.set (i + ys.length) c) := by
  obtain ⟨hi, -⟩ := List.getElem?_eq_some_iff.1 hx
  have h0 := h.zero (i + ys.length) (Nat.le_refl _) (by rw [h.len]; omega)
  refine ⟨by rw [List.length_set, h.len], fun z hz => ?_, by decide, ?_, fun q h1 h2 => ?_⟩
  · rcases List.mem_or_eq_of_mem_set hz with hz | rfl
    · exact h.lt z hz
    · exact h.cl
  · have e1 := val_set c h0
    have e2 := h.val
    have e3 := val_take hx
    have e5 : xs.getD i 0 = x := by rw [List.getD_eq_getElem?_getD, hx]; rfl
    rw [e5, List.take_length] at e2
    rw [e3]
    simp only [List.take_zero, Na.val, Nat.mul_zero, Nat.zero_mul, Nat.add_zero] at e1 ⊢
    rw [e1, e2, Nat.add_mul]
    congr 1
    generalize 4294967296 ^ i = BI
    generalize Na.val ys = Y
    grind
  · rw [List.length_set] at h2
    rw [List.getElem?_set_ne (by omega)]
    exact h.zero q (by omega) h2
theorem MI.done {xs ys P : List Nat} (h : MI xs ys xs.length 0 0 P) : Na.val P = Na.val xs * Na.val ys := by
  have := h.val
  simpa [Na.val] using this
end Rw
end Go.Proofs.YtgaepmddbjdhfaaGreatDoor
