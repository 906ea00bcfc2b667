/- slices.Clone and slices.SortFunc at incidents: contracts; an append of any slice in a list of operations. Conditions: those of each theorem. -/
import Derived.Test.YtcpapnnghclbmaaDoorInB
import Derived.Test.YtcpapnnghclbmaaDoorShIn
import Derived.Lib.SliceRun
import Derived.Shelf.SlSortFuncK.ComposeK
namespace Go.Proofs.YtcpapnnghclbmaaDoor
open Go.RowKit Go.Sort

theorem Tryd.infoInc : (Tryd.prog.info? 23).map (fun i => (i.zero, i.size, i.bytes)) = some (some (.agg #[.int .i64 0, .int .i64 0, .int .i64 0, .int .i64 0]), 4, 32) := by kernel_rfl
theorem wpList_append_sl {P : Program} {w : World} {ops : Array Oper} {rest : List Oper} {o : Oper} {a : Act} {Q : Exit → Act → World → Prop} (hgd : o.guard = none) (s x : Operand) (t : TypeId)
    (ho : o.op = .call { callee := .builtin .append, args := #[s, x], argTypes := #[t, t] })
    (base : Nat) (e : TypeId) (i : TypeInfo) (z : Value) (size bytes : Nat) (ht : P.underlying t = some (.slice e)) (hi : P.info? e = some i) (hz : i.zero = some z)
    (hsize : i.size = size) (hby : i.bytes = bytes) (hzs : z.cells.size = size) (hsz : 0 < size)
    (v : Value) (n : Nat) (xs : List Value) (hs : a.eval s = v) (hown : w.ownsRow base e size v n xs)
    (A : Option Addr) (c m : Nat) (xss : List (List Value)) (hm : xss.length = m) (hx : a.eval x = .slice A m c) (hr : Sl w size A xss) (hk : ∀ c ∈ xss, c.length = size) (h1 : ∀ c ∈ xss, ∀ u ∈ c, u.oneCell' = true)
    (h63 : n + m ≤ maxLen) (hbytes : (n + m) * bytes ≤ 140737488355328) (hbase : base ≤ w.heap.size)
    (h : ∀ A' c' w', w'.ownsRow base e size (.slice A' (n + m) c') (n + m) (xs ++ xss.flatten) → w.grownBy w' v.ownBlock → wpList P ops Q rest (a.put o.dst (.slice A' (n + m) c')) w') : wpList P ops Q (o :: rest) a w := by
  subst hm
  obtain ⟨v', w', hrun, hown', hgr, -⟩ := run_append_sl w base t o.type e i z size bytes ht hi hz hsize hby hzs hsz v n xs hown A c xss hr hk h1 h63 hbytes hbase
  obtain ⟨A', c', rfl⟩ := own_form hown'
  refine wpList_plain hgd fun K hK => ?_
  unfold Oper.wp
  rw [exec_append ho hs hx hrun]
  exact hK _ _ (h A' c' w' hown' hgr)

/-- The post of a function that returns incidents in a row of its own. -/
def RetOwnN (ps : List In.Inc) (w : World) (e : Ending) (w' : World) : Prop :=
  ∃ (A : Option Addr) (c : Nat), e = .returned (.slice A ps.length c) ∧ w'.ownsRow w.heap.size 23 4 (.slice A ps.length c) ps.length (ps.map In.cells).flatten ∧ Ext w w'
theorem inc_cells (ps : List In.Inc) : (∀ c ∈ ps.map In.cells, c.length = 4) ∧ (∀ c ∈ ps.map In.cells, ∀ u ∈ c, u.oneCell' = true) := by
  refine ⟨fun c hc => ?_, fun c hc u hu => ?_⟩
  · obtain ⟨p, -, rfl⟩ := List.mem_map.1 hc; rfl
  · obtain ⟨p, -, rfl⟩ := List.mem_map.1 hc
    simp [In.cells] at hu
    rcases hu with rfl | rfl | rfl | rfl <;> rfl
theorem SlN.none {w : World} {ps : List In.Inc} (h : SlN w none ps) : ps = [] := by
  rcases h with h | ⟨b, off, h, -⟩
  · simpa using h
  · cases h
theorem own_zero (w : World) (e : TypeId) (size n : Nat) (hn : n = w.heap.size) : (w.alloc (.cells #[] e)).ownsRow n e size (.slice (some ⟨n, 0, none⟩) 0 0) 0 [] := by
  subst hn
  exact ⟨by simp, Or.inr ⟨w.heap.size, 0, #[], rfl, Nat.le_refl _, heap_alloc_new _ _, Nat.le_refl _, Nat.zero_le _, by simp, by simp⟩⟩

set_option maxHeartbeats 800000 in
theorem clone_any (A : Option Addr) (c : Nat) (ps : List In.Inc) (w : World) (h : SlN w A ps) (hb : ps.length ≤ 1000) :
    Calls Tryd.prog 32 #[.slice A ps.length c] w (RetOwnN ps w) := by
  have hq : ∀ (w : World) (a : Option Addr) (n c n' c' : Nat), (binOp .eql 24 (.slice a n c) (.slice none n' c')).run Tryd.prog w = .ok (.bool a.isNone) w := fun w a n c n' c' => Lib.run_eql_slice_nil w _ _ a n c n' c' Tryd.underlying24
  cases A with
  | none =>
    obtain rfl := SlN.none h
    go_enter Tryd.func32, Tryd.ntmps32
    go_wp2
    go_ret
    exact ⟨none, 0, rfl, own_nil _ _ _ _, Ext.refl _⟩
  | some a =>
    have H := Lib.hid h
    clear h
    obtain ⟨i0, hi0, hz0, hz1, hz2⟩ := info_parts Tryd.infoInc
    go_enter Tryd.func32, Tryd.ntmps32
    go_wp2_with (at_builtin; refine wpList_append_sl rfl _ _ 24 rfl w.heap.size 23 i0 (.agg #[.int .i64 0, .int .i64 0, .int .i64 0, .int .i64 0]) 4 32 Tryd.underlying24 hi0 hz0 hz1 hz2 rfl (by decide) (.slice (some ⟨w.heap.size, 0, none⟩) 0 0) 0 [] rfl (own_zero _ _ _ _ rfl) (some a) c ps.length (ps.map In.cells) (by simp) rfl (H.out.ext ((Ext.refl _).alloc _)) (inc_cells ps).1 (inc_cells ps).2 (by unfold maxLen; omega) (by omega) (by simp) ?_; intro A' c' w2 hown2 hgr2; rw [Nat.zero_add, List.nil_append] at hown2)
    go_wp2
    go_ret
    exact ⟨A', c', rfl, hown2, ((Ext.refl w).alloc _).grown hgr2 (fun k hk => by simp [Value.ownBlock] at hk; omega)⟩

namespace In
def lt (p q : Inc) : Bool := decide (cf p q < 0)
/-- The incidents in order. -/
def srt (ps : List Inc) : List Inc := ps.mergeSort fun x y => !lt y x
/-- The order in plain words. -/
def Lt (p q : Inc) : Prop := p.2.1 < q.2.1 ∨ (p.2.1 = q.2.1 ∧ (p.1 < q.1 ∨ (p.1 = q.1 ∧ (p.2.2.1 < q.2.2.1 ∨ (p.2.2.1 = q.2.2.1 ∧ p.2.2.2 < q.2.2.2)))))
theorem cmpI_lt {a b : Int} (h : a < b) : cmpI a b = -1 := by unfold cmpI; rw [if_pos h]
theorem cmpI_gt {a b : Int} (h : b < a) : cmpI a b = 1 := by unfold cmpI; rw [if_neg (by omega), if_pos h]
theorem cmpI_eq (a : Int) : cmpI a a = 0 := by unfold cmpI; rw [if_neg (by omega), if_neg (by omega)]
theorem orL_cmp (a b : Int) (l : List Int) : (orL (cmpI a b :: l) < 0) ↔ (a < b ∨ (a = b ∧ orL l < 0)) := by
  rcases Int.lt_trichotomy a b with h | h | h
  · rw [cmpI_lt h, orL, if_pos (by decide)]; constructor
    · intro _; exact Or.inl h
    · intro _; decide
  · subst h
    rw [cmpI_eq, orL, if_neg (by decide)]; constructor
    · intro g; exact Or.inr ⟨rfl, g⟩
    · rintro (g | ⟨_, g⟩)
      · omega
      · exact g
  · rw [cmpI_gt h, orL, if_pos (by decide)]; constructor
    · intro g; exact absurd g (by decide)
    · rintro (g | ⟨g, _⟩) <;> omega
theorem lt_iff (p q : Inc) : lt p q = true ↔ Lt p q := by
  unfold lt cf Lt
  rw [decide_eq_true_iff, orL_cmp, orL_cmp, orL_cmp, orL_cmp]
  have : ¬ orL [] < 0 := by decide
  constructor
  · intro h; omega
  · intro h; omega
theorem lt_false (p q : Inc) : lt p q = false ↔ ¬ Lt p q := by
  rw [← lt_iff]; simp
theorem Lt.total {p q : Inc} (h1 : ¬ Lt p q) (h2 : ¬ Lt q p) : p = q := by
  obtain ⟨a, b, c, d⟩ := p
  obtain ⟨a', b', c', d'⟩ := q
  unfold Lt at h1 h2
  simp only at h1 h2
  simp only [Prod.mk.injEq]
  omega
theorem swo : SWO lt where
  irrefl x := by rw [lt_false]; unfold Lt; omega
  trans x y z h1 h2 := by rw [lt_iff] at *; unfold Lt at *; omega
  ntrans x y z h1 h2 := by rw [lt_false] at *; unfold Lt at *; omega
theorem lt_total (x y : Inc) (h1 : lt x y = false) (h2 : lt y x = false) : x = y := Lt.total ((lt_false x y).1 h1) ((lt_false y x).1 h2)
theorem srt_len (ps : List Inc) : (srt ps).length = ps.length := List.length_mergeSort _
theorem srt_mem {ps : List Inc} {p : Inc} : p ∈ srt ps ↔ p ∈ ps := List.mem_mergeSort
end In
theorem flat_at {ps : List In.Inc} {i r : Nat} {p : In.Inc} (hi : ps[i]? = some p) (hr : r < 4) : ((ps.map In.cells).flatten)[i * 4 + r]? = some ((In.cells p)[r]!) := by
  refine flatten_at (k := 4) (inc_cells ps).1 (i := i) (cs := In.cells p) (by simp [hi]) ?_
  match r, hr with
  | 0, _ => rfl
  | 1, _ => rfl
  | 2, _ => rfl
  | 3, _ => rfl
theorem flatK_at {ps : List In.Inc} {i r : Nat} {p : In.Inc} (hi : ps[i]? = some p) (hr : r < 4) : (flatK In.cells 4 ps.toArray)[i * 4 + r]! = (In.cells p)[r]! := by
  have hl : i < ps.length := by
    rcases Nat.lt_or_ge i ps.length with g | g
    · exact g
    · rw [List.getElem?_eq_none g] at hi; cases hi
  rw [get_flatK _ _ _ _ (by simp; omega), show (i * 4 + r) / 4 = i by omega, show (i * 4 + r) % 4 = r by omega]
  have : ps.toArray[i]! = p := by
    rw [getElem!_pos _ i (by simpa using hl)]
    rw [List.getElem?_eq_getElem hl] at hi
    injection hi with hi
  rw [this]
theorem sortWorld_ext {W w : World} (hW : Ext W w) (g off m : Nat) (d : Array In.Inc) (os : Array Obj) (hg : W.heap.size ≤ g) : Ext W (sortWorldK In.cells 4 w g off m d os) := by
  refine ⟨hW.os, hW.tape, hW.output, ?_, fun k hk => ?_⟩
  · refine Nat.le_trans hW.size ?_
    show _ ≤ ((w.heap.modify g _) ++ os).size
    simp
  · rw [← hW.block k hk]
    show ((w.heap.modify g _) ++ os)[k]? = _
    have := hW.size
    rw [Array.getElem?_append_left (by simp; omega), Array.getElem?_modify, if_neg (by omega)]
theorem cmp_lays (blk off size : Nat) (w : World) : CmpLays Tryd.prog 34 #[] In.cells 4 In.cf blk off size w :=
  fun _ _ _ _ x y => order_any x y _
/-- The incidents lie at the head of block g, and may be written. -/
def RowN (w : World) (g : Nat) (ys : List In.Inc) : Prop := g < w.heap.size ∧ ∀ (i : Nat) (p : In.Inc), ys[i]? = some p → ∀ (j : Nat) (v : Value), (In.cells p)[j]? = some v → w.cell? ⟨g, i * 4 + j, none⟩ = some v ∧ w.frozen? ⟨g, i * 4 + j, none⟩ = false
/-- The incidents lie at A in a block of the call's own. -/
def OwnN (W w : World) (A : Option Addr) (ys : List In.Inc) : Prop := ys = [] ∨ ∃ g, A = some ⟨g, 0, none⟩ ∧ W.heap.size ≤ g ∧ RowN w g ys
theorem OwnN.sl {W w : World} {A : Option Addr} {ys : List In.Inc} (h : OwnN W w A ys) : SlN w A ys := by
  rcases h with rfl | ⟨g, rfl, -, hg, hr⟩
  · exact SlN.nil _ _
  · refine Or.inr ⟨g, 0, rfl, hg, fun i cs hi j v hv => ?_⟩
    rw [List.getElem?_map] at hi
    obtain ⟨p, hp, rfl⟩ := Option.map_eq_some_iff.1 hi
    rw [Nat.zero_add]
    exact (hr i p hp j v hv).1
theorem sort_any {W : World} (A : Option Addr) (c n : Nat) (ps : List In.Inc) (hn : ps.length = n) (w : World) (hW : Ext W w) (h : w.ownsRow W.heap.size 23 4 (.slice A n c) n (ps.map In.cells).flatten) (hb : n ≤ 1000) :
    Calls Tryd.prog 33 #[.slice A n c, .func (.func 34) #[] #[]] w fun e w' => e = .returned (.tuple #[]) ∧ OwnN W w' A (In.srt ps) ∧ Ext W w' := by
  subst hn
  rcases Nat.eq_zero_or_pos ps.length with h0 | h0
  · rw [h0]
    refine (AnyF.slices_SortFunc_none Tryd.sortP A c _ w).mono ?_
    rintro e w' ⟨rfl, rfl⟩
    have : In.srt ps = [] := List.eq_nil_of_length_eq_zero (by rw [In.srt_len]; exact h0)
    rw [this]
    exact ⟨rfl, Or.inl rfl, hW⟩
  · rcases h.2 with ⟨-, h1⟩ | ⟨g, cap, cur, h1, h2, h3, h4, h5, h6, h7⟩
    · omega
    · injection h1 with h1 _ hc
      subst h1 hc
      have hlt : g < w.heap.size := by
        rcases Nat.lt_or_ge g w.heap.size with e | e
        · exact e
        · rw [Array.getElem?_eq_none e] at h3; cases h3
      have hH : HoldsK In.cells 4 w g 0 ps.toArray := fun j hj => by
        rw [size_flatK] at hj
        have hi : j / 4 < ps.length := by simp at hj; omega
        have hp := List.getElem?_eq_getElem hi
        have e1 := flatK_at hp (r := j % 4) (by omega)
        have e2 := flat_at hp (r := j % 4) (by omega)
        rw [show j / 4 * 4 + j % 4 = j by omega] at e1 e2
        rw [Nat.zero_add, e1]
        refine ⟨?_, frozen_of_row _ _ j _ _ h3⟩
        rw [cell_of_row _ _ _ _ _ _ h3]
        rw [← h7, List.getElem?_take_of_lt (by omega)] at e2
        simpa using e2
      have eg : ∀ args w, (callFunc 34 args).run Tryd.prog w = .ok (.enter 34 args) w := enters_of Tryd.func34 (by kernel_rfl) rfl
      have hcon := AnyQ.slices_SortFunc_total Tryd.sortP 4 Tryd.isAgg23 Tryd.sizeOf23 In.cells (fun _ => rfl) (fun x v hv => by simp [In.cells] at hv; rcases hv with rfl | rfl | rfl | rfl <;> rfl) In.cf In.swo 34 #[] g 0 c ps.toArray w eg (cmp_lays g 0 _ w) hH hlt (by simp; omega) In.lt_total
      refine (show Calls Tryd.prog 33 #[.slice (some ⟨g, 0, none⟩) ps.length c, .func (.func 34) #[] #[]] w _ from hcon).mono ?_
      rintro e w' ⟨rfl, m, os, hw'⟩
      have hH2 : HoldsK In.cells 4 w' g 0 (In.srt ps).toArray := by
        rw [hw']
        exact holdsK_sortWorldK In.cells 4 w g 0 m ps.toArray _ os hlt hH (by simp)
      refine ⟨rfl, Or.inr ⟨g, rfl, h2, ?_, fun i p hp j v hv => ?_⟩, ?_⟩
      · rw [hw']; exact lt_sortWorldK In.cells 4 w g 0 m _ os hlt
      · have hj : j < 4 := by
          rcases Nat.lt_or_ge j 4 with e | e
          · exact e
          · rw [List.getElem?_eq_none (by simpa [In.cells] using e)] at hv; cases hv
        have hil : i < (In.srt ps).length := by
          rcases Nat.lt_or_ge i (In.srt ps).length with e | e
          · exact e
          · rw [List.getElem?_eq_none e] at hp; cases hp
        have this := hH2 (i * 4 + j) (by rw [size_flatK]; simp; omega)
        rw [flatK_at hp hj, Nat.zero_add] at this
        refine ⟨?_, this.2⟩
        rw [this.1]
        match j, hj with
        | 0, _ => simpa [In.cells] using hv
        | 1, _ => simpa [In.cells] using hv
        | 2, _ => simpa [In.cells] using hv
        | 3, _ => simpa [In.cells] using hv
      · rw [hw']; exact sortWorld_ext hW g 0 m _ os h2
end Go.Proofs.YtcpapnnghclbmaaDoor
