/- The reference's ints; what its Apply's statement of a new record leaves. Conditions: those of each theorem. -/
import Derived.Test.YtadnjhpkenjmdaaRevJ
import Derived.Deep.AppendLies
namespace Go.Proofs.Ytadnjhpkenjmdaa
open Go.RowKit

theorem own_low {w : World} {base base' : Nat} {e : TypeId} {size : Nat} {v : Value} {n : Nat} {xs : List Value} (h : w.ownsRow base e size v n xs) (hb : base' ≤ base) : w.ownsRow base' e size v n xs := by
  refine ⟨h.1, ?_⟩
  rcases h.2 with g | ⟨g, cap, cur, h1, h2, h3⟩
  · exact Or.inl g
  · exact Or.inr ⟨g, cap, cur, h1, Nat.le_trans hb h2, h3⟩
/-- The post of the reference's copy of a list: a row of its own. -/
def RetOwn (a : List Int) (w : World) (e : Ending) (w' : World) : Prop :=
  ∃ (A : Option Addr) (c : Nat), e = .returned (.slice A a.length c) ∧ w'.ownsRow w.heap.size 3 1 (.slice A a.length c) a.length ((a).map fun x => [Value.int .i64 x]).flatten ∧ Ext w w'

set_option maxRecDepth 100000 in
set_option maxHeartbeats 1600000 in
theorem refInts_any (X : Option Addr) (xc : Nat) (a : List Int) (w : World) (ha : SlI w X a) (hal : a.length ≤ 1000000) :
    Calls Try.prog 27 #[.slice X a.length xc] w (RetOwn a w) := by
  have HA := Lib.hid ha
  clear ha
  obtain ⟨i0, hi0, hz0, hz1, hz2⟩ := info_parts Try.infoInt
  go_enter Try.func27, Try.ntmps27
  go_wp2
  go_loopw [4, 3] (fun i v wr => ∃ (k : Nat), k ≤ a.length ∧ i = .int .i64 k ∧ wr.ownsRow w.heap.size 3 1 v k ((a.take k).map fun x => [Value.int .i64 x]).flatten ∧ Ext w wr) (fun i _ _ => a.length - (intOf i).toNat)
  case atStart => exact ⟨0, by omega, rfl, own_nil _ _ _ _, Ext.refl _⟩
  case round =>
    obtain ⟨k, hk, rfl, hown, he⟩ := hrel
    have hszr := he.size
    by_cases hlt : k < a.length
    · obtain ⟨ba, oa, x, rfl, hba, hx, cx⟩ := (HA.out.ext he).at_ (i := k) hlt
      have ki0 : (0 : Int) ≤ (k : Int) := by omega
      have ki1 : (k : Int) < (a.length : Int) := by omega
      have HT : Hid (a.take (k + 1) = a.take k ++ [x]) := Lib.hid (by rw [List.take_add_one, hx]; rfl)
      have hge := own_ge hown
      have HOWN := Lib.hid hown
      have HGE := Lib.hid hge
      clear hown hge hx
      go_wp2_with (at_builtin; refine wpList_append_lies _ rfl _ _ 22 rfl w.heap.size 3 i0 (.int .i64 0) 1 8 Try.underlying22 hi0 hz0 hz1 hz2 rfl (by decide) _ _ _ rfl (HOWN.out.alloc _) ⟨wr.heap.size, 0, none⟩ 1 1 [.int .i64 x] rfl rfl (cell_one_new _ _ _) (by simp [Value.oneCell']) (by decide) (by unfold maxLen; omega) (by omega) (by simp; omega) (wr.heap.size + 1) (by simp) ?_; intro gg cap w2 hown2 hgrow2 hat hlt2)
      go_wp2
      go_roundw
      case rel =>
        refine ⟨k + 1, by omega, by go_num, ?_, ?_⟩
        · rw [HT.out, ← ints_flat]
          exact hown2
        · exact (he.alloc _).grown hgrow2 (fun q hq => HGE.out q hq)
      case measure => simp [intOf]; omega
    · obtain rfl : k = a.length := by omega
      rw [List.take_length] at hown
      obtain ⟨A, c, rfl⟩ := own_form hown
      have HOWN := Lib.hid hown
      clear hown
      go_wp2
      go_ret
      exact ⟨A, c, rfl, HOWN.out, he⟩

/-- A record whose lists are rows of the call's own, in a block of its own. -/
def RAt (w : World) (B g : Nat) (st au : Int) (ap fa : List Int) (lg : List Rev.Act) (A1 : Option Addr) (c1 : Nat) (A2 : Option Addr) (c2 : Nat) (A3 : Option Addr) (c3 : Nat) : Prop :=
  w.heap[g]? = some (.cells #[.int .i64 st, .int .i64 au, .slice A1 ap.length c1, .slice A2 fa.length c2, .slice A3 lg.length c3] 25 (0, 0)) ∧
    w.ownsRow B 3 1 (.slice A1 ap.length c1) ap.length ((ap).map fun x => [Value.int .i64 x]).flatten ∧ w.ownsRow B 3 1 (.slice A2 fa.length c2) fa.length ((fa).map fun x => [Value.int .i64 x]).flatten ∧ w.ownsRow B 34 4 (.slice A3 lg.length c3) lg.length (lg.map Rev.Act.cells).flatten ∧
    ∀ q, (Value.slice A2 fa.length c2).ownBlock = some q → (Value.slice A1 ap.length c1).ownBlock ≠ some q
/-- What the drawn statement leaves. -/
def RCut (W : World) (st au : Int) (ap fa : List Int) (p : Value) (w : World) : Prop :=
  ∃ (g : Nat) (A1 : Option Addr) (c1 : Nat) (A2 : Option Addr) (c2 : Nat), p = .pointer (some ⟨g, 0, none⟩) ∧ W.heap.size ≤ g ∧ RAt w W.heap.size g st au ap fa [] A1 c1 A2 c2 none 0 ∧ Ext W w
theorem RCut_new {W w2 w3 : World} {b1 b2 : Nat} {st au : Int} {ap fa : List Int} {A1 A2 : Option Addr} {c1 c2 : Nat} (hb1 : W.heap.size ≤ b1) (hox : w2.ownsRow b1 3 1 (.slice A1 ap.length c1) ap.length ((ap).map fun x => [Value.int .i64 x]).flatten) (h23 : Ext w2 w3) (hb2 : w2.heap.size ≤ b2) (hoy : w3.ownsRow b2 3 1 (.slice A2 fa.length c2) fa.length ((fa).map fun x => [Value.int .i64 x]).flatten) (hE : Ext W w2) :
    RCut W st au ap fa (.pointer (some ⟨w3.heap.size, 0, none⟩)) (w3.alloc (.cells #[.int .i64 st, .int .i64 au, .slice A1 ap.length c1, .slice A2 fa.length c2, .slice none 0 0] 25)) := by
  have hWs := hE.size
  refine ⟨w3.heap.size, A1, c1, A2, c2, rfl, (hE.trans h23).size, ⟨heap_alloc_new _ _, own_low ((own_ext hox h23).alloc _) hb1, own_low (hoy.alloc _) (by omega), own_nil _ _ _ _, fun q hq e => ?_⟩, (hE.trans h23).alloc _⟩
  have g1 := own_ge hoy q hq
  have g2 := own_lt hox q e
  omega
theorem RCut_put {W w2 w3 : World} {g b1 b2 : Nat} {st au : Int} {ap fa : List Int} {A1 A2 : Option Addr} {c1 c2 : Nat} {v0 v1 v2 v3 v4 : Value} (hblk : w3.heap[g]? = some (.cells #[v0, v1, v2, v3, v4] 25 (0, 0))) (hg : W.heap.size ≤ g) (hb1 : W.heap.size ≤ b1) (hox : w2.ownsRow b1 3 1 (.slice A1 ap.length c1) ap.length ((ap).map fun x => [Value.int .i64 x]).flatten) (h23 : Ext w2 w3) (hb2 : w2.heap.size ≤ b2) (hoy : w3.ownsRow b2 3 1 (.slice A2 fa.length c2) fa.length ((fa).map fun x => [Value.int .i64 x]).flatten) (hE : Ext W w2) :
    RCut W st au ap fa (.pointer (some ⟨g, 0, none⟩)) (put5 w3 g (.int .i64 st) (.int .i64 au) (.slice A1 ap.length c1) (.slice A2 fa.length c2) (.slice none 0 0)) := by
  have hWs := hE.size
  have hox3 := own_ext hox h23
  have n1 : ∀ o, (Value.slice A1 ap.length c1).ownBlock ≠ some (⟨g, o, none⟩ : Addr).block := fun _ => own_other hox3 hblk (by decide)
  have n2 : ∀ o, (Value.slice A2 fa.length c2).ownBlock ≠ some (⟨g, o, none⟩ : Addr).block := fun _ => own_other hoy hblk (by decide)
  refine ⟨g, A1, c1, A2, c2, rfl, hg, ⟨put5_block hblk, own_low ?_ hb1, own_low ?_ (show W.heap.size ≤ b2 by omega), own_nil _ _ _ _, fun q hq e => ?_⟩, put5_ext (hE.trans h23) hg⟩
  · exact ownsRow_setCell_other (ownsRow_setCell_other (ownsRow_setCell_other (ownsRow_setCell_other (ownsRow_setCell_other hox3 (n1 0) _) (n1 1) _) (n1 2) _) (n1 3) _) (n1 4) _
  · exact ownsRow_setCell_other (ownsRow_setCell_other (ownsRow_setCell_other (ownsRow_setCell_other (ownsRow_setCell_other hoy (n2 0) _) (n2 1) _) (n2 2) _) (n2 3) _) (n2 4) _
  · have g1 := own_ge hoy q hq
    have g2 := own_lt hox q e
    omega

theorem RAt.cells {w : World} {B g : Nat} {st au : Int} {ap fa : List Int} {lg : List Rev.Act} {A1 : Option Addr} {c1 : Nat} {A2 : Option Addr} {c2 : Nat} {A3 : Option Addr} {c3 : Nat} (h : RAt w B g st au ap fa lg A1 c1 A2 c2 A3 c3) : w.cell? ⟨g, 4, none⟩ = some (.slice A3 lg.length c3) ∧ w.frozen? ⟨g, 4, none⟩ = false := by
  refine ⟨?_, frozen_of_row _ _ 4 _ _ h.1⟩
  rw [cell_of_row _ _ _ _ _ _ h.1]; rfl
theorem RAt_block {w w' w2 : World} {B g : Nat} {st au : Int} {ap fa : List Int} {lg : List Rev.Act} {A1 : Option Addr} {c1 : Nat} {A2 : Option Addr} {c2 : Nat} {A3 : Option Addr} {c3 : Nat} (h : RAt w B g st au ap fa lg A1 c1 A2 c2 A3 c3) {n : Nat} (hn : lg.length = n) (he : Ext w w') (hgr : w'.grownBy w2 (Value.slice A3 n c3).ownBlock) :
    w2.heap[g]? = some (.cells #[.int .i64 st, .int .i64 au, .slice A1 ap.length c1, .slice A2 fa.length c2, .slice A3 lg.length c3] 25 (0, 0)) := by
  subst hn
  have hb := he.blockAt h.1
  have hlt : g < w'.heap.size := by
    rcases Nat.lt_or_ge g w'.heap.size with h1 | h1
    · exact h1
    · rw [Array.getElem?_eq_none h1] at hb; cases hb
  exact (hgr.block g hlt (fun e => own_other (own_ext h.2.2.2.1 he) hb (by decide) e.symm)).trans hb
theorem RAt_store {w w' w2 : World} {B g gg cap : Nat} {st au : Int} {ap fa : List Int} {lg : List Rev.Act} {A1 : Option Addr} {c1 : Nat} {A2 : Option Addr} {c2 : Nat} {A3 : Option Addr} {c3 : Nat} (a : Rev.Act) (h : RAt w B g st au ap fa lg A1 c1 A2 c2 A3 c3) {n : Nat} (hn : lg.length = n) (he : Ext w w') (hgr : w'.grownBy w2 (Value.slice A3 n c3).ownBlock)
    (ho : w2.ownsRow B 34 4 (.slice (some ⟨gg, 0, none⟩) (n + 1) cap) (n + 1) ((lg.map Rev.Act.cells).flatten ++ a.cells)) : RAt (w2.setCell ⟨g, 4, none⟩ (.slice (some ⟨gg, 0, none⟩) (n + 1) cap)) B g st au ap fa (lg ++ [a]) A1 c1 A2 c2 (some ⟨gg, 0, none⟩) cap := by
  subst hn
  have hb2 := RAt_block h rfl he hgr
  obtain ⟨hh, hox, hoy, hoz, hd⟩ := h
  have el : (lg ++ [a]).length = lg.length + 1 := by simp
  have ox2 := own_grown (own_ext hox he) hgr (fun q hq e => own_types (own_ext hox he) (own_ext hoz he) (by decide) q hq e)
  have oy2 := own_grown (own_ext hoy he) hgr (fun q hq e => own_types (own_ext hoy he) (own_ext hoz he) (by decide) q hq e)
  have eflat : ((lg ++ [a]).map Rev.Act.cells).flatten = (lg.map Rev.Act.cells).flatten ++ a.cells := by rw [List.map_append, List.flatten_append]; simp
  have k4 := Joins.block_setCell (i := 4) hb2 (.slice (some ⟨gg, 0, none⟩) (lg.length + 1) cap)
  refine ⟨?_, ownsRow_setCell_other ox2 (own_other ox2 hb2 (by decide)) _, ownsRow_setCell_other oy2 (own_other oy2 hb2 (by decide)) _, ?_, hd⟩
  · rw [el]
    simpa using k4
  · rw [el, eflat]
    exact ownsRow_setCell_other ho (own_other ho hb2 (by decide)) _
theorem RAt_up {W w w' w2 : World} {B g : Nat} {st au : Int} {ap fa : List Int} {lg : List Rev.Act} {A1 : Option Addr} {c1 : Nat} {A2 : Option Addr} {c2 : Nat} {A3 : Option Addr} {c3 : Nat} (h : RAt w B g st au ap fa lg A1 c1 A2 c2 A3 c3) {n : Nat} (hW : Ext W w) (hB : W.heap.size ≤ B) (hn : lg.length = n) (he : Ext w w') (hgr : w'.grownBy w2 (Value.slice A3 n c3).ownBlock) : Ext W w2 :=
  by subst hn; exact (hW.trans he).grown hgr (fun q hq => Nat.le_trans hB (own_ge h.2.2.2.1 q hq))
end Go.Proofs.Ytadnjhpkenjmdaa
