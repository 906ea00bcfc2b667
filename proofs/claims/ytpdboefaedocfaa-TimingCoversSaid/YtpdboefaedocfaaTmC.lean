/- slices.Clone at intervals: its contract; an append of any slice in a list of operations. Conditions: those of each theorem. -/
import Derived.Test.YtpdboefaedocfaaTmB
import Derived.Lib.SliceRun
namespace Go.Proofs.Ytpdboefaedocfaa
open Go.RowKit

theorem Try.infoPair : (Try.prog.info? 33).map (fun i => (i.zero, i.size, i.bytes)) = some (some (.agg #[.int .i64 0, .int .i64 0]), 2, 16) := by kernel_rfl
theorem wpList_append_sl {P : Program} {w : World} {ops : Array Oper} {rest : List Oper} {o : Oper} {a : Act} {Q : Exit → Act → World → Prop} (hgd : o.guard = none) (s x : Operand) (t : TypeId)
    (ho : o.op = .call { callee := .builtin .append, args := #[s, x], argTypes := #[t, t] })
    (base : Nat) (e : TypeId) (i : TypeInfo) (z : Value) (size bytes : Nat) (ht : P.underlying t = some (.slice e)) (hi : P.info? e = some i) (hz : i.zero = some z)
    (hsize : i.size = size) (hby : i.bytes = bytes) (hzs : z.cells.size = size) (hsz : 0 < size)
    (v : Value) (n : Nat) (xs : List Value) (hs : a.eval s = v) (hown : w.ownsRow base e size v n xs)
    (A : Option Addr) (c m : Nat) (xss : List (List Value)) (hm : xss.length = m) (hx : a.eval x = .slice A m c) (hr : Sl w size A xss) (hk : ∀ c ∈ xss, c.length = size) (h1 : ∀ c ∈ xss, ∀ u ∈ c, u.oneCell' = true)
    (h63 : n + m ≤ maxLen) (hbytes : (n + m) * bytes ≤ 140737488355328) (hbase : base ≤ w.heap.size)
    (h : ∀ A' c' w', w'.ownsRow base e size (.slice A' (n + m) c') (n + m) (xs ++ xss.flatten) → w.grownBy w' v.ownBlock → wpList P ops Q rest (a.put o.dst (.slice A' (n + m) c')) w') : wpList P ops Q (o :: rest) a w := by
  subst hm
  obtain ⟨v', w', hrun, hown', hgr, -⟩ := run_append_sl w base t o.type e i z size bytes ht hi hz hsize hby hzs hsz v n xs hown A c xss hr hk h1 h63 hbytes hbase
  obtain ⟨A', c', rfl⟩ := own_form hown'
  refine wpList_plain hgd fun K hK => ?_
  unfold Oper.wp
  rw [exec_append ho hs hx hrun]
  exact hK _ _ (h A' c' w' hown' hgr)

/-- The post of a function that returns intervals in a row of its own. -/
def RetOwnP (ps : List (Int × Int)) (w : World) (e : Ending) (w' : World) : Prop :=
  ∃ (A : Option Addr) (c : Nat), e = .returned (.slice A ps.length c) ∧ w'.ownsRow w.heap.size 33 2 (.slice A ps.length c) ps.length (ps.map Tm.cells).flatten ∧ Ext w w'
theorem pair_cells (ps : List (Int × Int)) : (∀ c ∈ ps.map Tm.cells, c.length = 2) ∧ (∀ c ∈ ps.map Tm.cells, ∀ u ∈ c, u.oneCell' = true) := by
  refine ⟨fun c hc => ?_, fun c hc u hu => ?_⟩
  · obtain ⟨p, -, rfl⟩ := List.mem_map.1 hc; rfl
  · obtain ⟨p, -, rfl⟩ := List.mem_map.1 hc
    simp [Tm.cells] at hu
    rcases hu with rfl | rfl <;> rfl
theorem SlP.none {w : World} {ps : List (Int × Int)} (h : SlP w none ps) : ps = [] := by
  rcases h with h | ⟨b, off, h, -⟩
  · simpa using h
  · cases h
theorem own_zero (w : World) (e : TypeId) (size n : Nat) (hn : n = w.heap.size) : (w.alloc (.cells #[] e)).ownsRow n e size (.slice (some ⟨n, 0, none⟩) 0 0) 0 [] := by
  subst hn
  exact ⟨by simp, Or.inr ⟨w.heap.size, 0, #[], rfl, Nat.le_refl _, heap_alloc_new _ _, Nat.le_refl _, Nat.zero_le _, by simp, by simp⟩⟩

set_option maxHeartbeats 800000 in
theorem clone_any (A : Option Addr) (c : Nat) (ps : List (Int × Int)) (w : World) (h : SlP w A ps) (hb : ps.length ≤ 1000) :
    Calls Try.prog 29 #[.slice A ps.length c] w (RetOwnP ps w) := by
  have hq : ∀ (w : World) (a : Option Addr) (n c n' c' : Nat), (binOp .eql 31 (.slice a n c) (.slice none n' c')).run Try.prog w = .ok (.bool a.isNone) w := fun w a n c n' c' => Lib.run_eql_slice_nil w _ _ a n c n' c' Try.underlying31
  cases A with
  | none =>
    obtain rfl := SlP.none h
    go_enter Try.func29, Try.ntmps29
    go_wp2
    go_ret
    exact ⟨none, 0, rfl, own_nil _ _ _ _, Ext.refl _⟩
  | some a =>
    have H := Lib.hid h
    clear h
    obtain ⟨i0, hi0, hz0, hz1, hz2⟩ := info_parts Try.infoPair
    go_enter Try.func29, Try.ntmps29
    go_wp2_with (at_builtin; refine wpList_append_sl rfl _ _ 31 rfl w.heap.size 33 i0 (.agg #[.int .i64 0, .int .i64 0]) 2 16 Try.underlying31 hi0 hz0 hz1 hz2 rfl (by decide) (.slice (some ⟨w.heap.size, 0, none⟩) 0 0) 0 [] rfl (own_zero _ _ _ _ rfl) (some a) c ps.length (ps.map Tm.cells) (by simp) rfl (H.out.ext ((Ext.refl _).alloc _)) (pair_cells ps).1 (pair_cells ps).2 (by unfold maxLen; omega) (by omega) (by simp) ?_; intro A' c' w2 hown2 hgr2; rw [Nat.zero_add, List.nil_append] at hown2)
    go_wp2
    go_ret
    exact ⟨A', c', rfl, hown2, ((Ext.refl w).alloc _).grown hgr2 (fun k hk => by simp [Value.ownBlock] at hk; omega)⟩
end Go.Proofs.Ytpdboefaedocfaa
