/- Big numbers of the reference: Of, short, Print: contracts. Conditions: those of each theorem. -/
import Derived.Test.YtgaepmddbjdhfaaGreatDoorP4
import Derived.Test.YtgaepmddbjdhfaaGreatDoorApp
namespace Go.Proofs.YtgaepmddbjdhfaaGreatDoor
open Go.ChangeShapes Go.WideShapes Go.ChangeAt Go.RowKit

set_option maxRecDepth 100000 in
set_option maxHeartbeats 3200000 in
theorem of_any (n : Nat) (hn : n < 18446744073709551616) {ys : List Nat} {m : Nat} (hy : Na.nrm [n % 4294967296, n / 4294967296] = ys) (hm : ys.length = m) (w : World) :
    Calls Tryz.prog 103 #[.int .u64 (n : Int)] w fun e w' => ∃ b, e = .returned (.slice (some ⟨b, 0, none⟩) m m) ∧ w.heap.size ≤ b ∧ SlU w' (some ⟨b, 0, none⟩) ys ∧ Ext w w' := by
  have HY := Lib.hid hy
  have HM := Lib.hid hm
  clear hy hm
  go_enter Tryz.func103, Tryz.ntmps103
  have e1 : ((n : Int) % 4294967296) = ((n % 4294967296 : Nat) : Int) := by omega
  have e2 : ((n : Int) / 4294967296) = ((n / 4294967296 : Nat) : Int) := by omega
  have HSL : Hid (SlU (w.alloc (.cells #[.int .u32 ((n : Int) % 4294967296), .int .u32 ((n : Int) / 4294967296)] 73)) (some ⟨w.heap.size, 0, none⟩) [n % 4294967296, n / 4294967296]) := Lib.hid (by
    rw [e1, e2]
    exact SlU.of_heap (t := 73) (fr := (0, 0)) (heap_alloc_new _ _))
  clear e1 e2
  go_wp2_with fail
  with_reducible refine (norm_any (some ⟨w.heap.size, 0, none⟩) 2 [n % 4294967296, n / 4294967296] 2 rfl HY.out HM.out _ HSL.out (by omega)).mono ?_
  rintro e w1 ⟨b, rfl, hb, hS, hb1⟩
  have HS := Lib.hid hS
  clear hS
  go_wp2
  go_ret
  simp at hb
  exact ⟨b, rfl, by omega, HS.out, ((Ext.refl w).alloc _).trans hb1⟩

theorem cast_div (q x d : Nat) : ((q : Int) * 4294967296 + (x : Int)) / (d : Int) = (((q * 4294967296 + x) / d : Nat) : Int) := by
  have e : ((q * 4294967296 + x : Nat) : Int) = (q : Int) * 4294967296 + (x : Int) := by omega
  rw [← e]
  exact (Int.natCast_ediv _ _).symm
theorem cast_mod (q x d : Nat) : ((q : Int) * 4294967296 + (x : Int)) % (d : Int) = (((q * 4294967296 + x) % d : Nat) : Int) := by
  have e : ((q * 4294967296 + x : Nat) : Int) = (q : Int) * 4294967296 + (x : Int) := by omega
  rw [← e]
  exact (Int.natCast_emod _ _).symm
theorem slU_row {w : World} {g : Nat} {t : TypeId} {n : Nat} {f : Nat → Value} {xs : List Nat} (h : w.rowIs g t n f) (hl : xs.length = n) (hf : ∀ (j x : Nat), xs[j]? = some x → f j = .int .u32 (x : Int)) : SlU w (some ⟨g, 0, none⟩) xs := by
  rcases Nat.eq_zero_or_pos n with h0 | h0
  · subst h0
    rw [List.eq_nil_of_length_eq_zero hl]
    exact SlU.nil _ _
  · refine Or.inr ⟨g, 0, rfl, h.lt, fun i cs hi j v hv => ?_⟩
    rw [List.getElem?_map] at hi
    obtain ⟨x, hx, rfl⟩ := Option.map_eq_some_iff.1 hi
    have hj : j = 0 := by
      rcases Nat.eq_zero_or_pos j with e | e
      · exact e
      · rw [List.getElem?_eq_none (by simp; omega)] at hv; cases hv
    subst hj
    simp at hv
    subst hv
    have hi' : i < n := by
      rcases Nat.lt_or_ge i xs.length with e | e
      · omega
      · rw [List.getElem?_eq_none e] at hx; cases hx
    have := h.cell (i := i) hi'
    rw [hf i x hx] at this
    simpa using this
theorem wpList_app {P : Program} {w : World} {ops : Array Oper} {rest : List Oper} {o : Oper} {a : Act} {Q : Exit → Act → World → Prop} (hgd : o.guard = none) (s x : Operand) (t : TypeId)
    (ho : o.op = .call { callee := .builtin .append, args := #[s, x], argTypes := #[t, t] })
    (base : Nat) (e : TypeId) (i : TypeInfo) (z : Value) (size bytes : Nat) (ht : P.underlying t = some (.slice e)) (hi : P.info? e = some i) (hz : i.zero = some z)
    (hsize : i.size = size) (hby : i.bytes = bytes) (hzs : z.cells.size = size) (hsz : 0 < size)
    (v : Value) (n : Nat) (xs : List Value) (hs : a.eval s = v) (hown : w.ownsRow base e size v n xs)
    (A : Option Addr) (c m : Nat) (xss : List (List Value)) (hm : xss.length = m) (hx : a.eval x = .slice A m c) (hr : Sl w size A xss) (hk : ∀ c ∈ xss, c.length = size) (h1 : ∀ c ∈ xss, ∀ u ∈ c, u.oneCell' = true)
    (h63 : n + m ≤ maxLen) (hbytes : (n + m) * bytes ≤ 140737488355328) (hbase : base ≤ w.heap.size)
    (h : ∀ A' c' w', w'.ownsRow base e size (.slice A' (n + m) c') (n + m) (xs ++ xss.flatten) → w.grownBy w' v.ownBlock → wpList P ops Q rest (a.put o.dst (.slice A' (n + m) c')) w') : wpList P ops Q (o :: rest) a w := by
  subst hm
  obtain ⟨v', w', hrun, hown', hgr, -⟩ := run_append_sl w base t o.type e i z size bytes ht hi hz hsize hby hzs hsz v n xs hown A c xss hr hk h1 h63 hbytes hbase
  obtain ⟨A', c', rfl⟩ := own_form hown'
  refine wpList_plain hgd fun K hK => ?_
  unfold Oper.wp
  rw [exec_append ho hs hx hrun]
  exact hK _ _ (h A' c' w' hown' hgr)
theorem Sl.grown {w w' : World} {k b off : Nat} {xs : List (List Value)} {row : Option Nat} (h : Sl w k (some ⟨b, off, none⟩) xs) (hg : w.grownBy w' row) (hne : some b ≠ row) : Sl w' k (some ⟨b, off, none⟩) xs := by
  rcases h with h | ⟨b', off', hA, hb, hc⟩
  · exact Or.inl h
  · injection hA with hA
    injection hA with e1 e2
    subst e1 e2
    refine Or.inr ⟨b, off, rfl, Nat.lt_of_lt_of_le hb hg.size, fun i cs hi j v hv => ?_⟩
    rw [World.cell?_of_block (hg.block b hb hne)]
    exact hc i cs hi j v hv
namespace Na
theorem quo_step {d : Nat} {xs : List Nat} {k x : Nat} (h : xs[k]? = some x) : quo d (xs.drop k) = (((quo d (xs.drop (k + 1))).2 * 4294967296 + x) / d :: (quo d (xs.drop (k + 1))).1, ((quo d (xs.drop (k + 1))).2 * 4294967296 + x) % d) := by
  obtain ⟨hk, rfl⟩ := List.getElem?_eq_some_iff.1 h
  rw [List.drop_eq_getElem_cons hk, quo]
end Na
end Go.Proofs.YtgaepmddbjdhfaaGreatDoor
