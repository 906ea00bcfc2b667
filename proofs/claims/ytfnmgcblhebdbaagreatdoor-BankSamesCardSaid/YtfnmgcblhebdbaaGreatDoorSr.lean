/- Rows of records: a whole record read out of a slice, written into a row that the call owns. No conditions. -/
import Derived.Test.YtfnmgcblhebdbaaGreatDoorApp
import Derived.Deep.MidRow
import Derived.Deep.WholeRow
namespace Go.Proofs.YtfnmgcblhebdbaaGreatDoor
open Go.RowKit

theorem Sl.range {w : World} {k : Nat} {A : Option Addr} {xs : List (List Value)} (h : Sl w k A xs) {i : Nat} {cs : List Value} (hi : xs[i]? = some cs) :
    ∃ b off, A = some ⟨b, off, none⟩ ∧ b < w.heap.size ∧ w.rangeAt b (off + i * k) cs := by
  obtain ⟨b, off, hA, hb, hc⟩ := h.at_ hi
  exact ⟨b, off, hA, hb, fun j v hv => by rw [Nat.add_assoc]; exact hc j v hv⟩
theorem Ext.range {w w' : World} (he : Ext w w') {b o : Nat} {cs : List Value} (h : w.rangeAt b o cs) : w'.rangeAt b o cs := fun j v hv => he.keep (h j v hv)
theorem size_setCells (b : Nat) : ∀ (vs : List Value) (o : Nat) (w : World), (w.setCells b o vs).heap.size = w.heap.size
  | [], _, _ => rfl
  | v :: r, o, w => by rw [World.setCells, size_setCells b r]; simp [World.setCell]
theorem Ext.setCells {a : World} {g : Nat} (hg : a.heap.size ≤ g) : ∀ (vs : List Value) (o : Nat) (b : World), Ext a b → Ext a (b.setCells g o vs)
  | [], _, _, h => h
  | v :: r, o, b, h => by rw [World.setCells]; exact Ext.setCells hg r (o + 1) _ (h.setCell hg v)

/-- A row of records that may be written. -/
structure RowW (w : World) (k g : Nat) (xs : List (List Value)) : Prop where
  len : ∀ cs ∈ xs, cs.length = k
  lt : g < w.heap.size
  rows : ∀ i cs, xs[i]? = some cs → w.rangeAt g (i * k) cs
  free : w.there g 0 (xs.length * k)
theorem RowW.ext {w w' : World} {k g : Nat} {xs : List (List Value)} (h : RowW w k g xs) (he : Ext w w') : RowW w' k g xs where
  len := h.len
  lt := Nat.lt_of_lt_of_le h.lt he.size
  rows i cs hi := he.range (h.rows i cs hi)
  free j hj := by
    obtain ⟨h1, h2⟩ := h.free j hj
    exact ⟨by rw [he.cell (p := ⟨g, 0 + j, none⟩) h.lt]; exact h1, by rw [(he.cells).2 g (0 + j) h.lt]; exact h2⟩
theorem RowW.sl {w : World} {k g : Nat} {xs : List (List Value)} (h : RowW w k g xs) : Sl w k (some ⟨g, 0, none⟩) xs :=
  Or.inr ⟨g, 0, rfl, h.lt, fun i cs hi j v hv => by
    have := h.rows i cs hi j v hv
    rw [Nat.zero_add]; exact this⟩
theorem RowW.part {w : World} {k g : Nat} {xs : List (List Value)} (h : RowW w k g xs) {i : Nat} (hi : i < xs.length) : w.there g (i * k) k := fun j hj => by
  have hle : i * k + j < xs.length * k := by
    have : (i + 1) * k ≤ xs.length * k := Nat.mul_le_mul_right k (by omega)
    rw [Nat.add_mul, Nat.one_mul] at this
    omega
  have := h.free (i * k + j) hle
  rwa [Nat.zero_add] at this
theorem mul_apart {i i' k : Nat} (h : i < i') : i * k + k ≤ i' * k := by
  have : (i + 1) * k ≤ i' * k := Nat.mul_le_mul_right k (by omega)
  rwa [Nat.add_mul, Nat.one_mul] at this
theorem RowW.set {w : World} {k g : Nat} {xs : List (List Value)} (h : RowW w k g xs) {i : Nat} (hi : i < xs.length) {cs : List Value} (hc : cs.length = k) : RowW (w.setCells g (i * k) cs) k g (xs.set i cs) where
  len x hx := by
    rcases List.mem_or_eq_of_mem_set hx with hx | rfl
    · exact h.len x hx
    · exact hc
  lt := by rw [size_setCells]; exact h.lt
  rows j x hx := by
    rw [List.getElem?_set] at hx
    by_cases hij : i = j
    · subst hij
      rw [if_pos rfl, if_pos hi] at hx
      injection hx with hx
      subst hx
      exact World.rangeAt_setCells_same w g (i * k) cs (by rw [hc]; exact h.part hi)
    · rw [if_neg hij] at hx
      have hl := h.len x (List.mem_of_getElem? hx)
      refine World.rangeAt_setCells_apart (h.rows j x hx) g (i * k) cs (Or.inr ?_)
      rw [hl, hc]
      rcases Nat.lt_or_ge i j with hlt | hge
      · exact Or.inr (mul_apart hlt)
      · exact Or.inl (mul_apart (by omega))
  free := by rw [List.length_set]; exact World.there_setCells h.free g (i * k) cs
theorem getElem?_mul_add {k n i j : Nat} {c : List Value} (hk : c.length = k) (hi : i < n) {v : Value} (hv : c[j]? = some v) : (madeCells c.toArray (n * k))[i * k + j]? = some v := by
  obtain ⟨hj, rfl⟩ := List.getElem?_eq_some_iff.1 hv
  have hle : i * k + j < n * k := by
    have := mul_apart (k := k) hi
    omega
  unfold madeCells
  rw [Array.getElem?_map, Array.getElem?_range, if_pos hle]
  have hm : (i * k + j) % c.toArray.size = j := by
    rw [List.size_toArray, hk, Nat.add_comm, Nat.add_mul_mod_self_right, Nat.mod_eq_of_lt (by omega)]
  simp only [Option.map_some]
  rw [hm, getElem!_pos c.toArray j (by simpa using hj)]
  rfl
/-- A new row of records, all zero. -/
theorem RowW.made (w : World) (k n : Nat) (c : List Value) (hk : c.length = k) (t : TypeId) : RowW (w.alloc (.cells (madeCells c.toArray (n * k)) t)) k w.heap.size (List.replicate n c) where
  len x hx := by rw [(List.mem_replicate.1 hx).2]; exact hk
  lt := by simp
  rows i x hx := fun j v hv => by
    rw [List.getElem?_replicate] at hx
    split at hx
    · rename_i hi
      injection hx with hx
      subst hx
      rw [World.cell?_alloc_new]
      exact getElem?_mul_add hk hi hv
    · cases hx
  free j hj := by
    rw [List.length_replicate] at hj
    refine ⟨?_, World.frozen?_alloc_at _ _ _ _ rfl⟩
    rw [World.cell?_alloc_new, Array.getElem?_eq_getElem (by rw [size_madeCells]; omega)]
    rfl
theorem rowSet_other (w : World) {g q : Nat} (cs : Array Value) (h : q ≠ g) : (w.setRow g cs).heap[q]? = w.heap[q]? := by
  simp [World.setRow, Array.getElem?_modify, show g ≠ q from fun e => h e.symm]
theorem Sl.grownX {w w' : World} {k : Nat} {A : Option Addr} {xs : List (List Value)} {row : Option Nat} (h : Sl w k A xs) (hg : w.grownBy w' row) (hne : ∀ a, A = some a → row ≠ some a.block) : Sl w' k A xs := by
  rcases h with h | ⟨b, off, hA, hb, hc⟩
  · exact Or.inl h
  · refine Or.inr ⟨b, off, hA, Nat.lt_of_lt_of_le hb hg.size, fun i cs hi j v hv => ?_⟩
    rw [World.cell?_of_block (hg.block b hb (fun e => hne _ hA e.symm))]
    exact hc i cs hi j v hv
theorem Ext.rowSet {a b : World} (h : Ext a b) {g : Nat} (hg : a.heap.size ≤ g) (cs : Array Value) : Ext a (b.setRow g cs) :=
  ⟨h.os, h.tape, h.output, by simpa [World.setRow] using h.size, fun q hq => by rw [← h.block q hq]; exact rowSet_other _ _ (by omega)⟩
theorem Sl.rowSet {w : World} {k : Nat} {A : Option Addr} {xs : List (List Value)} (h : Sl w k A xs) {g : Nat} (hp : ∀ a, A = some a → a.block ≠ g) (cs : Array Value) : Sl (w.setRow g cs) k A xs := by
  rcases h with h | ⟨b, off, hA, hb, hc⟩
  · exact Or.inl h
  · refine Or.inr ⟨b, off, hA, by simpa [World.setRow] using hb, fun i cs' hi j u hu => ?_⟩
    have hne := hp _ hA
    simp only at hne
    rw [World.cell?_of_block (w := w) (w' := w.setRow g cs) (rowSet_other _ _ hne)]
    exact hc i cs' hi j u hu

section
variable {P : Program}
/-- A whole record out of the middle of a block. -/
theorem wpList_load_arr {ops : Array Oper} {rest : List Oper} {op : Oper} {a : Act} {w : World} {Q : Exit → Act → World → Prop} (hgd : op.guard = none) (ty : TypeId) (x : Operand) (ho : op.op = .load ty x)
    (b o : Nat) (hx : a.eval x = .pointer (some ⟨b, o, none⟩)) (CS : Array Value) (d : TypeDesc) (hc : w.rangeAt b o CS.toList)
    (hu : P.underlying ty = some d) (hd : d.isRow = true) (hi : (P.info? ty).map (·.size) = some CS.size)
    (h : wpList P ops Q rest (a.put op.dst (.agg CS)) w) : wpList P ops Q (op :: rest) a w :=
  wpList_load_mid hgd ty x ho b o hx CS.toList d hc hu hd (by simpa using hi) h
theorem exec_load_arr {ev : Operand → Value} {o : Oper} {w : World} (ty : TypeId) (x : Operand) (ho : o.op = .load ty x) (g f : Nat) (hx : ev x = .pointer (some ⟨g, f, none⟩)) (CS : Array Value) (d : TypeDesc) (hc : w.rangeAt g f CS.toList)
    (hu : P.underlying ty = some d) (hd : d.isRow = true) (hi : (P.info? ty).map (·.size) = some CS.size) : (execOp ev o).run P w = .ok (.value (.agg CS)) w := by
  unfold execOp
  simp only [ho, hx, Instr.loadAt, Instr.sureAddr, Sem.run_bind, Sem.run_pure, Result.andThen_ok, run_loadVar_mid w g f ty CS.toList d hc hu hd (by simpa using hi)]
/-- A whole record into the middle of a block. -/
theorem wpList_store_arr {ops : Array Oper} {rest : List Oper} {op : Oper} {a : Act} {w : World} {Q : Exit → Act → World → Prop} (hgd : op.guard = none) (ty : TypeId) (x y : Operand) (ho : op.op = .store ty x y)
    (b o : Nat) (CS : Array Value) (hx : a.eval x = .pointer (some ⟨b, o, none⟩)) (hy : a.eval y = .agg CS)
    (ht : w.there b o CS.size) (hi : (P.info? ty).map (·.size) = some CS.size) (h1 : CS.all (·.oneCell') = true)
    (h : wpList P ops Q rest (a.put op.dst undef) (w.setCells b o CS.toList)) : wpList P ops Q (op :: rest) a w :=
  wpList_store_mid hgd ty x y ho b o CS hx hy ht hi h1 h
/-- A whole record into the block that was made last. -/
theorem wpList_store_new {ops : Array Oper} {rest : List Oper} {op : Oper} {a : Act} {w : World} {Q : Exit → Act → World → Prop} (hgd : op.guard = none) (ty : TypeId) (x y : Operand) (ho : op.op = .store ty x y)
    (c CS : Array Value) (t : TypeId) (hx : a.eval x = .pointer (some ⟨w.heap.size, 0, none⟩)) (hy : a.eval y = .agg CS)
    (hi : (P.info? ty).map (·.size) = some CS.size) (hz : c.size = CS.size) (h1 : CS.all (·.oneCell') = true)
    (h : wpList P ops Q rest (a.put op.dst undef) (w.alloc (.cells CS t))) : wpList P ops Q (op :: rest) a (w.alloc (.cells c t)) :=
  wpList_store_row hgd ty x y ho w.heap.size CS hx hy t c (heap_alloc_last w _) hi hz h1 (by rw [World.setRow_alloc_new]; exact h)
/-- One record, laid in a new block, is appended to a row that the call owns. -/
theorem wpList_push {w : World} {ops : Array Oper} {rest : List Oper} {o : Oper} {a : Act} {Q : Exit → Act → World → Prop} (hgd : o.guard = none) (s x : Operand) (t : TypeId)
    (ho : o.op = .call { callee := .builtin .append, args := #[s, x], argTypes := #[t, t] })
    (B : World) (e : TypeId) (i : TypeInfo) (z : Value) (size bytes : Nat) (ht : P.underlying t = some (.slice e)) (hi : P.info? e = some i) (hz : i.zero = some z)
    (hsize : i.size = size) (hby : i.bytes = bytes) (hzs : z.cells.size = size) (hsz : 0 < size)
    (v : Value) (n : Nat) (xs : List Value) (hs : a.eval s = v) (hown : w.ownsRow B.heap.size e size v n xs) (hB : Ext B w)
    (CS : Array Value) (te : TypeId) (hc : CS.size = size) (h1 : CS.all (·.oneCell') = true) (hx : a.eval x = .slice (some ⟨w.heap.size, 0, none⟩) 1 1)
    (h63 : n + 1 ≤ maxLen) (hbytes : (n + 1) * bytes ≤ 140737488355328)
    (h : ∀ A' c' w', w'.ownsRow B.heap.size e size (.slice A' (n + 1) c') (n + 1) (xs ++ CS.toList) → Ext B w' → wpList P ops Q rest (a.put o.dst (.slice A' (n + 1) c')) w') : wpList P ops Q (o :: rest) a (w.alloc (.cells CS te)) := by
  have hsl : Sl (w.alloc (.cells CS te)) size (some ⟨w.heap.size, 0, none⟩) [CS.toList] := Or.inr ⟨w.heap.size, 0, rfl, by simp, fun i cs hi j v hv => by
    have hi0 : i = 0 := by
      rcases Nat.eq_zero_or_pos i with g | g
      · exact g
      · rw [List.getElem?_eq_none (by simp; omega)] at hi; cases hi
    subst hi0
    have hcs : CS.toList = cs := by simpa using hi
    subst hcs
    rw [show 0 + (0 * size + j) = j by omega, World.cell?_alloc_new]
    simpa using hv⟩
  obtain ⟨v', w', hrun, hown', hgr, -⟩ := run_append_sl (w.alloc (.cells CS te)) B.heap.size t o.type e i z size bytes ht hi hz hsize hby hzs hsz v n xs (own_ext hown ((Ext.refl _).alloc _)) (some ⟨w.heap.size, 0, none⟩) 1 [CS.toList] hsl
    (fun c hcm => by obtain rfl : c = CS.toList := by simpa using hcm
                     simpa using hc)
    (fun c hcm u hu => by obtain rfl : c = CS.toList := by simpa using hcm
                          exact (Array.all_eq_true_iff_forall_mem.1 h1) u (by simpa using hu))
    (by simpa using h63) (by simpa using hbytes) (by have := hB.size; simp; omega)
  obtain ⟨A', c', rfl⟩ := own_form hown'
  have hex : Ext B w' := (hB.alloc _).grown hgr (fun k hk => own_ge hown k hk)
  refine wpList_plain hgd fun K hK => ?_
  unfold Oper.wp
  rw [exec_append ho hs hx hrun]
  simp only [List.length_singleton, List.flatten_cons, List.flatten_nil, List.append_nil] at hown'
  exact hK _ _ (h A' c' w' hown' hex)
/-- The same, with what becomes of the row's block. One record, laid in a new block, is appended to a row that the call owns. -/
theorem wpList_pushF {w : World} {ops : Array Oper} {rest : List Oper} {o : Oper} {a : Act} {Q : Exit → Act → World → Prop} (hgd : o.guard = none) (s x : Operand) (t : TypeId)
    (ho : o.op = .call { callee := .builtin .append, args := #[s, x], argTypes := #[t, t] })
    (B : World) (e : TypeId) (i : TypeInfo) (z : Value) (size bytes : Nat) (ht : P.underlying t = some (.slice e)) (hi : P.info? e = some i) (hz : i.zero = some z)
    (hsize : i.size = size) (hby : i.bytes = bytes) (hzs : z.cells.size = size) (hsz : 0 < size)
    (v : Value) (n : Nat) (xs : List Value) (hs : a.eval s = v) (hown : w.ownsRow B.heap.size e size v n xs) (hB : Ext B w)
    (CS : Array Value) (te : TypeId) (hc : CS.size = size) (h1 : CS.all (·.oneCell') = true) (hx : a.eval x = .slice (some ⟨w.heap.size, 0, none⟩) 1 1)
    (h63 : n + 1 ≤ maxLen) (hbytes : (n + 1) * bytes ≤ 140737488355328)
    (h : ∀ A' c' w', w'.ownsRow B.heap.size e size (.slice A' (n + 1) c') (n + 1) (xs ++ CS.toList) → Ext B w' → (w.alloc (.cells CS te)).grownBy w' v.ownBlock → ((Value.slice A' (n + 1) c').ownBlock = v.ownBlock ∨ (Value.slice A' (n + 1) c').ownBlock = some (w.heap.size + 1)) → wpList P ops Q rest (a.put o.dst (.slice A' (n + 1) c')) w') : wpList P ops Q (o :: rest) a (w.alloc (.cells CS te)) := by
  have hsl : Sl (w.alloc (.cells CS te)) size (some ⟨w.heap.size, 0, none⟩) [CS.toList] := Or.inr ⟨w.heap.size, 0, rfl, by simp, fun i cs hi j v hv => by
    have hi0 : i = 0 := by
      rcases Nat.eq_zero_or_pos i with g | g
      · exact g
      · rw [List.getElem?_eq_none (by simp; omega)] at hi; cases hi
    subst hi0
    have hcs : CS.toList = cs := by simpa using hi
    subst hcs
    rw [show 0 + (0 * size + j) = j by omega, World.cell?_alloc_new]
    simpa using hv⟩
  obtain ⟨v', w', hrun, hown', hgr, hob⟩ := run_append_sl (w.alloc (.cells CS te)) B.heap.size t o.type e i z size bytes ht hi hz hsize hby hzs hsz v n xs (own_ext hown ((Ext.refl _).alloc _)) (some ⟨w.heap.size, 0, none⟩) 1 [CS.toList] hsl
    (fun c hcm => by obtain rfl : c = CS.toList := by simpa using hcm
                     simpa using hc)
    (fun c hcm u hu => by obtain rfl : c = CS.toList := by simpa using hcm
                          exact (Array.all_eq_true_iff_forall_mem.1 h1) u (by simpa using hu))
    (by simpa using h63) (by simpa using hbytes) (by have := hB.size; simp; omega)
  obtain ⟨A', c', rfl⟩ := own_form hown'
  have hex : Ext B w' := (hB.alloc _).grown hgr (fun k hk => own_ge hown k hk)
  refine wpList_plain hgd fun K hK => ?_
  unfold Oper.wp
  rw [exec_append ho hs hx hrun]
  simp only [List.length_singleton, List.flatten_cons, List.flatten_nil, List.append_nil] at hown'
  refine hK _ _ (h A' c' w' hown' hex hgr ?_)
  simpa using hob
theorem wpList_appS {w : World} {ops : Array Oper} {rest : List Oper} {o : Oper} {a : Act} {Q : Exit → Act → World → Prop} (hgd : o.guard = none) (s x : Operand) (t : TypeId)
    (ho : o.op = .call { callee := .builtin .append, args := #[s, x], argTypes := #[t, t] })
    (B : World) (e : TypeId) (i : TypeInfo) (z : Value) (size bytes : Nat) (ht : P.underlying t = some (.slice e)) (hi : P.info? e = some i) (hz : i.zero = some z)
    (hsize : i.size = size) (hby : i.bytes = bytes) (hzs : z.cells.size = size) (hsz : 0 < size)
    (v : Value) (n : Nat) (xs : List Value) (hs : a.eval s = v) (hown : w.ownsRow B.heap.size e size v n xs) (hB : Ext B w)
    (A : Option Addr) (c m : Nat) (xss : List (List Value)) (hm : xss.length = m) (hx : a.eval x = .slice A m c) (hr : Sl w size A xss) (hk : ∀ c ∈ xss, c.length = size) (h1 : ∀ c ∈ xss, ∀ u ∈ c, u.oneCell' = true)
    (h63 : n + m ≤ maxLen) (hbytes : (n + m) * bytes ≤ 140737488355328)
    (h : ∀ A' c' w', w'.ownsRow B.heap.size e size (.slice A' (n + m) c') (n + m) (xs ++ xss.flatten) → Ext B w' → wpList P ops Q rest (a.put o.dst (.slice A' (n + m) c')) w') : wpList P ops Q (o :: rest) a w := by
  subst hm
  obtain ⟨v', w', hrun, hown', hgr, -⟩ := run_append_sl w B.heap.size t o.type e i z size bytes ht hi hz hsize hby hzs hsz v n xs hown A c xss hr hk h1 h63 hbytes hB.size
  obtain ⟨A', c', rfl⟩ := own_form hown'
  refine wpList_plain hgd fun K hK => ?_
  unfold Oper.wp
  rw [exec_append ho hs hx hrun]
  exact hK _ _ (h A' c' w' hown' (hB.grown hgr (fun k hk => own_ge hown k hk)))
end
end Go.Proofs.YtfnmgcblhebdbaaGreatDoor
