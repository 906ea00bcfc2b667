/- append of a slice that reads as a list (nil and empty ones too) onto a row that the call owns; rows that a call owns as slices; how they are kept. No conditions. -/
import Derived.Test.YtfnmgcblhebdbaaGreatDoorIL
import Derived.Maps.AppendAt
namespace Go.Proofs.YtfnmgcblhebdbaaGreatDoor
open Go.ChangeShapes Go.WideShapes Go.ChangeAt Go.RowKit

theorem heap_new_at (w : World) (o : Obj) (n : Nat) (hn : n = w.heap.size) : (w.alloc o).heap[n]? = some o := by subst hn; exact heap_alloc_new w o

theorem flatten_at {α : Type} {k : Nat} : ∀ {xs : List (List α)} {i j : Nat} {cs : List α} {v : α}, (∀ c ∈ xs, c.length = k) → xs[i]? = some cs → cs[j]? = some v → xs.flatten[i * k + j]? = some v
  | c0 :: xs, 0, j, cs, v, hk, hi, hj => by
    simp at hi
    subst hi
    have hj' : j < c0.length := by
      rcases Nat.lt_or_ge j c0.length with g | g
      · exact g
      · rw [List.getElem?_eq_none g] at hj; cases hj
    rw [List.flatten_cons, Nat.zero_mul, Nat.zero_add, List.getElem?_append_left hj']; exact hj
  | c0 :: xs, i + 1, j, cs, v, hk, hi, hj => by
    have h0 := hk c0 (by simp)
    rw [List.flatten_cons, List.getElem?_append_right (by rw [h0, Nat.succ_mul]; omega), h0, show (i + 1) * k + j - k = i * k + j by rw [Nat.succ_mul]; omega]
    exact flatten_at (fun c hc => hk c (List.mem_cons_of_mem _ hc)) (by simpa using hi) hj
theorem flatten_inv {α : Type} {k : Nat} : ∀ {xs : List (List α)} {j : Nat} {v : α}, (∀ c ∈ xs, c.length = k) → xs.flatten[j]? = some v → ∃ i r cs, xs[i]? = some cs ∧ cs[r]? = some v ∧ j = i * k + r
  | [], j, v, _, h => by simp at h
  | c0 :: xs, j, v, hk, h => by
    have h0 := hk c0 (by simp)
    rw [List.flatten_cons] at h
    rcases Nat.lt_or_ge j c0.length with g | g
    · rw [List.getElem?_append_left g] at h
      exact ⟨0, j, c0, rfl, h, by omega⟩
    · rw [List.getElem?_append_right g] at h
      obtain ⟨i, r, cs, h1, h2, h3⟩ := flatten_inv (fun c hc => hk c (List.mem_cons_of_mem _ hc)) h
      exact ⟨i + 1, r, cs, by simpa using h1, h2, by rw [Nat.succ_mul]; omega⟩
theorem flatten_len {α : Type} {k : Nat} : ∀ {xs : List (List α)}, (∀ c ∈ xs, c.length = k) → xs.flatten.length = xs.length * k
  | [], _ => by simp
  | c0 :: xs, hk => by
    rw [List.flatten_cons, List.length_append, flatten_len (fun c hc => hk c (List.mem_cons_of_mem _ hc)), hk c0 (by simp), List.length_cons, Nat.succ_mul]; omega

/-- A row that the call owns reads as a slice of its elements. -/
theorem Sl.of_own {w : World} {base : Nat} {e : TypeId} {k : Nat} {v : Value} {n : Nat} {xs : List (List Value)} (hk : ∀ c ∈ xs, c.length = k) (hl : xs.length = n) (h : w.ownsRow base e k v n xs.flatten) : ∃ A c, v = .slice A xs.length c ∧ xs.length ≤ c ∧ c ≤ maxLen ∧ Sl w k A xs := by
  rcases h.2 with ⟨rfl, h0⟩ | ⟨g, cap, cur, rfl, hg, hh, h1, h2, h3, h4⟩
  · have : xs = [] := List.eq_nil_of_length_eq_zero (by omega)
    subst this
    exact ⟨none, 0, rfl, Nat.le_refl _, Nat.zero_le _, Or.inl rfl⟩
  · refine ⟨some ⟨g, 0, none⟩, cap, by rw [hl], by omega, h2, Or.inr ⟨g, 0, rfl, ?_, fun i cs hi j v hv => ?_⟩⟩
    · rcases Nat.lt_or_ge g w.heap.size with hlt | hge
      · exact hlt
      · rw [Array.getElem?_eq_none hge] at hh; cases hh
    · have h5 := flatten_at hk hi hv
      rw [← h4] at h5
      have h6 := cell_of_row w g (i * k + j) cur e (0, 0) hh
      rw [Nat.zero_add, h6]
      have hlt : i * k + j < n * k := by
        rcases Nat.lt_or_ge (i * k + j) (n * k) with g | g
        · exact g
        · rw [List.getElem?_eq_none (by rw [List.length_take]; omega)] at h5; cases h5
      rw [List.getElem?_take_of_lt hlt] at h5
      simpa using h5
theorem own_form {w : World} {base : Nat} {e : TypeId} {size : Nat} {v : Value} {n : Nat} {xs : List Value} (h : w.ownsRow base e size v n xs) : ∃ A c, v = .slice A n c := by
  rcases h.2 with ⟨rfl, rfl⟩ | ⟨g, cap, cur, rfl, _⟩
  · exact ⟨none, 0, rfl⟩
  · exact ⟨_, cap, rfl⟩
theorem own_lt {w : World} {base : Nat} {e : TypeId} {size : Nat} {v : Value} {n : Nat} {xs : List Value} (h : w.ownsRow base e size v n xs) (q : Nat) (hq : v.ownBlock = some q) : q < w.heap.size := by
  rcases h.2 with ⟨rfl, _⟩ | ⟨g, cap, cur, rfl, _, hh, _⟩
  · simp [Value.ownBlock] at hq
  · have e1 : g = q := by simpa [Value.ownBlock] using hq
    subst e1
    rcases Nat.lt_or_ge g w.heap.size with hlt | hge
    · exact hlt
    · rw [Array.getElem?_eq_none hge] at hh; cases hh
/-- The block of an owned row is of the element's type. -/
theorem own_block {w : World} {base : Nat} {e : TypeId} {size : Nat} {v : Value} {n : Nat} {xs : List Value} (h : w.ownsRow base e size v n xs) (q : Nat) (hq : v.ownBlock = some q) : ∃ cur, w.heap[q]? = some (.cells cur e (0, 0)) := by
  rcases h.2 with ⟨rfl, _⟩ | ⟨g, cap, cur, rfl, _, hh, _⟩
  · simp [Value.ownBlock] at hq
  · have e1 : g = q := by simpa [Value.ownBlock] using hq
    subst e1
    exact ⟨cur, hh⟩
/-- A block of another type is no owned row's. -/
theorem own_other {w : World} {base : Nat} {e e' : TypeId} {size : Nat} {v : Value} {n : Nat} {xs : List Value} (h : w.ownsRow base e size v n xs) {g : Nat} {cs : Array Value} {fr : Nat × Nat} (hg : w.heap[g]? = some (.cells cs e' fr)) (hne : e ≠ e') : v.ownBlock ≠ some g := fun hq => by
  obtain ⟨cur, hh⟩ := own_block h g hq
  rw [hh] at hg
  injection hg with hg
  injection hg with _ ht
  exact hne ht
/-- Two rows of different element types are never one block. -/
theorem own_types {w : World} {base base' : Nat} {e e' : TypeId} {s s' : Nat} {v v' : Value} {n n' : Nat} {xs xs' : List Value} (h : w.ownsRow base e s v n xs) (h' : w.ownsRow base' e' s' v' n' xs') (hne : e ≠ e') (q : Nat) (hq : v.ownBlock = some q) : v'.ownBlock ≠ some q := by
  obtain ⟨cur, hh⟩ := own_block h q hq
  exact own_other h' hh (Ne.symm hne)
/-- An owned row is kept while another row grows. -/
theorem own_grown {w w' : World} {base : Nat} {e : TypeId} {size : Nat} {v : Value} {n : Nat} {xs : List Value} {row : Option Nat} (h : w.ownsRow base e size v n xs) (hg : w.grownBy w' row) (hne : ∀ q, v.ownBlock = some q → row ≠ some q) : w'.ownsRow base e size v n xs := by
  have hlt := own_lt h
  obtain ⟨h1, h2⟩ := h
  refine ⟨h1, ?_⟩
  rcases h2 with h2 | ⟨g, cap, cur, rfl, hgb, hh, r⟩
  · exact Or.inl h2
  · exact Or.inr ⟨g, cap, cur, rfl, hgb, by rw [hg.block g (hlt g rfl) (fun e => hne g rfl e.symm)]; exact hh, r⟩
theorem Ext.blockAt {a b : World} (h : Ext a b) {q : Nat} {o : Obj} (hq : a.heap[q]? = some o) : b.heap[q]? = some o := by
  have hlt : q < a.heap.size := by
    rcases Nat.lt_or_ge q a.heap.size with g | g
    · exact g
    · rw [Array.getElem?_eq_none g] at hq; cases hq
  rw [Below.block h q hlt]; exact hq
theorem own_ext {w w' : World} {base : Nat} {e : TypeId} {size : Nat} {v : Value} {n : Nat} {xs : List Value} (h : w.ownsRow base e size v n xs) (he : Ext w w') : w'.ownsRow base e size v n xs := by
  obtain ⟨h1, h2⟩ := h
  refine ⟨h1, ?_⟩
  rcases h2 with h2 | ⟨g, cap, cur, rfl, hgb, hh, r⟩
  · exact Or.inl h2
  · exact Or.inr ⟨g, cap, cur, rfl, hgb, he.blockAt hh, r⟩
theorem grown_none {w w' : World} (h : w.grownBy w' none) : Ext w w' := (Ext.refl w).grown h (fun k e => by cases e)
theorem own_nil (w : World) (base : Nat) (e : TypeId) (size : Nat) : w.ownsRow base e size (.slice none 0 0) 0 [] := ⟨by simp, Or.inl ⟨rfl, rfl⟩⟩

/-- An address that was not there when w stood. -/
def Fresh (A : Option Addr) (w : World) : Prop := ∀ a, A = some a → w.heap.size ≤ a.block
theorem Fresh.mono {A : Option Addr} {w w' : World} (h : Fresh A w') (he : Ext w w') : Fresh A w := fun a ha => Nat.le_trans he.size (h a ha)
theorem Fresh.none (w : World) : Fresh none w := fun a ha => by cases ha
theorem Fresh.own {w wF : World} {base : Nat} {e : TypeId} {size n c m : Nat} {A : Option Addr} {xs : List Value} (h : wF.ownsRow base e size (.slice A m c) n xs) (hb : w.heap.size ≤ base) : Fresh A w := by
  rintro a rfl
  exact Nat.le_trans hb (own_ge h a.block rfl)
/-- A slice in other blocks than one is kept while that one is written. -/
theorem Sl.setCell {w : World} {k : Nat} {A : Option Addr} {xs : List (List Value)} (h : Sl w k A xs) {p : Addr} (hp : ∀ a, A = some a → a.block ≠ p.block) (v : Value) : Sl (w.setCell p v) k A xs := by
  rcases h with h | ⟨b, off, hA, hb, hc⟩
  · exact Or.inl h
  · refine Or.inr ⟨b, off, hA, by simpa using hb, fun i cs hi j u hu => ?_⟩
    have hne := hp _ hA
    simp only at hne
    rw [World.cell?_of_block (w := w) (w' := w.setCell p v) (Below.heap_setCell _ _ _ _ hne)]
    exact hc i cs hi j u hu

section
variable {P : Program}
/-- append of a slice that reads as a list, onto a row of the call's own: nil, empty or not. -/
theorem run_append_sl (w : World) (base : Nat) (t ty e : TypeId) (i : TypeInfo) (z : Value) (size bytes : Nat) (ht : P.underlying t = some (.slice e)) (hi : P.info? e = some i) (hz : i.zero = some z)
    (hsize : i.size = size) (hby : i.bytes = bytes) (hzs : z.cells.size = size) (hsz : 0 < size)
    (v : Value) (n : Nat) (xs : List Value) (hown : w.ownsRow base e size v n xs)
    (A : Option Addr) (c : Nat) (xss : List (List Value)) (hr : Sl w size A xss) (hk : ∀ c ∈ xss, c.length = size) (h1 : ∀ c ∈ xss, ∀ u ∈ c, u.oneCell' = true)
    (h63 : n + xss.length ≤ maxLen) (hbytes : (n + xss.length) * bytes ≤ 140737488355328) (hbase : base ≤ w.heap.size) :
    ∃ v' w', (Builtin.append_ #[t, t] ty #[v, .slice A xss.length c]).run P w = .ok v' w' ∧ w'.ownsRow base e size v' (n + xss.length) (xs ++ xss.flatten) ∧ w.grownBy w' v.ownBlock ∧
      (v'.ownBlock = v.ownBlock ∨ v'.ownBlock = some w.heap.size) := by
  cases A with
  | none =>
    have h0 : xss = [] := by
      rcases hr with h | ⟨b, off, hA, _⟩
      · exact h
      · cases hA
    subst h0
    refine ⟨v, w, ?_, by simpa using hown, World.grownBy.refl w _, Or.inl rfl⟩
    rcases hown.2 with ⟨rfl, rfl⟩ | ⟨g, cap, cur, rfl, _, _, hnc, _⟩
    · simp [Builtin.append_, run_underlying ht, sizeOf, typeInfo, hi, Builtin.lenOf, Builtin.firstCells]
    · simp [Builtin.append_, run_underlying ht, sizeOf, typeInfo, hi, Builtin.lenOf, Builtin.firstCells, hnc, storeCells]
  | some ad =>
    obtain ⟨v', w', h2, h3, h4, _, h5⟩ := run_append_own_at (P := P) w base t ty e i z size bytes ht hi hz hsize hby hzs hsz v n xs hown ad xss.length c xss.flatten (flatten_len hk) (fun j u hu => by
      rcases hr with h | ⟨b, off, hA, hb, hc⟩
      · subst h; simp at hu
      · injection hA with hA
        subst hA
        obtain ⟨q, r, cs, g1, g2, rfl⟩ := flatten_inv hk hu
        rw [add_plain]
        exact hc q cs g1 r u g2) (fun u hu => by
      obtain ⟨cs, g1, g2⟩ := List.mem_flatten.1 hu
      exact h1 cs g1 u g2) h63 hbytes hbase
    exact ⟨v', w', h2, h3, h4, h5⟩
/-- The run of the whole operation. -/
theorem exec_append {ev : Operand → Value} {o : Oper} {w w' : World} {s x : Operand} {t : TypeId} {v y v' : Value} (ho : o.op = .call { callee := .builtin .append, args := #[s, x], argTypes := #[t, t] }) (hs : ev s = v) (hx : ev x = y)
    (hr : (Builtin.append_ #[t, t] o.type #[v, y]).run P w = .ok v' w') : (execOp ev o).run P w = .ok (.value v') w' := by
  unfold execOp
  simp only [ho, resolve, invoke, builtin, Sem.run_bind, Sem.run_pure, Result.andThen_ok, List.map_toArray, List.map_cons, List.map_nil, hs, hx, hr]
end
end Go.Proofs.YtfnmgcblhebdbaaGreatDoor
