/- One element more in a row that a record holds, in a region that draws its order: what each operation leaves. No conditions. -/
import Derived.Test.YtfnmgcblhebdbaaGreatDoorBkD
import Derived.Test.YtfnmgcblhebdbaaGreatDoorStd
import Derived.Test.YtfnmgcblhebdbaaGreatDoorStc
import Derived.Great.BuildSlice
import Derived.Great.FillDense
import Derived.Shelf.Abstract
namespace Go.Proofs.YtfnmgcblhebdbaaGreatDoor
open Go.RowKit
namespace Bk
theorem set_self {cs : Array Value} {o : Nat} {v : Value} (h : cs[o]? = some v) : cs.setIfInBounds o v = cs := by
  apply Array.ext_getElem?
  intro i
  rw [Array.getElem?_setIfInBounds]
  by_cases hi : o = i
  · subst hi
    rw [if_pos rfl, h, if_pos (Array.getElem?_eq_some_iff.1 h).1]
  · rw [if_neg hi]
theorem set_set {cs : Array Value} (o : Nat) (v v' : Value) : (cs.setIfInBounds o v).setIfInBounds o v' = cs.setIfInBounds o v' := by
  apply Array.ext_getElem?
  intro i
  simp only [Array.getElem?_setIfInBounds, Array.size_setIfInBounds]
  by_cases hi : o = i
  · rw [if_pos hi, if_pos hi]
  · rw [if_neg hi, if_neg hi, if_neg hi]
theorem fill_one {k : Nat} (hk : 0 < k) (v : Value) (z : Array Value) (hv : v.cells.size = k) (hz : z.size = k) : Instr.fill (fun i => some (i * k, k)) z [(0, v)] = some v.cells := by
  refine (Go.Great.fill_whole hk [v] z (fun u hu => by rw [List.mem_singleton] at hu; rw [hu]; exact hv) (by simp [hz])).trans ?_
  simp
section
variable {P : Program}
theorem exec_buildOne {ev : Operand → Value} {o : Oper} {w : World} (t e : TypeId) (x : Operand) (ho : o.op = .buildSlice t 1 #[(0, x)]) {v : Value} (hx : ev x = v) {ie : TypeInfo} {z : Value} {k : Nat} (hu : P.underlying t = some (.slice e)) (hie : P.info? e = some ie) (hz : ie.zero = some z)
    (hs : ie.size = k) (hk : 0 < k) (hb : k ≤ 1000) (hv : v.cells.size = k) :
    (execOp ev o).run P w = .ok (.value (.slice (some ⟨w.heap.size, 0, none⟩) 1 1)) (w.alloc (.cells v.cells e)) := by
  have hr := run_buildSlice w t e 1 #[(0, v)] v.cells ie z hu hie hz (by omega) (by omega) (by
    rw [hs]
    exact fill_one hk v _ hv (by simp))
  have e1 : (#[(0, x)].map fun (p : Nat × Operand) => (p.1, ev p.2)) = #[(0, v)] := by simp [hx]
  unfold execOp
  simp only [ho, Sem.run_bind]
  rw [show (#[(0, x)].map fun (i, x) => (i, ev x)) = #[(0, v)] from e1, hr]
  rfl
theorem exec_buildL {ev : Operand → Value} {o : Oper} {w : World} (t : TypeId) (parts : Array (Nat × Operand)) (ho : o.op = .build t parts) (L : List (Nat × Value)) (hm : (parts.map fun (i, x) => (i, ev x)).toList = L) (cells : Array Value) (hc : P.built t L = some cells) :
    (execOp ev o).run P w = .ok (.value (.agg cells)) w := by
  subst hm
  unfold execOp
  simp only [ho, Sem.run_bind, run_build w t _ cells hc, Result.andThen_ok]
  rfl
theorem exec_store_row {ev : Operand → Value} {o : Oper} {w : World} (ty : TypeId) (x y : Operand) (ho : o.op = .store ty x y) (g : Nat) (cells : Array Value) (hx : ev x = .pointer (some ⟨g, 0, none⟩)) (hy : ev y = .agg cells)
    (t : TypeId) (old : Array Value) (hg : w.heap[g]? = some (.cells old t (0, 0))) (hi : (P.info? ty).map (·.size) = some cells.size) (hold : old.size = cells.size) (h1 : cells.all (·.oneCell') = true) :
    (execOp ev o).run P w = .ok .skip (w.setRow g cells) := by
  unfold execOp
  simp only [ho, hx, hy, Instr.storeAt, Instr.sureAddr, Sem.run_bind, Sem.run_pure, Result.andThen_ok, run_storeVar_row w g t ty old cells hg hi hold h1]
theorem Sl.newRow (w : World) (cs : List Value) {k : Nat} (e : TypeId) : Sl (w.alloc (.cells cs.toArray e)) k (some ⟨w.heap.size, 0, none⟩) [cs] :=
  Or.inr ⟨w.heap.size, 0, rfl, by simp, fun i c hi j v hv => by
    have hi0 : i = 0 := by
      rcases Nat.eq_zero_or_pos i with g | g
      · exact g
      · rw [List.getElem?_eq_none (by simp; omega)] at hi; cases hi
    subst hi0
    have hcs : cs = c := by simpa using hi
    subst hcs
    rw [show 0 + (0 * k + j) = j by omega, World.cell?_alloc_new]
    simpa using hv⟩
theorem own_low' {w : World} {base base' : Nat} {e : TypeId} {size : Nat} {v : Value} {n : Nat} {xs : List Value} (h : w.ownsRow base e size v n xs) (hb : base' ≤ base) : w.ownsRow base' e size v n xs := by
  obtain ⟨h1, h2⟩ := h
  refine ⟨h1, ?_⟩
  rcases h2 with h2 | ⟨g, cap, cur, hv, hg, r⟩
  · exact Or.inl h2
  · exact Or.inr ⟨g, cap, cur, hv, Nat.le_trans hb hg, r⟩
variable {X : Type} {E : Elt X}
theorem RowX.but {T : TypeId} {w w' : World} {base g : Nat} {v : Value} {xs : List X} (h : RowX E T w base v xs) (hb : But g w w') (hv : v.ownBlock ≠ some g) (hx : ∀ x ∈ xs, E.Off g x) : RowX E T w' base v xs := by
  refine ⟨?_, fun x hm => E.but (h.ins x hm) (hx x hm) hb, h.off⟩
  have hlt := own_lt h.own
  obtain ⟨h1, h2⟩ := h.own
  refine ⟨h1, ?_⟩
  rcases h2 with h2 | ⟨q, cap, cur, rfl, hgb, hh, r⟩
  · exact Or.inl h2
  · refine Or.inr ⟨q, cap, cur, rfl, hgb, ?_, r⟩
    rw [hb.2 q (hlt q rfl) (fun e => hv (by rw [e]; rfl))]
    exact hh
/-- What else is kept. -/
structure Kp where
  K : World → Prop
  ext : ∀ {w w' : World}, K w → Ext w w' → K w'
def Kp.none : Kp := ⟨fun _ => True, fun h _ => h⟩
theorem Kp.none_o {T : TypeId} : ∀ (w w' : World) (q : Nat) (cur : Array Value) (fr : Nat × Nat), w.heap[q]? = some (.cells cur T fr) → But q w w' → Kp.none.K w → Kp.none.K w' := fun _ _ _ _ _ _ _ h => h
theorem Kp.none_g {g : Nat} : ∀ (w w' : World), But g w w' → Kp.none.K w → Kp.none.K w' := fun _ _ _ h => h
variable (E)
/-- A new element's value. -/
def PNew (N : Nat) (D : X → Prop) (val : X → Value) (u : Option Value) (w : World) : Prop := ∃ x, u = some (val x) ∧ E.In w x ∧ E.From N x ∧ D x
/-- A slice of the new element alone. -/
def POne (N : Nat) (D : X → Prop) (u : Option Value) (w : World) : Prop := ∃ x p, u = some (.slice (some ⟨p, 0, none⟩) 1 1) ∧ Sl w E.k (some ⟨p, 0, none⟩) [E.enc x] ∧ E.In w x ∧ E.From N x ∧ D x
/-- The row and the record that holds it. -/
def PRow (T : TypeId) (N base : Nat) (v : Value) (xs : List X) (g : Nat) (cs : Array Value) (TG : TypeId) (K J : Kp) (w : World) : Prop := RowX E T w base v xs ∧ w.heap[g]? = some (.cells cs TG (0, 0)) ∧ N ≤ w.heap.size ∧ K.K w ∧ J.K w
/-- The row with the new element. -/
def PApp (D : X → Prop) (T : TypeId) (base : Nat) (xs : List X) (g : Nat) (cs : Array Value) (TG : TypeId) (K : Kp) (u : Option Value) (w : World) : Prop :=
  ∃ x A c, u = some (.slice A (xs.length + 1) c) ∧ RowX E T w base (.slice A (xs.length + 1) c) (xs ++ [x]) ∧ E.From base x ∧ D x ∧ w.heap[g]? = some (.cells cs TG (0, 0)) ∧ K.K w
/-- .. and the record that holds it. -/
def PSto (D : X → Prop) (T : TypeId) (base : Nat) (xs : List X) (g o : Nat) (cs : Array Value) (TG : TypeId) (K : Kp) (w : World) : Prop :=
  ∃ x A c, RowX E T w base (.slice A (xs.length + 1) c) (xs ++ [x]) ∧ E.From base x ∧ D x ∧ w.heap[g]? = some (.cells (cs.setIfInBounds o (.slice A (xs.length + 1) c)) TG (0, 0)) ∧ K.K w
variable {E}
theorem PNew.mono {N : Nat} {D : X → Prop} {val : X → Value} {u : Option Value} {w w' : World} (he : Ext w w') (h : PNew E N D val u w) : PNew E N D val u w' := by
  obtain ⟨x, h1, h2, h3⟩ := h
  exact ⟨x, h1, E.ext h2 he, h3⟩
theorem POne.mono {N : Nat} {D : X → Prop} {u : Option Value} {w w' : World} (he : Ext w w') (h : POne E N D u w) : POne E N D u w' := by
  obtain ⟨x, p, h1, h2, h3, h4⟩ := h
  exact ⟨x, p, h1, h2.ext he, E.ext h3 he, h4⟩
theorem PRow.mono {T : TypeId} {N base : Nat} {v : Value} {xs : List X} {g : Nat} {cs : Array Value} {TG : TypeId} {K J : Kp} {w w' : World} (he : Ext w w') (h : PRow E T N base v xs g cs TG K J w) : PRow E T N base v xs g cs TG K J w' := ⟨h.1.ext he, he.blockAt h.2.1, Nat.le_trans h.2.2.1 he.size, K.ext h.2.2.2.1 he, J.ext h.2.2.2.2 he⟩
theorem PApp.mono {D : X → Prop} {T : TypeId} {base : Nat} {xs : List X} {g : Nat} {cs : Array Value} {TG : TypeId} {K : Kp} {u : Option Value} {w w' : World} (he : Ext w w') (h : PApp E D T base xs g cs TG K u w) : PApp E D T base xs g cs TG K u w' := by
  obtain ⟨x, A, c, h1, h2, h3, h4, h5, h6⟩ := h
  exact ⟨x, A, c, h1, h2.ext he, h3, h4, he.blockAt h5, K.ext h6 he⟩
theorem PSto.mono {D : X → Prop} {T : TypeId} {base : Nat} {xs : List X} {g o : Nat} {cs : Array Value} {TG : TypeId} {K : Kp} {w w' : World} (he : Ext w w') (h : PSto E D T base xs g o cs TG K w) : PSto E D T base xs g o cs TG K w' := by
  obtain ⟨x, A, c, h2, h3, h4, h5, h6⟩ := h
  exact ⟨x, A, c, h2.ext he, h3, h4, he.blockAt h5, K.ext h6 he⟩
/-- The new slice of one. -/
theorem PNew.one {N : Nat} {D : X → Prop} {val : X → Value} {w : World} {x : X} (e : TypeId) (hc : (val x).cells = (E.enc x).toArray) (h2 : E.In w x) (h3 : E.From N x) (h4 : D x) :
    POne E N D (some (.slice (some ⟨w.heap.size, 0, none⟩) 1 1)) (w.alloc (.cells (val x).cells e)) := by
  refine ⟨x, w.heap.size, rfl, ?_, E.ext h2 ((Ext.refl _).alloc _), h3, h4⟩
  rw [hc]
  exact Sl.newRow w (E.enc x) e
/-- The append. -/
theorem PRow.app {T t ty TG : TypeId} {ie : TypeInfo} {z : Value} {bytes : Nat} (ht : P.underlying t = some (.slice T)) (hi : P.info? T = some ie) (hz : ie.zero = some z) (hs : ie.size = E.k) (hb : ie.bytes = bytes) (hzs : z.cells.size = E.k) (hT : T ≠ TG)
    {w B : World} {base N g : Nat} {v : Value} {xs : List X} {cs : Array Value} {D : X → Prop} {K J : Kp} {u : Option Value} (hr : PRow E T N base v xs g cs TG K J w) (hKO : ∀ (w w' : World) (q : Nat) (cur : Array Value) (fr : Nat × Nat), w.heap[q]? = some (.cells cur T fr) → But q w w' → K.K w → K.K w') (h1 : POne E N D u w)
    (hN : ∀ q, v.ownBlock = some q → q < N) (hbN : base ≤ N) (hx : Ext B w) (hBb : B.heap.size ≤ base) (h63 : xs.length + 1 ≤ maxLen) (hbytes : (xs.length + 1) * bytes ≤ 140737488355328) :
    ∃ y u' w', u = some y ∧ (Builtin.append_ #[t, t] ty #[v, y]).run P w = .ok u' w' ∧ Ext B w' ∧ PApp E D T base xs g cs TG K (some u') w' := by
  obtain ⟨x, p, rfl, h2, h3, h4, h5⟩ := h1
  obtain ⟨hrow, hblk, hsz, hk, -⟩ := hr
  have hbase : base ≤ w.heap.size := Nat.le_trans hbN hsz
  obtain ⟨v', w', hrun, hown, hgr, hat⟩ := run_append_sl (P := P) w base t ty T ie z E.k bytes ht hi hz hs hb hzs E.pos v xs.length _ hrow.own (some ⟨p, 0, none⟩) 1 [E.enc x] h2
    (fun c hc => by rw [List.mem_singleton] at hc; rw [hc]; exact E.len x) (fun c hc => by rw [List.mem_singleton] at hc; rw [hc]; exact E.one x) (by simpa using h63) (by simpa using hbytes) hbase
  simp only [List.length_singleton, List.flatten_cons, List.flatten_nil, List.append_nil] at hown
  obtain ⟨A, c, rfl⟩ := own_form hown
  refine ⟨_, _, w', rfl, hrun, hx.grown hgr (fun k hk => Nat.le_trans hBb (own_ge hrow.own k hk)), x, A, c, rfl, hrow.app h3 (fun q hq => E.frm h4 (hN q hq)) (Ext.refl _) hown hgr hat, E.mono h4 hbN, h5, ?_, ?_⟩
  · have hlt : g < w.heap.size := (Array.getElem?_eq_some_iff.1 hblk).1
    rw [hgr.block g hlt (fun e => own_other hrow.own hblk hT e.symm)]
    exact hblk
  · cases hv : v.ownBlock with
    | none => rw [hv] at hgr; exact K.ext hk (grown_none hgr)
    | some q =>
      rw [hv] at hgr
      obtain ⟨cur, hq⟩ := own_block hrow.own q hv
      exact hKO w w' q cur _ hq (But.grown hgr) hk
/-- The store. -/
theorem PApp.sto {D : X → Prop} {T : TypeId} {base : Nat} {xs : List X} {g o : Nat} {cs : Array Value} {TG : TypeId} {w : World} {x : X} {v : Value} {A : Option Addr} {c : Nat} (hv : v = .slice A (xs.length + 1) c) (h2 : RowX E T w base (.slice A (xs.length + 1) c) (xs ++ [x])) (h3 : E.From base x) (h4 : D x) (h5 : w.heap[g]? = some (.cells cs TG (0, 0))) {K : Kp} (h6 : K.K w) (hKG : ∀ (w w' : World), But g w w' → K.K w → K.K w')
    (hT : T ≠ TG) (hg : g < base) (hf : ∀ y ∈ xs, E.From base y) : PSto E D T base xs g o cs TG K (w.setCell ⟨g, o, none⟩ v) := by
  subst hv
  refine ⟨x, A, c, h2.but (But.setCell w ⟨g, o, none⟩ _) (own_other h2.own h5 hT) (fun y hy => ?_), h3, h4, heap_setCell_same _ _ _ _ _ _ h5, hKG _ _ (But.setCell w ⟨g, o, none⟩ _) h6⟩
  rcases List.mem_append.1 hy with hy | hy
  · exact E.frm (hf y hy) hg
  · rw [List.mem_singleton] at hy
    rw [hy]; exact E.frm h3 hg
theorem PRow.but {T : TypeId} {N base : Nat} {v : Value} {xs : List X} {g p : Nat} {cs : Array Value} {TG : TypeId} {K J : Kp} {w w' : World} (h : PRow E T N base v xs g cs TG K J w) (hk : K.K w → K.K w') (hj : J.K w → J.K w') (hb : But p w w') (hp : N ≤ p) (hg : g < N) (hv : ∀ q, v.ownBlock = some q → q < N) (ho : ∀ y ∈ xs, E.Off p y) : PRow E T N base v xs g cs TG K J w' :=
  ⟨h.1.but hb (fun e => by have := hv p e; omega) ho, by rw [hb.2 g (by have := h.2.2.1; omega) (by omega)]; exact h.2.1, Nat.le_trans h.2.2.1 hb.1, hk h.2.2.2.1, hj h.2.2.2.2⟩
theorem RowX.got {T : TypeId} {w : World} {N : Nat} {A : Option Addr} {c n : Nat} {xs : List X} (h : RowX E T w N (.slice A n c) xs) (he : T = E.T) (hn : xs.length = n) (hf : ∀ x ∈ xs, E.From N x) : Got E w N A xs c := by
  obtain ⟨A2, c2, h1, h2, h3, h4, h5⟩ := h.sl
  rw [hn] at h1
  cases h1
  refine ⟨h5, ⟨h4, hf⟩, h2, h3, ?_⟩
  have := h.own
  rw [hn] at this
  rw [hn, ← he]
  exact TyA.of_own this
/-- A new row without elements. -/
def POwn (T : TypeId) (k N : Nat) (u : Option Value) (w : World) : Prop := ∃ p, u = some (.slice (some ⟨p, 0, none⟩) 0 0) ∧ N ≤ p ∧ w.ownsRow N T k (.slice (some ⟨p, 0, none⟩) 0 0) 0 []
theorem POwn.mono {T : TypeId} {k N : Nat} {u : Option Value} {w w' : World} (he : Ext w w') (h : POwn T k N u w) : POwn T k N u w' := by
  obtain ⟨p, h1, h2, h3⟩ := h
  exact ⟨p, h1, h2, own_ext h3 he⟩
theorem POwn.made {T : TypeId} {k N : Nat} {w : World} (hN : N ≤ w.heap.size) : POwn T k N (some (.slice (some ⟨w.heap.size, 0, none⟩) 0 0)) (w.alloc (.cells #[] T)) :=
  ⟨w.heap.size, rfl, hN, World.ownsRow_made w #[] 0 hN (Nat.zero_le _) (by simp)⟩
/-- A copy appended to it. -/
theorem POwn.app {T t ty : TypeId} {ie : TypeInfo} {z : Value} {bytes : Nat} (he : T = E.T) (ht : P.underlying t = some (.slice T)) (hi : P.info? T = some ie) (hz : ie.zero = some z) (hs : ie.size = E.k) (hb : ie.bytes = bytes) (hzs : z.cells.size = E.k) (hE : ∀ N x, E.From N x)
    {w : World} {N n c : Nat} {u : Option Value} (h : POwn T E.k N u w) {A : Option Addr} {xs : List X} (hm : xs.length = n) (hr : SlX E w A xs) (hE2 : ∀ x ∈ xs, ∀ w, E.In w x) (hN : N ≤ w.heap.size) (h63 : n ≤ maxLen) (hbytes : n * bytes ≤ 140737488355328) :
    ∃ p y w' A' c', u = some y ∧ (Builtin.append_ #[t, t] ty #[y, .slice A n c]).run P w = .ok (.slice A' n c') w' ∧ N ≤ p ∧ w.grownBy w' (some p) ∧ Got E w' N A' xs c' := by
  obtain ⟨p, rfl, h2, h3⟩ := h
  subst hm
  obtain ⟨v', w', hrun, hown, hgr, -⟩ := run_append_sl (P := P) w N t ty T ie z E.k bytes ht hi hz hs hb hzs E.pos _ 0 [] h3 A c (xs.map E.enc) hr.sl (map_len xs) (fun c hc => by obtain ⟨x, -, rfl⟩ := List.mem_map.1 hc; exact E.one x) (by rw [List.length_map]; omega) (by rw [List.length_map, Nat.zero_add]; exact hbytes) hN
  rw [List.length_map] at hrun hown
  rw [Nat.zero_add, List.nil_append] at hown
  obtain ⟨A2, c2, h4, h5, h6, h7⟩ := Sl.of_own (xs := xs.map E.enc) (map_len xs) (List.length_map _) hown
  rw [List.length_map] at h4 h5
  subst h4
  exact ⟨p, _, w', A2, c2, rfl, hrun, h2, hgr, ⟨h7, fun x hx => hE2 x hx w'⟩, ⟨Or.inr fun a ha => own_ge hown a.block (by rw [ha]; rfl), fun x _ => hE _ x⟩, h5, h6, by rw [← he]; exact TyA.of_own hown⟩
end
end Bk
end Go.Proofs.YtfnmgcblhebdbaaGreatDoor
