/- A region that draws its order, walked by a table of facts: what each operation leaves, until another one uses it up. No conditions. -/
import Derived.Test.YtfnmgcblhebdbaaGreatDoorReg
import Derived.Test.YtfnmgcblhebdbaaGreatDoorApp
namespace Go.Proofs.YtfnmgcblhebdbaaGreatDoor
open Go.RowKit

theorem dep {o : Oper} {l : Nat → Bool} (hd : ∀ e ∈ o.after, Region.binds .any e = true → l e.on = true) (d : Nat) (h : (o.after.any fun e => decide (e.on = d) && Region.binds .any e) = true) : l d = true := by
  rw [Array.any_eq_true'] at h
  obtain ⟨e, he, h⟩ := h
  rw [Bool.and_eq_true, decide_eq_true_eq] at h
  rw [← h.1]
  exact hd e he h.2
def overL (U : Nat → Option Value) : Nat → List Value → List Value
  | _, [] => []
  | n, x :: xs => (U n).getD x :: overL U (n + 1) xs
theorem overL_at (U : Nat → Option Value) : ∀ (n : Nat) (l : List Value) (j : Nat), (overL U n l)[j]? = (l[j]?).map fun x => (U (n + j)).getD x
  | _, [], j => by simp [overL]
  | n, x :: xs, 0 => by simp [overL]
  | n, x :: xs, j + 1 => by simp only [overL, List.getElem?_cons_succ]; rw [overL_at U (n + 1) xs j, show n + 1 + j = n + (j + 1) by omega]
theorem over_list (l : List Value) (U : Nat → Option Value) : over l.toArray U = (overL U 0 l).toArray := by
  apply Array.ext_getElem?
  intro j
  unfold over
  rw [Array.getElem?_mapIdx]
  simp [overL_at]

/-- What is known while a region runs. 'm': so many facts (those past the operations hold from the start); 'ds': where each lies; 'cons': which operation uses it up; 'B': the world ahead of all that is written. -/
structure Tb (ops : Array Oper) (m : Nat) (ds : List Nat) (cons : Nat → Option Nat) (R : Nat → Option Value → World → Prop) (B : World) (l : Nat → Bool) (U : Nat → Option Value) (w : World) : Prop where
  ext : Ext B w
  out : ∀ k, ds.contains k = false → U k = none
  shut : ∀ (i : Nat) (o : Oper), ops[i]? = some o → l i = true → ∀ e ∈ o.after, Region.binds .any e = true → l e.on = true
  past : ∀ i, ops.size ≤ i → l i = true
  facts : ∀ i, i < m → l i = true → (∀ c, cons i = some c → l c = false) → R i (U (ds.getD i 0)) w

section
variable {P : Program} {ops : Array Oper} {Q : Exit → Act → World → Prop} {m : Nat} {ds : List Nat} {cons : Nat → Option Nat} {R : Nat → Option Value → World → Prop} {B : World}

theorem Tb.put {l : Nat → Bool} {U : Nat → Option Value} {w w' : World} {i : Nat} {o : Oper} {v : Value} (h : Tb ops m ds cons R B l U w) (ho : ops[i]? = some o) (hd : ∀ e ∈ o.after, Region.binds .any e = true → l e.on = true)
    (hin : ds.contains (ds.getD i 0) = true) (hinj : ∀ j, j < m → j ≠ i → ds.getD j 0 ≠ ds.getD i 0) (hx : Ext B w') (hR : R i (some v) w')
    (hst : ∀ j, j < m → j ≠ i → l j = true → (∀ c, cons j = some c → c ≠ i ∧ l c = false) → R j (U (ds.getD j 0)) w → R j (U (ds.getD j 0)) w') :
    Tb ops m ds cons R B (fun j => if j = i then true else l j) (upd U (ds.getD i 0) v) w' where
  ext := hx
  out k hk := by
    have hne : k ≠ ds.getD i 0 := fun e => by rw [e, hin] at hk; cases hk
    rw [upd_ne hne]
    exact h.out k hk
  shut j oj hj hl e he hb := by
    by_cases hei : e.on = i
    · simp [hei]
    · simp only [if_neg hei]
      by_cases hji : j = i
      · subst hji
        rw [ho] at hj
        injection hj with hj
        subst hj
        exact hd e he hb
      · rw [if_neg hji] at hl
        exact h.shut j oj hj hl e he hb
  past j hj := by
    by_cases hji : j = i
    · rw [if_pos hji]
    · rw [if_neg hji]; exact h.past j hj
  facts j hj hl hc := by
    by_cases hji : j = i
    · subst hji
      rw [upd_same]
      exact hR
    · rw [if_neg hji] at hl
      rw [upd_ne (hinj j hj hji)]
      have hc' : ∀ c, cons j = some c → c ≠ i ∧ l c = false := fun c e => by
        have := hc c e
        by_cases hci : c = i
        · rw [if_pos hci] at this; cases this
        · rw [if_neg hci] at this; exact ⟨hci, this⟩
      exact hst j hj hji hl hc' (h.facts j hj hl (fun c e => (hc' c e).2))

/-- An operation that yields a value. -/
theorem tb_yield {t : Array Value} {d : List Deferred} {l : Nat → Bool} {U : Nat → Option Value} {w w' : World} {i : Nat} {o : Oper} {v : Value} (h : Tb ops m ds cons R B l U w) (ho : ops[i]? = some o) (hd : ∀ e ∈ o.after, Region.binds .any e = true → l e.on = true)
    (hg : o.guard = none) (hk : o.dst = some (ds.getD i 0)) (hin : ds.contains (ds.getD i 0) = true) (hinj : ∀ j, j < m → j ≠ i → ds.getD j 0 ≠ ds.getD i 0)
    (hr : (execOp (Act.eval ⟨over t U, d⟩) o).run P w = .ok (.value v) w') (hx : Ext B w') (hR : R i (some v) w')
    (hst : ∀ j, j < m → j ≠ i → l j = true → (∀ c, cons j = some c → c ≠ i ∧ l c = false) → R j (U (ds.getD j 0)) w → R j (U (ds.getD j 0)) w') :
    wpOp P ops Q i (fun a' w' => ∃ U', a' = ⟨over t U', d⟩ ∧ Tb ops m ds cons R B (fun j => if j = i then true else l j) U' w') ⟨over t U, d⟩ w :=
  step_yield (J := fun l U w => Tb ops m ds cons R B l U w) ho hg hk hr (h.put ho hd hin hinj hx hR hst)
/-- One that leaves the world as it is. -/
theorem tb_pure {t : Array Value} {d : List Deferred} {l : Nat → Bool} {U : Nat → Option Value} {w : World} {i : Nat} {o : Oper} {v : Value} (h : Tb ops m ds cons R B l U w) (ho : ops[i]? = some o) (hd : ∀ e ∈ o.after, Region.binds .any e = true → l e.on = true)
    (hg : o.guard = none) (hk : o.dst = some (ds.getD i 0)) (hin : ds.contains (ds.getD i 0) = true) (hinj : ∀ j, j < m → j ≠ i → ds.getD j 0 ≠ ds.getD i 0)
    (hr : (execOp (Act.eval ⟨over t U, d⟩) o).run P w = .ok (.value v) w) (hR : R i (some v) w) :
    wpOp P ops Q i (fun a' w' => ∃ U', a' = ⟨over t U', d⟩ ∧ Tb ops m ds cons R B (fun j => if j = i then true else l j) U' w') ⟨over t U, d⟩ w :=
  tb_yield h ho hd hg hk hin hinj hr h.ext hR (fun _ _ _ _ _ hj => hj)
/-- One that extends the world. -/
theorem tb_ext {t : Array Value} {d : List Deferred} {l : Nat → Bool} {U : Nat → Option Value} {w w' : World} {i : Nat} {o : Oper} {v : Value} (hR0 : ∀ j u w w', Ext w w' → R j u w → R j u w') (h : Tb ops m ds cons R B l U w) (ho : ops[i]? = some o) (hd : ∀ e ∈ o.after, Region.binds .any e = true → l e.on = true)
    (hg : o.guard = none) (hk : o.dst = some (ds.getD i 0)) (hin : ds.contains (ds.getD i 0) = true) (hinj : ∀ j, j < m → j ≠ i → ds.getD j 0 ≠ ds.getD i 0)
    (hr : (execOp (Act.eval ⟨over t U, d⟩) o).run P w = .ok (.value v) w') (hx : Ext w w') (hR : R i (some v) w') :
    wpOp P ops Q i (fun a' w' => ∃ U', a' = ⟨over t U', d⟩ ∧ Tb ops m ds cons R B (fun j => if j = i then true else l j) U' w') ⟨over t U, d⟩ w :=
  tb_yield h ho hd hg hk hin hinj hr (h.ext.trans hx) hR (fun j _ _ _ _ hj => hR0 j _ _ _ hx hj)

/-- **A region that draws its order, by a table of facts.** -/
theorem region_tb {id : Nat} {a : Act} {w : World} (hm : P.follows .mixedOrders = true) (hac : ops.toList.zipIdx.all (fun p => p.1.after.all fun e => !Region.binds .any e || decide (e.on < p.2)) = true)
    (E : Array Value → Prop) (hE : E a.tmps) (m : Nat) (ds : List Nat) (cons : Nat → Option Nat) (R : Nat → Option Value → World → Prop) (B : World) (hB : Ext B w) (hv : ∀ i, ops.size ≤ i → i < m → R i none w.drew)
    (hstep : ∀ (t : Array Value) (d : List Deferred) (l : Nat → Bool) (U : Nat → Option Value) (w : World) (i : Nat) (o : Oper), E t → ops[i]? = some o → l i = false → (∀ e ∈ o.after, Region.binds .any e = true → l e.on = true) → Tb ops m ds cons R B l U w →
      wpOp P ops Q i (fun a' w' => ∃ U', a' = ⟨over t U', d⟩ ∧ Tb ops m ds cons R B (fun j => if j = i then true else l j) U' w') ⟨over t U, d⟩ w)
    (hdone : ∀ U w, Ext B w → (∀ k, ds.contains k = false → U k = none) → (∀ i, i < m → cons i = none → R i (U (ds.getD i 0)) w) → Q .normal ⟨over a.tmps U, a.defers⟩ w) : (Code.region id ops true).wp P Q a w := by
  refine region_over hm hac E hE (fun l U w => Tb ops m ds cons R B l U w) ?_ hstep ?_
  · refine ⟨hB.drew, fun _ _ => rfl, fun i o ho hl => ?_, fun i hi => by simp [Nat.not_lt.2 hi], fun i hi hl _ => ?_⟩
    · have : i < ops.size := by
        rcases Nat.lt_or_ge i ops.size with g | g
        · exact g
        · rw [Array.getElem?_eq_none g] at ho; cases ho
      simp [this] at hl
    · refine hv i ?_ hi
      simpa using hl
  · intro U w h
    exact hdone U w h.ext h.out (fun i hi hc => h.facts i hi rfl (fun c e => by rw [hc] at e; cases e))
end
end Go.Proofs.YtfnmgcblhebdbaaGreatDoor
