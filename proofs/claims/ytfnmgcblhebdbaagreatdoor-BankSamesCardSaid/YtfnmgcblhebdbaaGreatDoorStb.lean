/- A region that draws its order, by a table of facts: steps that call, steps that store. No conditions. -/
import Derived.Test.YtfnmgcblhebdbaaGreatDoorTab
namespace Go.Proofs.YtfnmgcblhebdbaaGreatDoor
open Go.RowKit

section
variable {P : Program} {ops : Array Oper} {Q : Exit → Act → World → Prop} {m : Nat} {ds : List Nat} {cons : Nat → Option Nat} {R : Nat → Option Value → World → Prop} {B : World}
theorem exec_call2 {P : Program} {ev : Operand → Value} {o : Oper} {w : World} {f : FuncId} {c x : Operand} {vc vx : Value} {ts : Array TypeId} (ho : o.op = .call { callee := .value (.func f), args := #[c, x], argTypes := ts }) (hf : ev (.func f) = .func (.func f) #[] #[]) (hc : ev c = vc) (hx : ev x = vx)
    (he : ∀ args w, (callFunc f args).run P w = .ok (.enter f args) w) : (execOp ev o).run P w = .ok (.enter f #[vc, vx]) w := by
  unfold execOp
  simp [ho, resolve, invoke, go_sem, hf, hc, hx, he]
theorem exec_call1 {P : Program} {ev : Operand → Value} {o : Oper} {w : World} {f : FuncId} {x : Operand} {vx : Value} {ts : Array TypeId} (ho : o.op = .call { callee := .value (.func f), args := #[x], argTypes := ts }) (hf : ev (.func f) = .func (.func f) #[] #[]) (hx : ev x = vx)
    (he : ∀ args w, (callFunc f args).run P w = .ok (.enter f args) w) : (execOp ev o).run P w = .ok (.enter f #[vx]) w := by
  unfold execOp
  simp [ho, resolve, invoke, go_sem, hf, hx, he]
/-- An operation that calls. -/
theorem tb_call {t : Array Value} {d : List Deferred} {l : Nat → Bool} {U : Nat → Option Value} {w : World} {i : Nat} {o : Oper} {f : FuncId} {args : Array Value} (hR0 : ∀ j u w w', Ext w w' → R j u w → R j u w') (h : Tb ops m ds cons R B l U w) (ho : ops[i]? = some o) (hd : ∀ e ∈ o.after, Region.binds .any e = true → l e.on = true)
    (hg : o.guard = none) (hk : o.dst = some (ds.getD i 0)) (hin : ds.contains (ds.getD i 0) = true) (hinj : ∀ j, j < m → j ≠ i → ds.getD j 0 ≠ ds.getD i 0)
    (hr : (execOp (Act.eval ⟨over t U, d⟩) o).run P w = .ok (.enter f args) w) (hc : Calls P f args w fun e w' => ∃ v, e = .returned v ∧ Ext w w' ∧ R i (some v) w') :
    wpOp P ops Q i (fun a' w' => ∃ U', a' = ⟨over t U', d⟩ ∧ Tb ops m ds cons R B (fun j => if j = i then true else l j) U' w') ⟨over t U, d⟩ w := by
  refine wpOp_plain ho hg ?_
  unfold Oper.wp
  rw [hr, Oper.upon_enter]
  refine hc.mono ?_
  rintro e w' ⟨v, rfl, hx, hR⟩
  refine ⟨upd U (ds.getD i 0) v, ?_, h.put ho hd hin hinj (h.ext.trans hx) hR (fun j _ _ _ _ hj => hR0 j _ _ _ hx hj)⟩
  rw [hk]
  exact put_over t U d _ v
theorem Tb.mark {l : Nat → Bool} {U : Nat → Option Value} {w w' : World} {i : Nat} {o : Oper} (h : Tb ops m ds cons R B l U w) (ho : ops[i]? = some o) (hd : ∀ e ∈ o.after, Region.binds .any e = true → l e.on = true)
    (hx : Ext B w') (hR : R i (U (ds.getD i 0)) w')
    (hst : ∀ j, j < m → j ≠ i → l j = true → (∀ c, cons j = some c → c ≠ i ∧ l c = false) → R j (U (ds.getD j 0)) w → R j (U (ds.getD j 0)) w') :
    Tb ops m ds cons R B (fun j => if j = i then true else l j) U w' where
  ext := hx
  out k hk := h.out k hk
  shut j oj hj hl e he hb := by
    by_cases hei : e.on = i
    · simp [hei]
    · simp only [if_neg hei]
      by_cases hji : j = i
      · subst hji
        rw [ho] at hj
        injection hj with hj
        subst hj
        exact hd e he hb
      · rw [if_neg hji] at hl
        exact h.shut j oj hj hl e he hb
  past j hj := by
    by_cases hji : j = i
    · rw [if_pos hji]
    · rw [if_neg hji]; exact h.past j hj
  facts j hj hl hc := by
    by_cases hji : j = i
    · subst hji
      exact hR
    · rw [if_neg hji] at hl
      have hc' : ∀ c, cons j = some c → c ≠ i ∧ l c = false := fun c e => by
        have := hc c e
        by_cases hci : c = i
        · rw [if_pos hci] at this; cases this
        · rw [if_neg hci] at this; exact ⟨hci, this⟩
      exact hst j hj hji hl hc' (h.facts j hj hl (fun c e => (hc' c e).2))
/-- A fact put in where another one of the same slot has not come yet. -/
theorem Tb.putW {l : Nat → Bool} {U : Nat → Option Value} {w w' : World} {i : Nat} {o : Oper} {v : Value} (h : Tb ops m ds cons R B l U w) (ho : ops[i]? = some o) (hd : ∀ e ∈ o.after, Region.binds .any e = true → l e.on = true)
    (hin : ds.contains (ds.getD i 0) = true) (hinj : ∀ j, j < m → j ≠ i → l j = true → ds.getD j 0 ≠ ds.getD i 0) (hx : Ext B w') (hR : R i (some v) w')
    (hst : ∀ j, j < m → j ≠ i → l j = true → (∀ c, cons j = some c → c ≠ i ∧ l c = false) → R j (U (ds.getD j 0)) w → R j (U (ds.getD j 0)) w') :
    Tb ops m ds cons R B (fun j => if j = i then true else l j) (upd U (ds.getD i 0) v) w' where
  ext := hx
  out k hk := by
    have hne : k ≠ ds.getD i 0 := fun e => by rw [e, hin] at hk; cases hk
    rw [upd_ne hne]
    exact h.out k hk
  shut j oj hj hl e he hb := by
    by_cases hei : e.on = i
    · simp [hei]
    · simp only [if_neg hei]
      by_cases hji : j = i
      · subst hji
        rw [ho] at hj
        injection hj with hj
        subst hj
        exact hd e he hb
      · rw [if_neg hji] at hl
        exact h.shut j oj hj hl e he hb
  past j hj := by
    by_cases hji : j = i
    · rw [if_pos hji]
    · rw [if_neg hji]; exact h.past j hj
  facts j hj hl hc := by
    by_cases hji : j = i
    · subst hji
      rw [upd_same]
      exact hR
    · rw [if_neg hji] at hl
      rw [upd_ne (hinj j hj hji hl)]
      have hc' : ∀ c, cons j = some c → c ≠ i ∧ l c = false := fun c e => by
        have := hc c e
        by_cases hci : c = i
        · rw [if_pos hci] at this; cases this
        · rw [if_neg hci] at this; exact ⟨hci, this⟩
      exact hst j hj hji hl hc' (h.facts j hj hl (fun c e => (hc' c e).2))
theorem tb_extW {t : Array Value} {d : List Deferred} {l : Nat → Bool} {U : Nat → Option Value} {w w' : World} {i : Nat} {o : Oper} {v : Value} (hR0 : ∀ j u w w', Ext w w' → R j u w → R j u w') (h : Tb ops m ds cons R B l U w) (ho : ops[i]? = some o) (hd : ∀ e ∈ o.after, Region.binds .any e = true → l e.on = true)
    (hg : o.guard = none) (hk : o.dst = some (ds.getD i 0)) (hin : ds.contains (ds.getD i 0) = true) (hinj : ∀ j, j < m → j ≠ i → l j = true → ds.getD j 0 ≠ ds.getD i 0)
    (hr : (execOp (Act.eval ⟨over t U, d⟩) o).run P w = .ok (.value v) w') (hx : Ext w w') (hR : R i (some v) w') :
    wpOp P ops Q i (fun a' w' => ∃ U', a' = ⟨over t U', d⟩ ∧ Tb ops m ds cons R B (fun j => if j = i then true else l j) U' w') ⟨over t U, d⟩ w :=
  step_yield (J := fun l U w => Tb ops m ds cons R B l U w) ho hg hk hr (h.putW ho hd hin hinj (h.ext.trans hx) hR (fun j _ _ _ _ hj => hR0 j _ _ _ hx hj))
/-- A closure with one captured value is called with one argument. -/
theorem exec_callc {P : Program} {ev : Operand → Value} {o : Oper} {w : World} {f : FuncId} {g x : Operand} {p vx : Value} {ts : Array TypeId} (ho : o.op = .call { callee := .value g, args := #[x], argTypes := ts }) (hf : ev g = .func (.func f) #[] #[p]) (hx : ev x = vx)
    (he : ∀ args w, (callFunc f args).run P w = .ok (.enter f args) w) : (execOp ev o).run P w = .ok (.enter f #[vx, p]) w := by
  unfold execOp
  simp [ho, resolve, invoke, go_sem, hf, hx, he]
/-- An operation that stores: no slot is written. -/
theorem tb_store {t : Array Value} {d : List Deferred} {l : Nat → Bool} {U : Nat → Option Value} {w w' : World} {i : Nat} {o : Oper} (h : Tb ops m ds cons R B l U w) (ho : ops[i]? = some o) (hd : ∀ e ∈ o.after, Region.binds .any e = true → l e.on = true)
    (hg : o.guard = none) (hk : o.dst = none)
    (hr : (execOp (Act.eval ⟨over t U, d⟩) o).run P w = .ok .skip w') (hx : Ext B w') (hR : R i (U (ds.getD i 0)) w')
    (hst : ∀ j, j < m → j ≠ i → l j = true → (∀ c, cons j = some c → c ≠ i ∧ l c = false) → R j (U (ds.getD j 0)) w → R j (U (ds.getD j 0)) w') :
    wpOp P ops Q i (fun a' w' => ∃ U', a' = ⟨over t U', d⟩ ∧ Tb ops m ds cons R B (fun j => if j = i then true else l j) U' w') ⟨over t U, d⟩ w := by
  refine wpOp_plain ho hg ?_
  unfold Oper.wp
  rw [hr, Oper.upon_skip]
  refine ⟨U, ?_, h.mark ho hd hx hR hst⟩
  rw [hk]
  rfl
end
end Go.Proofs.YtfnmgcblhebdbaaGreatDoor
