/- slices.Compact at incidents: its contract. Conditions: those of each theorem. -/
import Derived.Test.YtcpapnnghclbmaaDoorInC
import Derived.Lib.SmallJoins
namespace Go.Proofs.YtcpapnnghclbmaaDoor
open Go.RowKit

namespace In
def ddS (out : List Inc) (p : Inc) : List Inc := if out.getLast? = some p then out else out ++ [p]
/-- Of equal neighbours the first one alone. -/
def dd (l : List Inc) : List Inc := l.foldl ddS []
theorem dd_snoc (l : List Inc) (p : Inc) : dd (l ++ [p]) = ddS (dd l) p := by unfold dd; rw [List.foldl_append]; rfl
theorem ddS_last (out : List Inc) (p : Inc) : (ddS out p).getLast? = some p := by
  unfold ddS
  split
  · assumption
  · simp
theorem dd_take {l : List Inc} {k : Nat} {p : Inc} (h : l[k]? = some p) : dd (l.take (k + 1)) = ddS (dd (l.take k)) p := by
  rw [List.take_add_one, h]; exact dd_snoc _ _
theorem dd_last {l : List Inc} {k : Nat} {p : Inc} (h : l[k]? = some p) : (dd (l.take (k + 1))).getLast? = some p := by
  rw [dd_take h]; exact ddS_last _ _
theorem ddS_same {out : List Inc} {p : Inc} (h : out.getLast? = some p) : ddS out p = out := by unfold ddS; rw [if_pos h]
theorem ddS_new {out : List Inc} {p q : Inc} (h : out.getLast? = some q) (hne : p ≠ q) : ddS out p = out ++ [p] := by
  unfold ddS; rw [h, if_neg]
  intro e; injection e with e; exact hne e.symm
theorem dd_len (l : List Inc) : (dd l).length ≤ l.length := by
  suffices h : ∀ (l out : List Inc), (l.foldl ddS out).length ≤ out.length + l.length by
    have := h l []
    simpa [dd] using this
  intro l
  induction l with
  | nil => intro out; simp
  | cons p l ih =>
    intro out
    rw [List.foldl_cons]
    refine Nat.le_trans (ih _) ?_
    have : (ddS out p).length ≤ out.length + 1 := by
      unfold ddS
      split
      · omega
      · simp
    simp
    omega
end In
theorem run_eql_inc (p q : In.Inc) {v : Bool} (hv : decide (p = q) = v) (w : World) : (binOp .eql 23 (.agg #[.int .i64 p.1, .int .i64 p.2.1, .int .i64 p.2.2.1, .int .i64 p.2.2.2]) (.agg #[.int .i64 q.1, .int .i64 q.2.1, .int .i64 q.2.2.1, .int .i64 q.2.2.2])).run Tryd.prog w = .ok (.bool v) w := by
  subst hv
  obtain ⟨a, b, c, d⟩ := p
  obtain ⟨a', b', c', d'⟩ := q
  simp only [Prod.mk.injEq]
  go_simp
  repeat (split <;> simp_all)
theorem run_neq_inc (p q : In.Inc) {v : Bool} (hv : (!decide (p = q)) = v) (w : World) : (binOp .neq 23 (.agg #[.int .i64 p.1, .int .i64 p.2.1, .int .i64 p.2.2.1, .int .i64 p.2.2.2]) (.agg #[.int .i64 q.1, .int .i64 q.2.1, .int .i64 q.2.2.1, .int .i64 q.2.2.2])).run Tryd.prog w = .ok (.bool v) w := by
  subst hv
  obtain ⟨a, b, c, d⟩ := p
  obtain ⟨a', b', c', d'⟩ := q
  simp only [Prod.mk.injEq]
  go_simp
  repeat (split <;> simp_all)
theorem RowN.ext {w w' : World} {g : Nat} {ys : List In.Inc} (h : RowN w g ys) (he : Ext w w') : RowN w' g ys := by
  obtain ⟨hc, hf⟩ := he.cells
  refine ⟨Nat.lt_of_lt_of_le h.1 he.size, fun i p hp j v hv => ?_⟩
  rw [hc _ _ h.1, hf _ _ h.1]
  exact h.2 i p hp j v hv
theorem RowN.at_ {w : World} {g : Nat} {ys : List In.Inc} (h : RowN w g ys) {i : Nat} {p : In.Inc} (hp : ys[i]? = some p) {o : Nat} (ho : i * 4 = o) :
    w.cell? ⟨g, o, none⟩ = some (.int .i64 p.1) ∧ w.cell? ⟨g, o + 1, none⟩ = some (.int .i64 p.2.1) ∧ w.cell? ⟨g, o + 1 + 1, none⟩ = some (.int .i64 p.2.2.1) ∧ w.cell? ⟨g, o + 1 + 1 + 1, none⟩ = some (.int .i64 p.2.2.2) := by
  subst ho
  exact ⟨(h.2 i p hp 0 _ rfl).1, (h.2 i p hp 1 _ rfl).1, (h.2 i p hp 2 _ rfl).1, (h.2 i p hp 3 _ rfl).1⟩
theorem RowN.free {w : World} {g : Nat} {ys : List In.Inc} (h : RowN w g ys) {i : Nat} {p : In.Inc} (hp : ys[i]? = some p) {o : Nat} (ho : i * 4 = o) :
    w.frozen? ⟨g, o, none⟩ = false ∧ w.frozen? ⟨g, o + 1, none⟩ = false ∧ w.frozen? ⟨g, o + 1 + 1, none⟩ = false ∧ w.frozen? ⟨g, o + 1 + 1 + 1, none⟩ = false := by
  subst ho
  exact ⟨(h.2 i p hp 0 _ rfl).2, (h.2 i p hp 1 _ rfl).2, (h.2 i p hp 2 _ rfl).2, (h.2 i p hp 3 _ rfl).2⟩
theorem Ext.setCells {a : World} {g : Nat} (hg : a.heap.size ≤ g) : ∀ (vs : List Value) (o : Nat) {b : World}, Ext a b → Ext a (b.setCells g o vs)
  | [], _, _, h => h
  | v :: vs, o, _, h => by rw [World.setCells]; exact Ext.setCells hg vs (o + 1) (h.setCell (p := ⟨g, o, none⟩) hg v)
theorem heap_setCells {g : Nat} : ∀ (vs : List Value) (o : Nat) (b : World), (b.setCells g o vs).heap.size = b.heap.size
  | [], _, _ => rfl
  | v :: vs, o, b => by rw [World.setCells, heap_setCells vs (o + 1)]; simp [World.setCell]
theorem RowN.set {w : World} {g : Nat} {ys : List In.Inc} (h : RowN w g ys) {K : Nat} (hK : K < ys.length) (p : In.Inc) : RowN (w.setCells g (K * 4) (In.cells p)) g (ys.set K p) := by
  refine ⟨by rw [heap_setCells]; exact h.1, fun i q hq j v hv => ?_⟩
  have hj : j < 4 := by
    rcases Nat.lt_or_ge j 4 with e | e
    · exact e
    · rw [List.getElem?_eq_none (by simpa [In.cells] using e)] at hv; cases hv
  rw [World.frozen?_setCells]
  by_cases hi : i = K
  · subst hi
    rw [List.getElem?_set_self hK] at hq
    injection hq with hq
    subst hq
    have hyi := List.getElem?_eq_getElem hK
    have hfr : ∀ r, r < 4 → ∃ u, (In.cells ys[i])[r]? = some u := fun r hr => ⟨_, List.getElem?_eq_getElem (by simpa [In.cells] using hr)⟩
    have hin := World.cell?_setCells_in g (In.cells p) (i * 4) w (fun r hr => by
      obtain ⟨u, hu⟩ := hfr r (by simpa [In.cells] using hr)
      rw [(h.2 i _ hyi r u hu).1]; rfl) j (by simpa [In.cells] using hj)
    obtain ⟨u, hu⟩ := hfr j hj
    refine ⟨?_, (h.2 i _ hyi j u hu).2⟩
    rw [hin]
    rw [List.getElem?_eq_getElem (by simpa [In.cells] using hj)] at hv
    exact hv
  · rw [List.getElem?_set_ne (by omega)] at hq
    have hk := h.2 i q hq j v hv
    refine ⟨?_, hk.2⟩
    rw [World.cell?_setCells_out g (In.cells p) (K * 4) w _ (fun _ _ => ?_)]
    · exact hk.1
    · simp only [In.cells, List.length_cons, List.length_nil]
      omega
theorem RowN.take {w : World} {g : Nat} {ys : List In.Inc} (h : RowN w g ys) (K : Nat) : RowN w g (ys.take K) :=
  ⟨h.1, fun i p hp j v hv => h.2 i p (by
    rw [List.getElem?_take] at hp
    split at hp
    · exact hp
    · cases hp) j v hv⟩
theorem clear_row {W w : World} {g : Nat} (hg : W.heap.size ≤ g) {ys : List In.Inc} (h : RowN w g ys) (hW : Ext W w) {n : Nat} (hn : ys.length = n) {K : Nat} (hK : K < n) :
    ∃ wZ, (∀ cc, (Builtin.clear_ #[24] 0 #[.slice (some ⟨g, K * 4, none⟩) (n - K) cc]).run Tryd.prog w = .ok (.tuple #[]) wZ) ∧ RowN wZ g (ys.take K) ∧ Ext W wZ := by
  have hv : ∀ w, (zeroValue 23).run Tryd.prog w = .ok (.agg #[.int .i64 0, .int .i64 0, .int .i64 0, .int .i64 0]) w := fun w => Tryd.zeroValue23 w
  obtain ⟨m, hm⟩ : ∃ m, n - K = m + 1 := ⟨n - K - 1, by omega⟩
  have hl : ((Builtin.zeroCells #[.int .i64 0, .int .i64 0, .int .i64 0, .int .i64 0] (m + 1)).toList).length = (m + 1) * 4 := by simp [Builtin.zeroCells]
  have hcell : ∀ j, j < (m + 1) * 4 → (w.cell? ⟨g, K * 4 + 0 + j, none⟩).isSome = true ∧ w.frozen? ⟨g, K * 4 + 0 + j, none⟩ = false := fun j hj => by
    have hi : K + j / 4 < ys.length := by omega
    have hp := List.getElem?_eq_getElem hi
    have hj4 : j % 4 < 4 := Nat.mod_lt _ (by omega)
    obtain ⟨u, hu⟩ : ∃ u, (In.cells ys[K + j / 4])[j % 4]? = some u := ⟨(In.cells ys[K + j / 4])[j % 4]'(by simpa [In.cells] using hj4), List.getElem?_eq_getElem _⟩
    have := h.2 _ _ hp _ _ hu
    rw [show (K + j / 4) * 4 + j % 4 = K * 4 + 0 + j by omega] at this
    exact ⟨by rw [this.1]; rfl, this.2⟩
  have hst := run_storeCells_cells (P := Tryd.prog) g (K * 4) (Builtin.zeroCells #[.int .i64 0, .int .i64 0, .int .i64 0, .int .i64 0] (m + 1)).toList 0 w (fun j hj => (hcell j (by rw [hl] at hj; exact hj)).1) (fun j hj => (hcell j (by rw [hl] at hj; exact hj)).2) (fun v hv => by
    simp only [Builtin.zeroCells, Array.toList_map, List.mem_map] at hv
    obtain ⟨i, -, rfl⟩ := hv
    have h4 : i % 4 < 4 := Nat.mod_lt _ (by omega)
    have hc : i % 4 = 0 ∨ i % 4 = 1 ∨ i % 4 = 2 ∨ i % 4 = 3 := by omega
    rcases hc with e | e | e | e
    all_goals
      simp [e, Value.oneCell'])
  refine ⟨w.setCells g (K * 4) (Builtin.zeroCells #[.int .i64 0, .int .i64 0, .int .i64 0, .int .i64 0] (m + 1)).toList, fun cc => ?_, ?_, Ext.setCells hg _ _ hW⟩
  · rw [hm]
    simp only [Nat.add_zero] at hst
    simp [Builtin.clear_, run_underlying Tryd.underlying24, hv, Value.cells, hst]
  · refine ⟨by rw [heap_setCells]; exact h.1, fun i p hp j v hv => ?_⟩
    have hj : j < 4 := by
      rcases Nat.lt_or_ge j 4 with e | e
      · exact e
      · rw [List.getElem?_eq_none (by simpa [In.cells] using e)] at hv; cases hv
    have hiK : i < K := by
      rcases Nat.lt_or_ge i K with e | e
      · exact e
      · rw [List.getElem?_eq_none (by rw [List.length_take]; omega)] at hp; cases hp
    have hk := (h.take K).2 i p hp j v hv
    rw [World.frozen?_setCells, World.cell?_setCells_out g _ (K * 4) w _ (fun _ _ => Or.inl (by simp only; omega))]
    exact hk

set_option maxRecDepth 100000 in
set_option maxHeartbeats 3200000 in
theorem compact_any {W : World} (A : Option Addr) (c n : Nat) (ys : List In.Inc) (hn : ys.length = n) (w : World) (hW : Ext W w) (h : OwnN W w A ys) (hb : n ≤ 1000) (hnc : n ≤ c) (hc : c ≤ maxLen) :
    Calls Tryd.prog 35 #[.slice A n c] w fun e w' => e = .returned (.slice A (In.dd ys).length c) ∧ OwnN W w' A (In.dd ys) ∧ Ext W w' := by
  have HN := Lib.hid hn
  clear hn
  unfold maxLen at hc
  by_cases h2 : n < 2
  · have h2' : (n : Int) < 2 := by omega
    have HD : Hid (In.dd ys = ys) := Lib.hid (by
      have := HN.out
      match ys, this with
      | [], _ => rfl
      | [p], _ => rfl
      | p :: q :: l, e => simp at e; omega)
    have H := Lib.hid h
    clear h
    go_enter Tryd.func35, Tryd.ntmps35
    go_wp2
    go_ret
    rw [HD.out]
    exact ⟨by rw [HN.out]; rfl, H.out, hW⟩
  · have h2' : ¬ (n : Int) < 2 := by omega
    obtain ⟨g, rfl, hg, hrow⟩ : ∃ g, A = some ⟨g, 0, none⟩ ∧ W.heap.size ≤ g ∧ RowN w g ys := by
      rcases h with h | h
      · have := HN.out; rw [h] at this; simp at this; omega
      · exact h
    have HR := Lib.hid hrow
    clear hrow h
    go_enter Tryd.func35, Tryd.ntmps35
    go_wp2
    go_loopw [3] (fun i wr => ∃ k : Nat, 1 ≤ k ∧ k ≤ n ∧ i = .int .i64 k ∧ In.dd (ys.take k) = ys.take k ∧ Ext w wr) (fun i _ => n - (intOf i).toNat)
    case atStart =>
      refine ⟨1, by omega, by omega, rfl, ?_, Ext.refl _⟩
      have := HN.out
      match ys, this with
      | [], e => rfl
      | p :: l, _ => rfl
    case round =>
      obtain ⟨k, hk1, hk, rfl, hdd, he⟩ := hrel
      have HDD := Lib.hid hdd
      clear hdd
      by_cases hlt : k < n
      · obtain ⟨p, hp⟩ : ∃ p, ys[k]? = some p := ⟨ys[k]'(by rw [HN.out]; exact hlt), List.getElem?_eq_getElem _⟩
        obtain ⟨q, hq⟩ : ∃ q, ys[k - 1]? = some q := ⟨ys[k - 1]'(by rw [HN.out]; omega), List.getElem?_eq_getElem _⟩
        obtain ⟨c0, c1, c2, c3⟩ := (HR.out.ext he).at_ hp rfl
        obtain ⟨d0, d1, d2, d3⟩ := (HR.out.ext he).at_ hq rfl
        have HP := Lib.hid hp
        have HQ := Lib.hid hq
        have HL : Hid ((In.dd (ys.take k)).getLast? = some q) := Lib.hid (by have := In.dd_last hq; rwa [Nat.sub_add_cancel hk1] at this)
        clear hp hq
        have ki0 : (0 : Int) ≤ (k : Int) := by omega
        have ki1 : (k : Int) < (n : Int) := by omega
        have kj0 : (0 : Int) ≤ (k : Int) - 1 := by omega
        have kj1 : (k : Int) - 1 < (n : Int) := by omega
        have kj2 : 1 ≤ (k : Int) := by omega
        have hwr : IntKind.i64.wrap ((k : Int) - 1) = (k : Int) - 1 := IntWalk.i64_in _ (by omega)
        have e1 : ((k : Int) - 1).toNat = k - 1 := by omega
        obtain ⟨v, hv⟩ : ∃ v, decide (p = q) = v := ⟨_, rfl⟩
        have hE := fun w => run_eql_inc p q hv w
        have HV := Lib.hid hv
        clear hv
        cases v with
        | false =>
          have hne : p ≠ q := of_decide_eq_false HV.out
          have HS : Hid (In.dd (ys.take (k + 1)) = ys.take (k + 1)) := Lib.hid (by rw [In.dd_take HP.out, In.ddS_new HL.out hne, HDD.out, List.take_add_one, HP.out]; rfl)
          clear hne
          go_wp2
          go_quiet (fail)
          go_wp2
          go_roundw
          case rel => exact ⟨k + 1, by omega, by omega, by go_num, HS.out, he.drewN _⟩
          case measure => simp [intOf]; omega
        | true =>
          have heq : p = q := of_decide_eq_true HV.out
          have HS : Hid (In.dd (ys.take (k + 1)) = ys.take k) := Lib.hid (by rw [In.dd_take HP.out, heq, In.ddS_same HL.out, HDD.out])
          clear heq
          go_wp2
          go_quiet (fail)
          go_wp2
          clear c0 c1 c2 c3 d0 d1 d2 d3 hE kj0 kj1 kj2 hwr e1
          obtain ⟨wo, rfl⟩ : ∃ wo : World, wo = wr := ⟨_, rfl⟩
          have hWo : Ext W (wo.drewN nq) := (hW.trans he).drewN _
          have HRo : Hid (RowN (wo.drewN nq) g ys) := Lib.hid (HR.out.ext (he.drewN _))
          have hsub : ((n : Int) - (k : Int)) = ((n - k : Nat) : Int) := by omega
          go_loopw [5, 3] (fun i kk wr => ∃ (k2 K : Nat) (zs : List In.Inc), 1 ≤ k2 ∧ k2 ≤ n - k ∧ i = .int .i64 k2 ∧ kk = .int .i64 K ∧ K < k + k2 ∧ In.dd (ys.take (k + k2)) = zs.take K ∧ zs.length = n ∧ zs.drop (k + k2 - 1) = ys.drop (k + k2 - 1) ∧ RowN wr g zs ∧ Ext W wr) (fun i _ _ => (n - k) - (intOf i).toNat)
          case atStart => exact ⟨1, k, ys, by omega, by omega, rfl, rfl, by omega, HS.out, HN.out, rfl, HRo.out, hWo⟩
          case round =>
            obtain ⟨k2, K, zs, hk21, hk2, rfl, rfl, hK, hdz, hzl, hzd, hzr, hez⟩ := hrel
            have HDZ := Lib.hid hdz
            have HZL := Lib.hid hzl
            have HZD := Lib.hid hzd
            have HZR := Lib.hid hzr
            clear hdz hzl hzd hzr
            by_cases hlt2 : k2 < n - k
            · obtain ⟨p2, hp2⟩ : ∃ p2, ys[k + k2]? = some p2 := ⟨ys[k + k2]'(by rw [HN.out]; omega), List.getElem?_eq_getElem _⟩
              obtain ⟨q2, hq2⟩ : ∃ q2, ys[k + k2 - 1]? = some q2 := ⟨ys[k + k2 - 1]'(by rw [HN.out]; omega), List.getElem?_eq_getElem _⟩
              have hzq : zs[k + k2 - 1]? = some q2 := by
                have e := congrArg (fun l => l[0]?) HZD.out
                simp only [List.getElem?_drop, Nat.add_zero] at e
                rw [e]; exact hq2
              have hzp : zs[k + k2]? = some p2 := by
                have e := congrArg (fun l => l[1]?) HZD.out
                simp only [List.getElem?_drop, Nat.sub_add_cancel (show 1 ≤ k + k2 by omega)] at e
                rw [e]; exact hp2
              obtain ⟨zK, hzK⟩ : ∃ zK, zs[K]? = some zK := ⟨zs[K]'(by rw [HZL.out]; omega), List.getElem?_eq_getElem _⟩
              obtain ⟨c0, c1, c2, c3⟩ := HZR.out.at_ hzp (o := k * 4 + k2 * 4) (by omega)
              obtain ⟨d0, d1, d2, d3⟩ := HZR.out.at_ hzq (o := k * 4 + (k2 - 1) * 4) (by omega)
              obtain ⟨b0, b1, b2, b3⟩ := HZR.out.at_ hzK rfl
              obtain ⟨f0, f1, f2, f3⟩ := HZR.out.free hzK rfl
              have HL2 : Hid ((In.dd (ys.take (k + k2))).getLast? = some q2) := Lib.hid (by have := In.dd_last hq2; rwa [Nat.sub_add_cancel (show 1 ≤ k + k2 by omega)] at this)
              have HP2 := Lib.hid hp2
              have HZK := Lib.hid hzK
              clear hp2 hq2 hzq hzp hzK
              have ji0 : (0 : Int) ≤ (k2 : Int) := by omega
              have ji1 : (k2 : Int) < ((n - k : Nat) : Int) := by omega
              have jj0 : (0 : Int) ≤ (k2 : Int) - 1 := by omega
              have jj1 : (k2 : Int) - 1 < ((n - k : Nat) : Int) := by omega
              have jj2 : 1 ≤ (k2 : Int) := by omega
              have jk0 : (0 : Int) ≤ (K : Int) := by omega
              have jk1 : (K : Int) < (n : Int) := by omega
              have hwr : IntKind.i64.wrap ((k2 : Int) - 1) = (k2 : Int) - 1 := IntWalk.i64_in _ (by omega)
              have e1 : ((k2 : Int) - 1).toNat = k2 - 1 := by omega
              obtain ⟨v, hv⟩ : ∃ v, (!decide (p2 = q2)) = v := ⟨_, rfl⟩
              have hE := fun w => run_neq_inc p2 q2 hv w
              have HV2 := Lib.hid hv
              clear hv
              cases v with
              | false =>
                have heq : p2 = q2 := by have := HV2.out; simpa using this
                have HS2 : Hid (In.dd (ys.take (k + (k2 + 1))) = zs.take K) := Lib.hid (by rw [← Nat.add_assoc, In.dd_take HP2.out, heq, In.ddS_same HL2.out, HDZ.out])
                clear heq
                go_wp2
                go_quiet (fail)
                go_wp2
                go_roundw
                case rel => 
                  refine ⟨k2 + 1, K, zs, by omega, by omega, by go_num, rfl, by omega, HS2.out, HZL.out, ?_, HZR.out.ext ((Ext.refl _).drewN _), hez.drewN _⟩
                  have e := congrArg (List.drop 1) HZD.out
                  rw [List.drop_drop, List.drop_drop] at e
                  rw [show k + (k2 + 1) - 1 = k + k2 - 1 + 1 by omega]
                  exact e
                case measure => simp [intOf]; omega
              | true =>
                have hne : p2 ≠ q2 := by have := HV2.out; simpa using this
                have HS2 : Hid (In.dd (ys.take (k + (k2 + 1))) = zs.take K ++ [p2]) := Lib.hid (by rw [← Nat.add_assoc, In.dd_take HP2.out, In.ddS_new HL2.out hne, HDZ.out])
                clear hne
                go_wp2
                go_quiet (fail)
                go_wp2
                go_roundw
                case rel => 
                  have hz := HZL.out
                  refine ⟨k2 + 1, K + 1, zs.set K p2, by omega, by omega, by go_num, by go_num, by omega, ?_, by rw [List.length_set]; exact HZL.out, ?_, ?_, ?_⟩
                  · rw [HS2.out, List.take_add_one, List.take_set_of_le (Nat.le_refl _), List.getElem?_set_self (by omega)]; rfl
                  · have e := congrArg (List.drop 1) HZD.out
                    rw [List.drop_drop, List.drop_drop] at e
                    rw [show k + (k2 + 1) - 1 = k + k2 - 1 + 1 by omega, List.drop_set_of_lt (by omega)]
                    exact e
                  · exact RowN.set (HZR.out.ext ((Ext.refl _).drewN _)) (by omega) p2
                  · exact Ext.setCells hg (In.cells p2) (K * 4) (hez.drewN _)
                case measure => simp [intOf]; omega
            · have hKn : K < n := by omega
              obtain ⟨wZ, hcl, hZ1, hZ2⟩ := clear_row hg HZR.out hez HZL.out hKn
              have HZ1 := Lib.hid hZ1
              clear hZ1
              have HF : Hid (In.dd ys = zs.take K) := Lib.hid (by have := HDZ.out; rwa [List.take_of_length_le (by rw [HN.out]; omega)] at this)
              have jk0 : (0 : Int) ≤ (K : Int) := by omega
              have jk1 : (K : Int) < (n : Int) := by omega
              have hKc : K ≤ c := by omega
              go_wp2
              go_ret
              rw [HF.out]
              refine ⟨?_, Or.inr ⟨g, rfl, hg, HZ1.out⟩, hZ2⟩
              have hzz := HZL.out
              rw [List.length_take, Nat.min_eq_left (by omega)]
              rfl
      · have HF : Hid (In.dd ys = ys) := Lib.hid (by have := HDD.out; rwa [List.take_of_length_le (by rw [HN.out]; omega)] at this)
        go_wp2
        go_ret
        rw [HF.out]
        exact ⟨by rw [HN.out]; rfl, Or.inr ⟨g, rfl, hg, HR.out.ext he⟩, hW.trans he⟩
end Go.Proofs.YtcpapnnghclbmaaDoor
