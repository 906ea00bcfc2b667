/- The laws' own perform and among: contracts for the walk; a record in a block. Conditions: those of each theorem. -/
import Derived.Test.YtadnjhpkenjmdaaRevG
namespace Go.Proofs.Ytadnjhpkenjmdaa
open Go.RowKit

set_option maxHeartbeats 800000 in
theorem new_ok (au : Int) (w : World) (h1 : 1 ≤ au) (h2 : au ≤ 9999999) : Calls Try.prog 14 #[.int .i64 au] w fun e w' => e = .returned (.tuple #[.agg #[.int .i64 1, .int .i64 au, .slice none 0 0, .slice none 0 0, .slice none 0 0], .int .i64 0]) ∧ Ext w w' := by
  go_enter Try.func14, Try.ntmps14
  go_wp2
  exact bodyPost_ret (v := .tuple #[.agg #[.int .i64 1, .int .i64 au, .slice none 0 0, .slice none 0 0, .slice none 0 0], .int .i64 0]) (by simp [results, Try.results14, go_sem]) rfl ⟨rfl, (Ext.refl _).alloc _⟩

theorem apply_to {r r2 : Rev.Rec} {a : Rev.Act} {er : Int} (hr : Rev.applyR r a = r2) (he : Rev.allowedE r a = er) (P : Option Addr) (pc : Nat) (Q : Option Addr) (qc : Nat) (L : Option Addr) (lc : Nat) (w : World) (h : RevIn w r.st r.au P pc r.ap Q qc r.fa L lc r.log) (h1 : r.ap.length ≤ 1000000) (h2 : r.fa.length ≤ 1000000) (hin : a.In) :
    Calls Try.prog 13 #[.agg #[.int .i64 r.st, .int .i64 r.au, .slice P r.ap.length pc, .slice Q r.fa.length qc, .slice L r.log.length lc], .agg #[.int .i64 a.kind, .int .i64 a.user, .int .i64 a.roles, .int .i64 a.time]] w (RetRev r2 er w) := by
  subst hr he
  exact apply_any r.st r.au P pc r.ap Q qc r.fa L lc r.log a.kind a.user a.roles a.time w h h1 h2 hin
theorem allowed_to {r : Rev.Rec} {a : Rev.Act} {er : Int} (he : Rev.allowedE r a = er) (P : Option Addr) (pc : Nat) (Q : Option Addr) (qc : Nat) (L : Option Addr) (lc : Nat) (w : World) (h : RevIn w r.st r.au P pc r.ap Q qc r.fa L lc r.log) :
    Calls Try.prog 18 #[.agg #[.int .i64 r.st, .int .i64 r.au, .slice P r.ap.length pc, .slice Q r.fa.length qc, .slice L r.log.length lc], .agg #[.int .i64 a.kind, .int .i64 a.user, .int .i64 a.roles, .int .i64 a.time]] w fun e w' => e = .returned (.int .i64 er) ∧ Ext w w' := by
  subst he
  exact allowed_any r.st r.au P pc r.ap Q qc r.fa L lc r.log a.kind a.user a.roles a.time w h
/-- A list that does not lie in block b. -/
def Off (b : Nat) (A : Option Addr) (n : Nat) : Prop := n = 0 ∨ ∀ a, A = some a → a.block ≠ b
theorem Off.of_fresh {b : Nat} {A : Option Addr} {n : Nat} {w : World} (h : Fresh A w) (hb : b < w.heap.size) : Off b A n := Or.inr fun a ha e => by have := h a ha; omega
theorem Off.of_in {w : World} {k : Nat} {A : Option Addr} {xs : List (List Value)} {n b : Nat} (h : Sl w k A xs) (hn : xs.length = n) (hb : w.heap.size ≤ b) : Off b A n := by
  rcases h with rfl | ⟨g, off, rfl, hg, _⟩
  · exact Or.inl (by rw [← hn]; rfl)
  · refine Or.inr fun a ha e => ?_
    injection ha with ha
    subst ha
    simp only at e
    omega
theorem Sl.setOff {w : World} {k : Nat} {A : Option Addr} {xs : List (List Value)} {n b : Nat} (h : Sl w k A xs) (hn : xs.length = n) (ho : Off b A n) (o : Nat) (v : Value) : Sl (w.setCell ⟨b, o, none⟩ v) k A xs := by
  rcases ho with h0 | ho
  · have : xs = [] := List.eq_nil_of_length_eq_zero (by omega)
    exact Or.inl this
  · exact Sl.setCell h ho v
/-- A record in a block of its own. -/
def RecAt (w : World) (b : Nat) (r : Rev.Rec) (P : Option Addr) (pc : Nat) (Q : Option Addr) (qc : Nat) (L : Option Addr) (lc : Nat) : Prop :=
  w.heap[b]? = some (.cells #[.int .i64 r.st, .int .i64 r.au, .slice P r.ap.length pc, .slice Q r.fa.length qc, .slice L r.log.length lc] 25 (0, 0)) ∧ RevIn w r.st r.au P pc r.ap Q qc r.fa L lc r.log ∧ Off b P r.ap.length ∧ Off b Q r.fa.length ∧ Off b L r.log.length
theorem RecAt.ext {w w' : World} {b : Nat} {r : Rev.Rec} {P : Option Addr} {pc : Nat} {Q : Option Addr} {qc : Nat} {L : Option Addr} {lc : Nat} (h : RecAt w b r P pc Q qc L lc) (he : Ext w w') : RecAt w' b r P pc Q qc L lc :=
  ⟨he.blockAt h.1, h.2.1.ext he, h.2.2⟩
theorem RecAt.lt {w : World} {b : Nat} {r : Rev.Rec} {P : Option Addr} {pc : Nat} {Q : Option Addr} {qc : Nat} {L : Option Addr} {lc : Nat} (h : RecAt w b r P pc Q qc L lc) : b < w.heap.size := by
  rcases Nat.lt_or_ge b w.heap.size with g | g
  · exact g
  · have := h.1; rw [Array.getElem?_eq_none g] at this; cases this
theorem RecAt.cells {w : World} {b : Nat} {r : Rev.Rec} {P : Option Addr} {pc : Nat} {Q : Option Addr} {qc : Nat} {L : Option Addr} {lc : Nat} (h : RecAt w b r P pc Q qc L lc) :
    w.cell? ⟨b, 0, none⟩ = some (.int .i64 r.st) ∧ w.cell? ⟨b, 1, none⟩ = some (.int .i64 r.au) ∧ w.cell? ⟨b, 2, none⟩ = some (.slice P r.ap.length pc) ∧ w.cell? ⟨b, 3, none⟩ = some (.slice Q r.fa.length qc) ∧ w.cell? ⟨b, 4, none⟩ = some (.slice L r.log.length lc) ∧ w.frozen? ⟨b, 0, none⟩ = false ∧ w.frozen? ⟨b, 1, none⟩ = false ∧ w.frozen? ⟨b, 2, none⟩ = false ∧ w.frozen? ⟨b, 3, none⟩ = false ∧ w.frozen? ⟨b, 4, none⟩ = false := by
  have hh := h.1
  refine ⟨?_, ?_, ?_, ?_, ?_, frozen_of_row _ _ 0 _ _ hh, frozen_of_row _ _ 1 _ _ hh, frozen_of_row _ _ 2 _ _ hh, frozen_of_row _ _ 3 _ _ hh, frozen_of_row _ _ 4 _ _ hh⟩
  all_goals (rw [cell_of_row _ _ _ _ _ _ hh]; rfl)
theorem RevIn.setOff {w : World} {st au : Int} {P : Option Addr} {pc : Nat} {ap : List Int} {Q : Option Addr} {qc : Nat} {fa : List Int} {L : Option Addr} {lc : Nat} {log : List Rev.Act} (h : RevIn w st au P pc ap Q qc fa L lc log) {b : Nat} (h1 : Off b P ap.length) (h2 : Off b Q fa.length) (h3 : Off b L log.length) (o : Nat) (v : Value) : RevIn (w.setCell ⟨b, o, none⟩ v) st au P pc ap Q qc fa L lc log :=
  ⟨⟨Sl.setOff h.1.1 (by simp) h1 o v, h.1.2⟩, ⟨Sl.setOff h.2.1.1 (by simp) h2 o v, h.2.1.2⟩, Sl.setOff h.2.2.1 (by simp) h3 o v, h.2.2.2⟩
/-- The five stores of a record into a block. -/
abbrev put5 (w : World) (b : Nat) (v0 v1 v2 v3 v4 : Value) : World := ((((w.setCell ⟨b, 0, none⟩ v0).setCell ⟨b, 1, none⟩ v1).setCell ⟨b, 2, none⟩ v2).setCell ⟨b, 3, none⟩ v3).setCell ⟨b, 4, none⟩ v4
theorem put5_block {w : World} {b : Nat} {c0 c1 c2 c3 c4 v0 v1 v2 v3 v4 : Value} {T : TypeId} (h : w.heap[b]? = some (.cells #[c0, c1, c2, c3, c4] T (0, 0))) : (put5 w b v0 v1 v2 v3 v4).heap[b]? = some (.cells #[v0, v1, v2, v3, v4] T (0, 0)) := by
  have k0 := Joins.block_setCell (i := 0) h v0
  have k1 := Joins.block_setCell (i := 1) k0 v1
  have k2 := Joins.block_setCell (i := 2) k1 v2
  have k3 := Joins.block_setCell (i := 3) k2 v3
  have k4 := Joins.block_setCell (i := 4) k3 v4
  unfold put5
  simpa using k4
theorem put5_rev {w : World} {b : Nat} {v0 v1 v2 v3 v4 : Value} {st au : Int} {P : Option Addr} {pc : Nat} {ap : List Int} {Q : Option Addr} {qc : Nat} {fa : List Int} {L : Option Addr} {lc : Nat} {log : List Rev.Act} (h : RevIn w st au P pc ap Q qc fa L lc log) (h1 : Off b P ap.length) (h2 : Off b Q fa.length) (h3 : Off b L log.length) : RevIn (put5 w b v0 v1 v2 v3 v4) st au P pc ap Q qc fa L lc log :=
  ((((h.setOff h1 h2 h3 0 _).setOff h1 h2 h3 1 _).setOff h1 h2 h3 2 _).setOff h1 h2 h3 3 _).setOff h1 h2 h3 4 _
theorem put5_ext {a w : World} {b : Nat} {v0 v1 v2 v3 v4 : Value} (h : Ext a w) (hb : a.heap.size ≤ b) : Ext a (put5 w b v0 v1 v2 v3 v4) :=
  ((((h.setCell hb _).setCell hb _).setCell hb _).setCell hb _).setCell hb _

/-- The post of perform: a record that was made, and true. -/
def RetPerf (r : Rev.Rec) (w : World) (e : Ending) (w' : World) : Prop :=
  ∃ (P : Option Addr) (pc : Nat) (Q : Option Addr) (qc : Nat) (L : Option Addr) (lc : Nat), e = .returned (.tuple #[.agg #[.int .i64 r.st, .int .i64 r.au, .slice P r.ap.length pc, .slice Q r.fa.length qc, .slice L r.log.length lc], .bool true]) ∧ RevIn w' r.st r.au P pc r.ap Q qc r.fa L lc r.log ∧ Ext w w' ∧ Fresh P w ∧ Fresh Q w ∧ Fresh L w
/-- What an application of an action leaves in a new block: the relation of a cut. -/
def C7 (W : World) (r : Rev.Rec) (er : Int) (p e : Value) (w : World) : Prop :=
  ∃ (b : Nat) (P : Option Addr) (pc : Nat) (Q : Option Addr) (qc : Nat) (L : Option Addr) (lc : Nat), p = .pointer (some ⟨b, 0, none⟩) ∧ e = .int .i64 er ∧ W.heap.size ≤ b ∧ RecAt w b r P pc Q qc L lc ∧ Fresh P W ∧ Fresh Q W ∧ Fresh L W ∧ Ext W w
theorem RevIn.offs {w : World} {st au : Int} {P : Option Addr} {pc : Nat} {ap : List Int} {Q : Option Addr} {qc : Nat} {fa : List Int} {L : Option Addr} {lc : Nat} {log : List Rev.Act} (h : RevIn w st au P pc ap Q qc fa L lc log) {b : Nat} (hb : w.heap.size ≤ b) : Off b P ap.length ∧ Off b Q fa.length ∧ Off b L log.length :=
  ⟨Off.of_in h.1.1 (by simp) hb, Off.of_in h.2.1.1 (by simp) hb, Off.of_in h.2.2.1 (by simp) hb⟩
theorem C7_A {W w2 : World} {r : Rev.Rec} {er : Int} {P : Option Addr} {pc : Nat} {Q : Option Addr} {qc : Nat} {L : Option Addr} {lc : Nat} (h : RevIn w2 r.st r.au P pc r.ap Q qc r.fa L lc r.log) (h1 : Fresh P W.drew) (h2 : Fresh Q W.drew) (h3 : Fresh L W.drew) (he : Ext W w2) : C7 W r er (.pointer (some ⟨w2.heap.size, 0, none⟩)) (.int .i64 er) (w2.alloc (.cells #[.int .i64 r.st, .int .i64 r.au, .slice P r.ap.length pc, .slice Q r.fa.length qc, .slice L r.log.length lc] 25)) := by
  obtain ⟨o1, o2, o3⟩ := h.offs (Nat.le_refl _)
  exact ⟨w2.heap.size, P, pc, Q, qc, L, lc, rfl, rfl, he.size, ⟨heap_alloc_new _ _, h.ext ((Ext.refl _).alloc _), o1, o2, o3⟩, h1, h2, h3, he.alloc _⟩
theorem C7_B {W W' w2 : World} {r : Rev.Rec} {er : Int} {P : Option Addr} {pc : Nat} {Q : Option Addr} {qc : Nat} {L : Option Addr} {lc : Nat} {c0 c1 c2 c3 c4 : Value} (hblk : w2.heap[W.heap.size]? = some (.cells #[c0, c1, c2, c3, c4] 25 (0, 0))) (h : RevIn w2 r.st r.au P pc r.ap Q qc r.fa L lc r.log) (h1 : Fresh P W') (h2 : Fresh Q W') (h3 : Fresh L W') (hW : W'.heap.size = W.heap.size + 1) (he : Ext W w2) :
    C7 W r er (.pointer (some ⟨W.heap.size, 0, none⟩)) (.int .i64 er) (put5 w2 W.heap.size (.int .i64 r.st) (.int .i64 r.au) (.slice P r.ap.length pc) (.slice Q r.fa.length qc) (.slice L r.log.length lc)) := by
  have o1 : Off W.heap.size P r.ap.length := Off.of_fresh h1 (by omega)
  have o2 : Off W.heap.size Q r.fa.length := Off.of_fresh h2 (by omega)
  have o3 : Off W.heap.size L r.log.length := Off.of_fresh h3 (by omega)
  exact ⟨W.heap.size, P, pc, Q, qc, L, lc, rfl, rfl, Nat.le_refl _, ⟨put5_block hblk, put5_rev h o1 o2 o3, o1, o2, o3⟩, fun a ha => by have := h1 a ha; omega, fun a ha => by have := h2 a ha; omega, fun a ha => by have := h3 a ha; omega, put5_ext he (Nat.le_refl _)⟩
set_option maxRecDepth 100000 in
set_option maxHeartbeats 2000000 in
theorem perform_any (au : Int) (G : Option Addr) (gc : Nat) (log : List Rev.Act) (w : World) (h1 : 1 ≤ au) (h2 : au ≤ 9999999) (hG : SlA w G log) (hlen : log.length ≤ maxLen) (hin : ∀ a ∈ log, a.In) :
    Calls Try.prog 11 #[.int .i64 au, .slice G log.length gc] w (RetPerf (Rev.perform au log) w) := by
  have HG := Lib.hid hG
  have HIN := Lib.hid hin
  unfold maxLen at hlen
  clear hG hin
  go_enter Try.func11, Try.ntmps11
  go_wp2_with fail
  have e0 : Ext w (w.alloc (.cells #[.int .i64 0, .int .i64 0, .slice none 0 0, .slice none 0 0, .slice none 0 0] 25)) := (Ext.refl _).alloc _
  have z0 : (w.alloc (.cells #[.int .i64 0, .int .i64 0, .slice none 0 0, .slice none 0 0, .slice none 0 0] 25)).cell? ⟨w.heap.size, 0, none⟩ = some (.int .i64 0) := by simp [go_sem]
  have y0 : (w.alloc (.cells #[.int .i64 0, .int .i64 0, .slice none 0 0, .slice none 0 0, .slice none 0 0] 25)).frozen? ⟨w.heap.size, 0, none⟩ = false := by simp [go_sem]
  have z1 : (w.alloc (.cells #[.int .i64 0, .int .i64 0, .slice none 0 0, .slice none 0 0, .slice none 0 0] 25)).cell? ⟨w.heap.size, 1, none⟩ = some (.int .i64 0) := by simp [go_sem]
  have y1 : (w.alloc (.cells #[.int .i64 0, .int .i64 0, .slice none 0 0, .slice none 0 0, .slice none 0 0] 25)).frozen? ⟨w.heap.size, 1, none⟩ = false := by simp [go_sem]
  have z2 : (w.alloc (.cells #[.int .i64 0, .int .i64 0, .slice none 0 0, .slice none 0 0, .slice none 0 0] 25)).cell? ⟨w.heap.size, 2, none⟩ = some (.slice none 0 0) := by simp [go_sem]
  have y2 : (w.alloc (.cells #[.int .i64 0, .int .i64 0, .slice none 0 0, .slice none 0 0, .slice none 0 0] 25)).frozen? ⟨w.heap.size, 2, none⟩ = false := by simp [go_sem]
  have z3 : (w.alloc (.cells #[.int .i64 0, .int .i64 0, .slice none 0 0, .slice none 0 0, .slice none 0 0] 25)).cell? ⟨w.heap.size, 3, none⟩ = some (.slice none 0 0) := by simp [go_sem]
  have y3 : (w.alloc (.cells #[.int .i64 0, .int .i64 0, .slice none 0 0, .slice none 0 0, .slice none 0 0] 25)).frozen? ⟨w.heap.size, 3, none⟩ = false := by simp [go_sem]
  have z4 : (w.alloc (.cells #[.int .i64 0, .int .i64 0, .slice none 0 0, .slice none 0 0, .slice none 0 0] 25)).cell? ⟨w.heap.size, 4, none⟩ = some (.slice none 0 0) := by simp [go_sem]
  have y4 : (w.alloc (.cells #[.int .i64 0, .int .i64 0, .slice none 0 0, .slice none 0 0, .slice none 0 0] 25)).frozen? ⟨w.heap.size, 4, none⟩ = false := by simp [go_sem]
  generalize (w.alloc (.cells #[.int .i64 0, .int .i64 0, .slice none 0 0, .slice none 0 0, .slice none 0 0] 25)) = w0 at *
  have Z0 := Lib.hid z0
  have Y0 := Lib.hid y0
  have Z1 := Lib.hid z1
  have Y1 := Lib.hid y1
  have Z2 := Lib.hid z2
  have Y2 := Lib.hid y2
  have Z3 := Lib.hid z3
  have Y3 := Lib.hid y3
  have Z4 := Lib.hid z4
  have Y4 := Lib.hid y4
  clear z0 y0 z1 y1 z2 y2 z3 y3 z4 y4
  refine (new_ok au _ h1 h2).mono ?_
  rintro e w1 ⟨rfl, hb1⟩
  have h01 := hb1.size
  go_wp2_with fail
  have HS : RecAt (w1.alloc (.cells #[.int .i64 1, .int .i64 au, .slice none 0 0, .slice none 0 0, .slice none 0 0] 25)) w1.heap.size (Rev.start au) none 0 none 0 none 0 := ⟨heap_alloc_new _ _, rev_nil _ 1 au ⟨by decide, by decide⟩ ⟨by omega, by omega⟩, Or.inl rfl, Or.inl rfl, Or.inl rfl⟩
  have e2 : Ext w0 (w1.alloc (.cells #[.int .i64 1, .int .i64 au, .slice none 0 0, .slice none 0 0, .slice none 0 0] 25)) := hb1.alloc _
  have hw0 : w.heap.size < w0.heap.size := World.block_lt_of_cell? w0 _ Z0.out
  generalize w1.alloc (.cells #[.int .i64 1, .int .i64 au, .slice none 0 0, .slice none 0 0, .slice none 0 0] 25) = W2 at *
  have HS' := Lib.hid HS
  clear HS
  go_loopw [8] (fun i wr => ∃ (k : Nat) (r : Rev.Rec) (P : Option Addr) (pc : Nat) (Q : Option Addr) (qc : Nat) (L : Option Addr) (lc : Nat), k ≤ log.length ∧ k ≤ 300 ∧ i = .int .i64 k ∧ Rev.perfL r ((log.take 300).drop k) = Rev.perform au log ∧ RecAt wr w1.heap.size r P pc Q qc L lc ∧ r.ap.length ≤ k ∧ r.fa.length ≤ k ∧ Ext w0 wr ∧ Fresh P w0 ∧ Fresh Q w0 ∧ Fresh L w0) (fun i _ => log.length - (intOf i).toNat)
  case atStart => exact ⟨0, Rev.start au, none, 0, none, 0, none, 0, by omega, by omega, rfl, rfl, HS'.out, by simp [Rev.start], by simp [Rev.start], e2, Fresh.none _, Fresh.none _, Fresh.none _⟩
  case round =>
    obtain ⟨k, r, P, pc, Q, qc, L, lc, hk, hk3, rfl, hpf, hrec, ha1, ha2, hex, hP, hQ, hL⟩ := hrel
    obtain ⟨wo, rfl⟩ : ∃ wo : World, wo = wr := ⟨_, rfl⟩
    have HPF := Lib.hid hpf
    have HREC := Lib.hid hrec
    have HP := Lib.hid hP
    have HQ := Lib.hid hQ
    have HL := Lib.hid hL
    obtain ⟨c0, c1, c2, c3, c4, j0, j1, j2, j3, j4⟩ := hrec.cells
    have hlt6 := hrec.lt
    have hexs := hex.size
    clear hpf hrec hP hQ hL
    by_cases hlt : k < log.length ∧ k < 300
    · obtain ⟨hl1, hl2⟩ := hlt
      have hl2' : (k : Int) < 300 := by omega
      obtain ⟨a, ha⟩ : ∃ a, log[k]? = some a := ⟨log[k], List.getElem?_eq_getElem hl1⟩
      have hain := HIN.out a (List.mem_of_getElem? ha)
      have HAIN := Lib.hid hain
      obtain ⟨gb, go, rfl, hgb, d0, d1, d2, d3⟩ := ((HG.out.ext e0).ext hex).at_ ha
      have hdrop : (log.take 300).drop k = a :: (log.take 300).drop (k + 1) := by
        have hk' : (log.take 300)[k]? = some a := by rw [List.getElem?_take_of_lt hl2]; exact ha
        have hkl : k < (log.take 300).length := by
          rcases Nat.lt_or_ge k (log.take 300).length with g | g
          · exact g
          · rw [List.getElem?_eq_none g] at hk'; cases hk'
        rw [List.drop_eq_getElem_cons hkl]
        rw [List.getElem?_eq_getElem hkl] at hk'
        injection hk' with hk'
        rw [hk']
      have HDR := Lib.hid hdrop
      clear ha hain hdrop
      have ki0 : (0 : Int) ≤ (k : Int) := by omega
      have ki1 : (k : Int) < (log.length : Int) := by omega
      have C0 := Lib.hid c0
      have C1 := Lib.hid c1
      have C2 := Lib.hid c2
      have C3 := Lib.hid c3
      have C4 := Lib.hid c4
      have D0 := Lib.hid d0
      have D1 := Lib.hid d1
      have D2 := Lib.hid d2
      have D3 := Lib.hid d3
      obtain ⟨r2, hr2⟩ : ∃ r2, Rev.applyR r a = r2 := ⟨_, rfl⟩
      obtain ⟨er, her⟩ : ∃ er, Rev.allowedE r a = er := ⟨_, rfl⟩
      have HR2 := Lib.hid hr2
      have HER := Lib.hid her
      clear hr2 her
      go_upto_region 7 with fail
      go_cut [9, 10] from 40 to 48 (fun p e wx => C7 wo r2 er p e wx)
      case first =>
        have hdr : Ext wo wo.drew := (Ext.refl wo).drew
        go_region_held3 (fun w' => w'.cell? ⟨w1.heap.size, 0, none⟩ = some (.int .i64 r.st) ∧ w'.cell? ⟨w1.heap.size, 1, none⟩ = some (.int .i64 r.au) ∧ w'.cell? ⟨w1.heap.size, 2, none⟩ = some (.slice P r.ap.length pc) ∧ w'.cell? ⟨w1.heap.size, 3, none⟩ = some (.slice Q r.fa.length qc) ∧ w'.cell? ⟨w1.heap.size, 4, none⟩ = some (.slice L r.log.length lc) ∧ w'.cell? ⟨gb, go + k * 4, none⟩ = some (.int .i64 a.kind) ∧ w'.cell? ⟨gb, go + k * 4 + 1, none⟩ = some (.int .i64 a.user) ∧ w'.cell? ⟨gb, go + k * 4 + 2, none⟩ = some (.int .i64 a.roles) ∧ w'.cell? ⟨gb, go + k * 4 + 3, none⟩ = some (.int .i64 a.time) ∧ Ext wo w')
          (first
            | (with_reducible exact ⟨hdr.keep c0, hdr.keep c1, hdr.keep c2, hdr.keep c3, hdr.keep c4, hdr.keep d0, hdr.keep d1, hdr.keep d2, hdr.keep d3, hdr⟩)
            | (go_split_ands; refine ⟨Ext.keep (a := wo) ?_ c0, Ext.keep (a := wo) ?_ c1, Ext.keep (a := wo) ?_ c2, Ext.keep (a := wo) ?_ c3, Ext.keep (a := wo) ?_ c4, Ext.keep (a := wo) ?_ d0, Ext.keep (a := wo) ?_ d1, Ext.keep (a := wo) ?_ d2, Ext.keep (a := wo) ?_ d3, ?_⟩ <;> first | (with_reducible exact Ext.alloc (by assumption) _) | (with_reducible exact (hdr.trans hb2).alloc _) | (with_reducible exact ((Ext.refl wo).alloc _).drew) | (with_reducible assumption) | (with_reducible exact Ext.trans (by assumption) (by assumption)) | (with_reducible exact Ext.setCell (Ext.setCell (Ext.setCell (Ext.setCell (Ext.setCell (by assumption) (Nat.le_refl _) _) (Nat.le_refl _) _) (Nat.le_refl _) _) (Nat.le_refl _) _) (Nat.le_refl _) _)))
          (first | (go_at_call 13; refine (apply_to HR2.out HER.out P pc Q qc L lc _ (HREC.out.2.1.ext (by first | (with_reducible exact (Ext.refl wo).drew) | (with_reducible exact ((Ext.refl wo).alloc _).drew))) (by omega) (by omega) HAIN.out).mono ?_; rintro e w2 ⟨P2, pc2, Q2, qc2, L2, lc2, rfl, hr2, hb2, hP2, hQ2, hL2⟩; (try (have b0 : w2.cell? ⟨wo.heap.size, 0, none⟩ = some (.int .i64 0) := hb2.keep (by simp [go_sem]); have b1 : w2.cell? ⟨wo.heap.size, 1, none⟩ = some (.int .i64 0) := hb2.keep (by simp [go_sem]); have b2 : w2.cell? ⟨wo.heap.size, 2, none⟩ = some (.slice none 0 0) := hb2.keep (by simp [go_sem]); have b3 : w2.cell? ⟨wo.heap.size, 3, none⟩ = some (.slice none 0 0) := hb2.keep (by simp [go_sem]); have b4 : w2.cell? ⟨wo.heap.size, 4, none⟩ = some (.slice none 0 0) := hb2.keep (by simp [go_sem]); have f0 : w2.frozen? ⟨wo.heap.size, 0, none⟩ = false := hb2.free (v := .int .i64 0) (by simp [go_sem]) (by simp [go_sem]); have f1 : w2.frozen? ⟨wo.heap.size, 1, none⟩ = false := hb2.free (v := .int .i64 0) (by simp [go_sem]) (by simp [go_sem]); have f2 : w2.frozen? ⟨wo.heap.size, 2, none⟩ = false := hb2.free (v := .slice none 0 0) (by simp [go_sem]) (by simp [go_sem]); have f3 : w2.frozen? ⟨wo.heap.size, 3, none⟩ = false := hb2.free (v := .slice none 0 0) (by simp [go_sem]) (by simp [go_sem]); have f4 : w2.frozen? ⟨wo.heap.size, 4, none⟩ = false := hb2.free (v := .slice none 0 0) (by simp [go_sem]) (by simp [go_sem]); have hblk : w2.heap[wo.heap.size]? = some (.cells #[.int .i64 0, .int .i64 0, .slice none 0 0, .slice none 0 0, .slice none 0 0] 25 (0, 0)) := hb2.blockAt (heap_new_at _ _ _ (by simp))))))
        all_goals
          go_wp2_with fail
          go_meet
          first
            | (with_reducible exact C7_A hr2 hP2 hQ2 hL2 (hdr.trans hb2))
            | (with_reducible refine C7_B hblk hr2 hP2 hQ2 hL2 ?_ (Ext.trans ((Ext.refl wo).alloc _).drew hb2); simp)
      case rest =>
        obtain ⟨b9, P2, pc2, Q2, qc2, L2, lc2, rfl, rfl, hb9, hrec2, hF1, hF2, hF3, hexc⟩ := hcut
        have HREC2 := Lib.hid hrec2
        have HF1 := Lib.hid hF1
        have HF2 := Lib.hid hF2
        have HF3 := Lib.hid hF3
        obtain ⟨g0, g1, g2, g3, g4, -, -, -, -, -⟩ := hrec2.cells
        have s0 := hexc.keep C0.out
        have s1 := hexc.keep C1.out
        have s2 := hexc.keep C2.out
        have s3 := hexc.keep C3.out
        have s4 := hexc.keep C4.out
        have s5 := hexc.keep D0.out
        have s6 := hexc.keep D1.out
        have s7 := hexc.keep D2.out
        have s8 := hexc.keep D3.out
        have q0 := hexc.free C0.out j0
        have q1 := hexc.free C1.out j1
        have q2 := hexc.free C2.out j2
        have q3 := hexc.free C3.out j3
        have q4 := hexc.free C4.out j4
        have hne : b9 ≠ w1.heap.size := by omega
        have hne' : w1.heap.size ≠ b9 := by omega
        clear hrec2 hF1 hF2 hF3 c0 c1 c2 c3 c4 d0 d1 d2 d3 j0 j1 j2 j3 j4
        have hwd : Ext wc wc.drew := (Ext.refl wc).drew
        by_cases hz : er = 0
        · subst hz
          obtain ⟨-, -, hlog⟩ := Rev.allowed_zero HER.out
          have hr2e : r2 = Rev.next r a := by rw [← HR2.out]; unfold Rev.applyR; rw [if_pos HER.out]
          have hlen2 : r2.log.length = r.log.length + 1 := by rw [hr2e, Rev.next_log]; simp
          have hnl : ((r2.log.length : Int) != (r.log.length : Int) + 1) = false := by rw [hlen2]; simp
          have hlog' : (r.log.length : Int) < 200 := by omega
          have hla := Rev.next_len r a
          rw [← hr2e] at hla
          have HLA : Hid (r2.ap.length ≤ k + 1 ∧ r2.fa.length ≤ k + 1) := Lib.hid (by omega)
          have HNX := Lib.hid hr2e
          clear hr2e hlen2 hla
          go_wp2_with fail
          go_region_held3 (fun w' => w'.cell? ⟨w1.heap.size, 0, none⟩ = some (.int .i64 r.st) ∧ w'.cell? ⟨w1.heap.size, 1, none⟩ = some (.int .i64 r.au) ∧ w'.cell? ⟨w1.heap.size, 2, none⟩ = some (.slice P r.ap.length pc) ∧ w'.cell? ⟨w1.heap.size, 3, none⟩ = some (.slice Q r.fa.length qc) ∧ w'.cell? ⟨w1.heap.size, 4, none⟩ = some (.slice L r.log.length lc) ∧ w'.cell? ⟨gb, go + k * 4, none⟩ = some (.int .i64 a.kind) ∧ w'.cell? ⟨gb, go + k * 4 + 1, none⟩ = some (.int .i64 a.user) ∧ w'.cell? ⟨gb, go + k * 4 + 2, none⟩ = some (.int .i64 a.roles) ∧ w'.cell? ⟨gb, go + k * 4 + 3, none⟩ = some (.int .i64 a.time))
            (first
              | (with_reducible exact ⟨hwd.keep s0, hwd.keep s1, hwd.keep s2, hwd.keep s3, hwd.keep s4, hwd.keep s5, hwd.keep s6, hwd.keep s7, hwd.keep s8⟩)
              | (with_reducible exact ⟨(hwd.trans hb3).keep s0, (hwd.trans hb3).keep s1, (hwd.trans hb3).keep s2, (hwd.trans hb3).keep s3, (hwd.trans hb3).keep s4, (hwd.trans hb3).keep s5, (hwd.trans hb3).keep s6, (hwd.trans hb3).keep s7, (hwd.trans hb3).keep s8⟩))
            (first | (go_at_call 18; refine (allowed_to HER.out P pc Q qc L lc _ (HREC.out.2.1.ext (hexc.trans (by with_reducible exact (Ext.refl wc).drew)))).mono ?_; rintro e w3 ⟨rfl, hb3⟩))
          replace hb3 := hb3.undrew
          have t0 := hb3.keep s0
          have t1 := hb3.keep s1
          have t2 := hb3.keep s2
          have t3 := hb3.keep s3
          have t4 := hb3.keep s4
          have v0 := hb3.free s0 q0
          have v1 := hb3.free s1 q1
          have v2 := hb3.free s2 q2
          have v3 := hb3.free s3 q3
          have v4 := hb3.free s4 q4
          have p0 := hb3.keep g0
          have p1 := hb3.keep g1
          have p2 := hb3.keep g2
          have p3 := hb3.keep g3
          have p4 := hb3.keep g4
          clear s0 s1 s2 s3 s4 s5 s6 s7 s8 q0 q1 q2 q3 q4 g0 g1 g2 g3 g4
          go_wp2
          go_roundw
          case rel =>
            have hx3 : Ext w0 w3 := hex.trans (hexc.trans hb3)
            have hr3 := (HREC.out.ext (hexc.trans hb3))
            have hn3 := HREC2.out.ext hb3
            refine ⟨k + 1, r2, P2, pc2, Q2, qc2, L2, lc2, by omega, by omega, by go_num, ?_, ⟨put5_block hr3.1, put5_rev hn3.2.1 ?_ ?_ ?_, ?_, ?_, ?_⟩, HLA.out.1, HLA.out.2, put5_ext hx3 (by omega), HF1.out.mono hex, HF2.out.mono hex, HF3.out.mono hex⟩
            · rw [← HPF.out, HDR.out, Rev.perf_yes HER.out, HNX.out]
            all_goals first | exact Off.of_fresh HF1.out hlt6 | exact Off.of_fresh HF2.out hlt6 | exact Off.of_fresh HF3.out hlt6
          case measure => simp [intOf]; omega
        · have hz' : (er == 0) = false := by rw [beq_eq_false_iff_ne]; exact hz
          have HZ := Lib.hid hz
          clear hz
          go_wp2_with fail
          go_region_held3 (fun w' => w'.cell? ⟨w1.heap.size, 0, none⟩ = some (.int .i64 r.st) ∧ w'.cell? ⟨w1.heap.size, 1, none⟩ = some (.int .i64 r.au) ∧ w'.cell? ⟨w1.heap.size, 2, none⟩ = some (.slice P r.ap.length pc) ∧ w'.cell? ⟨w1.heap.size, 3, none⟩ = some (.slice Q r.fa.length qc) ∧ w'.cell? ⟨w1.heap.size, 4, none⟩ = some (.slice L r.log.length lc) ∧ w'.cell? ⟨gb, go + k * 4, none⟩ = some (.int .i64 a.kind) ∧ w'.cell? ⟨gb, go + k * 4 + 1, none⟩ = some (.int .i64 a.user) ∧ w'.cell? ⟨gb, go + k * 4 + 2, none⟩ = some (.int .i64 a.roles) ∧ w'.cell? ⟨gb, go + k * 4 + 3, none⟩ = some (.int .i64 a.time))
            (first
              | (with_reducible exact ⟨hwd.keep s0, hwd.keep s1, hwd.keep s2, hwd.keep s3, hwd.keep s4, hwd.keep s5, hwd.keep s6, hwd.keep s7, hwd.keep s8⟩)
              | (with_reducible exact ⟨(hwd.trans hb3).keep s0, (hwd.trans hb3).keep s1, (hwd.trans hb3).keep s2, (hwd.trans hb3).keep s3, (hwd.trans hb3).keep s4, (hwd.trans hb3).keep s5, (hwd.trans hb3).keep s6, (hwd.trans hb3).keep s7, (hwd.trans hb3).keep s8⟩))
            (first | (go_at_call 18; refine (allowed_to HER.out P pc Q qc L lc _ (HREC.out.2.1.ext (hexc.trans (by with_reducible exact (Ext.refl wc).drew)))).mono ?_; rintro e w3 ⟨rfl, hb3⟩))
          replace hb3 := hb3.undrew
          clear s0 s1 s2 s3 s4 s5 s6 s7 s8 q0 q1 q2 q3 q4 g0 g1 g2 g3 g4
          go_wp2
          go_roundw
          case rel =>
            have hx3 : Ext w0 w3 := hex.trans (hexc.trans hb3)
            refine ⟨k + 1, r, P, pc, Q, qc, L, lc, by omega, by omega, by go_num, ?_, HREC.out.ext (hexc.trans hb3), by omega, by omega, hx3, HP.out, HQ.out, HL.out⟩
            rw [← HPF.out, HDR.out, Rev.perf_no (by rw [HER.out]; exact HZ.out)]
          case measure => simp [intOf]; omega
    · have hnil : (log.take 300).drop k = [] := by
        rw [List.drop_eq_nil_iff, List.length_take]
        omega
      have HPE : Hid (r = Rev.perform au log) := Lib.hid (by rw [← HPF.out, hnil]; rfl)
      have z0 := hex.keep Z0.out
      have z1 := hex.keep Z1.out
      have z2 := hex.keep Z2.out
      have z3 := hex.keep Z3.out
      have z4 := hex.keep Z4.out
      have y0 := hex.free Z0.out Y0.out
      have y1 := hex.free Z1.out Y1.out
      have y2 := hex.free Z2.out Y2.out
      have y3 := hex.free Z3.out Y3.out
      have y4 := hex.free Z4.out Y4.out
      have hne : w1.heap.size ≠ w.heap.size := by omega
      have hne' : w.heap.size ≠ w1.heap.size := by omega
      have hnl : ¬ (k < log.length) ∨ (k < log.length ∧ ¬ (k : Int) < 300) := by omega
      clear hnil hlt
      rcases hnl with hnl | ⟨hnl, hn3⟩
      all_goals
        go_wp2
        refine bodyPost_ret (v := .tuple #[.agg #[.int .i64 r.st, .int .i64 r.au, .slice P r.ap.length pc, .slice Q r.fa.length qc, .slice L r.log.length lc], .bool true]) (by simp [results, Try.results11, go_sem, z0, z1, z2, z3, z4]) rfl ?_
        rw [← HPE.out]
        exact ⟨P, pc, Q, qc, L, lc, rfl, put5_rev HREC.out.2.1 (Off.of_fresh HP.out hw0) (Off.of_fresh HQ.out hw0) (Off.of_fresh HL.out hw0), put5_ext (e0.trans hex) (Nat.le_refl _), HP.out.mono e0, HQ.out.mono e0, HL.out.mono e0⟩
end Go.Proofs.Ytadnjhpkenjmdaa
