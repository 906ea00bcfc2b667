/- codec.Encode of a tree that fits: a contract. Conditions: those of each theorem. -/
import Derived.Test.YtdaccamiipknmaaGreatDoorIvQ
import Derived.Test.YtdaccamiipknmaaGreatDoorIvG
import Derived.Test.YtdaccamiipknmaaGreatDoorItK
import Derived.Test.YtdaccamiipknmaaGreatDoorStc
namespace Go.Proofs.YtdaccamiipknmaaGreatDoor
open Go.RowKit Go.Shelf

/-- A row of bytes as a slice. -/
theorem RowU.sl {base : Nat} {xs : List Int} {w : World} {v : Value} (h : RowU base xs w v) : ∃ A c, v = .slice A xs.length c ∧ SlU w A xs := by
  have e : (xs.map fun x => [Value.int .u8 x]).flatten = xs.map (Value.int .u8) := by
    clear h
    induction xs with
    | nil => rfl
    | cons x l ih => rw [List.map_cons, List.flatten_cons, ih]; rfl
  unfold RowU at h
  rw [← e] at h
  obtain ⟨A, c, h1, _, _, h2⟩ := Sl.of_own (xs := xs.map fun x => [Value.int .u8 x]) (fun c hc => by obtain ⟨x, _, rfl⟩ := List.mem_map.1 hc; rfl) (by rw [List.length_map]) h
  rw [List.length_map] at h1
  exact ⟨A, c, h1, h2⟩
theorem make_u8 (n : Nat) (hn : n ≤ 2000000) (w : World) : ∃ W, (Instr.makeSlice 45 (.int .i64 0) (.int .i64 (n : Int))).run Tryz.prog w = .ok (.slice (some ⟨w.heap.size, 0, none⟩) 0 n) W ∧ RowU w.heap.size [] W (.slice (some ⟨w.heap.size, 0, none⟩) 0 n) ∧ Ext w W := by
  obtain ⟨i, hi, hzz⟩ := Option.map_eq_some_iff.1 Tryz.infoU8
  simp only [Prod.mk.injEq] at hzz
  obtain ⟨hz, hs, hb⟩ := hzz
  have hr := run_make (P := Tryz.prog) w 45 5 i _ Tryz.underlying45 hi hz .i64 .i64 0 n (by omega) (by omega) (by rw [hb]; omega) (by omega)
  simp only [Int.toNat_natCast, Int.toNat_zero, hs] at hr
  refine ⟨_, hr, ⟨rfl, Or.inr ⟨w.heap.size, n, _, rfl, Nat.le_refl _, heap_alloc_new _ _, Nat.zero_le _, by unfold maxLen; omega, ?_, rfl⟩⟩, (Ext.refl _).alloc _⟩
  rw [size_madeCells]
/-- What Encode's last region leaves. -/
def ceR (g base : Nat) (CA : Array Value) (z : Nat) (E : List Int) (j : Nat) (u : Option Value) (w : World) : Prop :=
  match j with
  | 0 => u = some (.int .i64 z)
  | 1 => ∃ v, u = some v ∧ RowU base [] w v
  | 2 => u = some (.agg CA)
  | 3 => ∃ v, u = some v ∧ RowU base E w v
  | 4 => ∃ v, u = some v ∧ RowU base E w v
  | 5 => u = some (.int .i64 0)
  | _ => w.heap[g]? = some (.cells CA 34 (0, 0)) ∧ base ≤ w.heap.size
def ceC : Nat → Option Nat
  | 1 => some 3
  | _ => none
def ceD : List Nat := [13, 14, 15, 16, 2, 3, 1000]
def ceE (g : Nat) (z : Nat) (t : Array Value) : Prop := t.getD 1 undef = .pointer (some ⟨g, 0, none⟩) ∧ t.getD 4 undef = .int .i64 z ∧ t.size = 17
theorem ceR_ext (g base : Nat) (CA : Array Value) (z : Nat) (E : List Int) (j : Nat) (u : Option Value) (w w' : World) (he : Ext w w') (h : ceR g base CA z E j u w) : ceR g base CA z E j u w' := by
  match j, h with
  | 0, h => exact h
  | 1, ⟨v, h1, h2⟩ => exact ⟨v, h1, own_ext h2 he⟩
  | 2, h => exact h
  | 3, ⟨v, h1, h2⟩ => exact ⟨v, h1, own_ext h2 he⟩
  | 4, ⟨v, h1, h2⟩ => exact ⟨v, h1, own_ext h2 he⟩
  | 5, h => exact h
  | j + 6, h => exact ⟨he.blockAt h.1, Nat.le_trans h.2 he.size⟩
theorem RowU.lower {base base' : Nat} {xs : List Int} {w : World} {v : Value} (h : RowU base xs w v) (hb : base' ≤ base) : RowU base' xs w v := by
  obtain ⟨h1, h2⟩ := h
  refine ⟨h1, ?_⟩
  rcases h2 with h2 | ⟨g, cap, cur, e, hg, r⟩
  · exact Or.inl h2
  · exact Or.inr ⟨g, cap, cur, e, Nat.le_trans hb hg, r⟩
set_option maxRecDepth 100000 in
set_option maxHeartbeats 6400000 in
theorem cenc_ok (B d : Nat) (hd : d ≤ 7) (x : Nd) (M : Option Addr × Nat) (w : World) (hK : KidsAt B 0 d w M x.kids) (hF : Fits (d + 1) x) (hl : (encT (d + 1) x).length ≤ 1048576) :
    Calls Tryz.prog 23 #[nda x M] w fun e w' => (∃ A c, e = .returned (.tuple #[.slice A (encT (d + 1) x).length c, .int .i64 0]) ∧ SlU w' A (encT (d + 1) x)) ∧ Ext w w' := by
  have EN := Lib.hid (enters_of Tryz.func58 (by kernel_rfl) rfl)
  obtain ⟨CA, hca, hcs⟩ : ∃ CA, nda x M = .agg CA ∧ CA.size = 5 := ⟨_, rfl, rfl⟩
  have HM : Hid (∀ w, KidsAt B 0 d w M x.kids → Calls Tryz.prog 57 #[nda x M, .int .i64 1, .int .i64 1048576] w fun e w' => e = .returned (.tuple #[.int .i64 ((encT (d + 1) x).length : Nat), .bool true]) ∧ Ext w w') :=
    Lib.hid (fun w h => mea_all B d x M 1 1048576 w h hF (by omega) (by omega) (by omega) (by omega))
  have HAP : Hid (∀ (W0 : World) (h : KidsAt B 0 d W0 M x.kids) (w : World) (v : Value), Ext W0 w → W0.heap.size ≤ w.heap.size → RowU W0.heap.size [] w v → Calls Tryz.prog 58 #[v, nda x M] w fun e w' => ∃ v', e = .returned v' ∧ RowU W0.heap.size (encT (d + 1) x) w' v' ∧ Ext W0 w' ∧ NdK w w') :=
    Lib.hid (fun W0 h w v hX hb hr => app_all B d x M W0 W0.heap.size v [] w (Nat.le_refl _) hX hb h hF (by simpa using hl) hr)
  have HK := Lib.hid hK
  obtain ⟨E, hE⟩ : ∃ E, encT (d + 1) x = E := ⟨_, rfl⟩
  rw [hE] at HM HAP hl ⊢
  obtain ⟨z, hz⟩ : ∃ z, E.length = z := ⟨_, rfl⟩
  have HZ := Lib.hid hz
  rw [hz] at HM hl
  rw [hca] at HM HAP ⊢
  have IA : Hid ((Tryz.prog.info? 34).map (·.size) = some CA.size) := Lib.hid (by rw [hcs]; kernel_rfl)
  clear hca hcs hK hF hE hz
  go_enter Tryz.func23, Tryz.ntmps23
  go_wp2_with (refine wpList_load_row rfl _ _ rfl w.heap.size rfl _ CA _ _ (heap_alloc_new _ _) Tryz.underlying34 rfl IA.out ?_)
  have X0 := (Ext.refl w).alloc (.cells CA 34)
  with_reducible refine (HM.out _ (HK.out.ext X0)).mono ?_
  rintro e w2 ⟨rfl, hb2⟩
  have HB2 := Lib.hid (hb2.blockAt (heap_alloc_new w (.cells CA 34)))
  have X2 := Lib.hid (X0.trans hb2)
  have HA := Lib.hid (HAP.out w2 (HK.out.ext X2.out))
  clear hb2 X0 HAP HM
  go_wp2_with fail
  refine region_tb (by kernel_rfl) (by decide +kernel) (ceE w.heap.size z) ⟨rfl, rfl, rfl⟩ 7 ceD ceC (ceR w.heap.size w2.heap.size CA z E) w2 (Ext.refl _) (fun i h1 h2 => by
    have h1' : 6 ≤ i := h1
    obtain rfl : i = 6 := by omega
    exact ⟨(Ext.refl _).drew.blockAt HB2.out, (Ext.refl _).drew.size⟩) ?_ ?_
  · intro T dd l' U wz i o hE ho hl hd hT
    obtain ⟨t1, t4, tz⟩ := hE
    match i, ho, hl, hd with
    | 0, ho, hl, hd =>
      obtain rfl := Option.some.inj ho
      have v0 := eval_old (d := dd) (hT.out 4 (by decide)) (by omega) t4
      refine tb_pure (v := .int .i64 (z : Int)) hT ho hd rfl rfl (by decide) (by decide) ?_ rfl
      generalize Act.eval ⟨over T U, dd⟩ = ev at *
      simp [execOp, go_sem, v0]
    | 1, ho, hl, hd =>
      obtain rfl := Option.some.inj ho
      have fv0 : U 13 = some (.int .i64 (z : Int)) := hT.facts 0 (by decide) (dep hd 0 (by kernel_rfl)) (fun c e => by cases e)
      have v0 : Act.eval ⟨over T U, dd⟩ (.tmp 13) = _ := eval_new (t := T) (d := dd) fv0 (by show 13 < T.size; omega)
      have hblk : wz.heap[w.heap.size]? = some (.cells CA 34 (0, 0)) ∧ w2.heap.size ≤ wz.heap.size := hT.facts 6 (by decide) (hT.past 6 (Nat.le_refl 6)) (fun c e => by cases e)
      have vc : Act.eval ⟨over T U, dd⟩ (.const (.int .i64 0)) = .int .i64 0 := rfl
      obtain ⟨W, hrun, hrow, hext⟩ := make_u8 z (by omega) wz
      refine tb_ext (v := .slice (some ⟨wz.heap.size, 0, none⟩) 0 z) (w' := W) (ceR_ext w.heap.size w2.heap.size CA z E) hT ho hd rfl rfl (by decide) (by decide) ?_ hext ⟨_, rfl, hrow.lower hblk.2⟩
      generalize Act.eval ⟨over T U, dd⟩ = ev at *
      simp [execOp, v0, vc, go_sem, hrun]
    | 2, ho, hl, hd =>
      obtain rfl := Option.some.inj ho
      have v0 := eval_old (d := dd) (hT.out 1 (by decide)) (by omega) t1
      have hblk : wz.heap[w.heap.size]? = some (.cells CA 34 (0, 0)) ∧ w2.heap.size ≤ wz.heap.size := hT.facts 6 (by decide) (hT.past 6 (Nat.le_refl 6)) (fun c e => by cases e)
      refine tb_yield (v := .agg CA) (w' := wz) hT ho hd rfl rfl (by decide) (by decide) (exec_load_row _ _ rfl w.heap.size v0 _ CA _ _ hblk.1 Tryz.underlying34 rfl IA.out) hT.ext rfl (fun _ _ _ _ _ h => h)
    | 3, ho, hl, hd =>
      obtain rfl := Option.some.inj ho
      obtain ⟨v, f1, hown⟩ : ∃ v, U 14 = some v ∧ RowU w2.heap.size [] wz v := hT.facts 1 (by decide) (dep hd 1 (by kernel_rfl)) (fun c e => by injection e with e; subst e; exact hl)
      have e1 : Act.eval ⟨over T U, dd⟩ (.tmp 14) = _ := eval_new (t := T) (d := dd) f1 (by show 14 < T.size; omega)
      have fv0 : U 15 = some (.agg CA) := hT.facts 2 (by decide) (dep hd 2 (by kernel_rfl)) (fun c e => by cases e)
      have v0 : Act.eval ⟨over T U, dd⟩ (.tmp 15) = _ := eval_new (t := T) (d := dd) fv0 (by show 15 < T.size; omega)
      have hblk : wz.heap[w.heap.size]? = some (.cells CA 34 (0, 0)) ∧ w2.heap.size ≤ wz.heap.size := hT.facts 6 (by decide) (hT.past 6 (Nat.le_refl 6)) (fun c e => by cases e)
      have l4 : l' 4 = false := by
        cases h4 : l' 4 with
        | false => rfl
        | true =>
          have h3 := dep (hT.shut 4 _ rfl h4) 3 (by kernel_rfl)
          rw [hl] at h3; cases h3
      refine tb_callX (f := 58) (args := #[v, .agg CA]) hT ho hd rfl rfl (by decide) (by decide) (exec_call2 rfl rfl e1 v0 EN.out) ?_
      refine (HA.out wz v hT.ext hblk.2 hown).mono ?_
      rintro e w' ⟨v', rfl, hr, hx, hnk⟩
      refine ⟨v', rfl, hx, ⟨v', rfl, hr⟩, fun j hj hji hlj hcj hR => ?_⟩
      match j, hj, hR with
      | 0, _, hR => exact hR
      | 1, _, _ => exact absurd rfl (hcj 3 rfl).1
      | 2, _, hR => exact hR
      | 3, _, _ => exact absurd rfl hji
      | 4, _, _ => rw [l4] at hlj; cases hlj
      | 5, _, hR => exact hR
      | 6, _, hR => exact ⟨hnk.2 _ _ hR.1, Nat.le_trans hR.2 hnk.1⟩
      | j + 7, hj, _ => exact absurd hj (by omega)
    | 4, ho, hl, hd =>
      obtain rfl := Option.some.inj ho
      obtain ⟨v, f3, hown⟩ : ∃ v, U 16 = some v ∧ RowU w2.heap.size E wz v := hT.facts 3 (by decide) (dep hd 3 (by kernel_rfl)) (fun c e => by cases e)
      have e1 : Act.eval ⟨over T U, dd⟩ (.tmp 16) = _ := eval_new (t := T) (d := dd) f3 (by show 16 < T.size; omega)
      refine tb_pure (v := v) hT ho hd rfl rfl (by decide) (by decide) ?_ ⟨v, rfl, hown⟩
      generalize Act.eval ⟨over T U, dd⟩ = ev at *
      simp [execOp, go_sem, e1]
    | 5, ho, hl, hd =>
      obtain rfl := Option.some.inj ho
      have vc : Act.eval ⟨over T U, dd⟩ (.const (.int .i64 0)) = .int .i64 0 := rfl
      refine tb_pure (v := .int .i64 0) hT ho hd rfl rfl (by decide) (by decide) ?_ rfl
      generalize Act.eval ⟨over T U, dd⟩ = ev at *
      simp [execOp, go_sem, vc]
    | i + 6, ho, _, _ => exact absurd ho (by simp)
  · intro U wx hex hout hfin
    obtain ⟨v, hu2, hr⟩ : ∃ v, U 2 = some v ∧ RowU w2.heap.size E wx v := hfin 4 (by decide) rfl
    have hu3 : U 3 = some (.int .i64 0) := hfin 5 (by decide) rfl
    have HR := Lib.hid hr
    have HX := Lib.hid hex
    rw [over_list]
    simp (disch := decide) only [overL, Nat.reduceAdd, hout, hu2, hu3, Option.getD_none, Option.getD_some]
    clear hr hex hfin hout hu2 hu3
    go_wp2
    go_ret2
    obtain ⟨A, c, rfl, hs⟩ := HR.out.sl
    exact ⟨⟨A, c, rfl, hs⟩, X2.out.trans HX.out⟩
end Go.Proofs.YtdaccamiipknmaaGreatDoor
