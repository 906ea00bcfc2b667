/- examboardref10.Equal of equal trees: a contract. Conditions: those of each theorem. examboardref14's number, text, numbers, strings: contracts. Conditions: those of each theorem. -/
import Derived.Test.YtdaccamiipknmaaGreatDoorIuF
import Derived.Test.YtdaccamiipknmaaGreatDoorStc
import Derived.Deep.MidRow
import Derived.Test.YtdaccamiipknmaaGreatDoorIuH
namespace Go.Proofs.YtdaccamiipknmaaGreatDoor
open Go.RowKit Go.Shelf

/-- A child's cells, as one range. -/
theorem KidsAt.range {B lo d : Nat} {w : World} {L : Option Addr × Nat} {ks : List Nd} (h : KidsAt B lo (d + 1) w L ks) {i : Nat} {x : Nd} (hi : ks[i]? = some x) :
    ∃ (b off : Nat) (M : Option Addr × Nat), L.1 = some ⟨b, off, none⟩ ∧ b < w.heap.size ∧ (∀ j v, (ndc x M)[j]? = some v → w.cell? ⟨b, off + i * 5 + j, none⟩ = some v) ∧ KidsAt B lo d w M x.kids := by
  obtain ⟨_, _, _, h⟩ := h
  rcases h with h | ⟨b, off, Ls, e, hl, hb, hL, hc⟩
  · subst h; simp at hi
  · have hlt : i < ks.length := by
      rcases Nat.lt_or_ge i ks.length with g | g
      · exact g
      · rw [List.getElem?_eq_none g] at hi; cases hi
    have hM : Ls[i]? = some (Ls[i]'(by omega)) := List.getElem?_eq_getElem (by omega)
    obtain ⟨h1, h2⟩ := hc i x _ hi hM
    exact ⟨b, off, _, e, hb, fun j v hv => by rw [Nat.add_assoc]; exact h1 j v hv, h2⟩
/-- A load of a whole struct out of a row. -/
theorem exec_load_mid {P : Program} {ev : Operand → Value} {o : Oper} {w : World} (ty : TypeId) (x : Operand) (ho : o.op = .load ty x) (b off : Nat) (hx : ev x = .pointer (some ⟨b, off, none⟩)) (cs : List Value) (td : TypeDesc) (hc : ∀ j v, cs[j]? = some v → w.cell? ⟨b, off + j, none⟩ = some v)
    (hu : P.underlying ty = some td) (hd : td.isRow = true) (hi : (P.info? ty).map (·.size) = some cs.length) : (execOp ev o).run P w = .ok (.value (.agg cs.toArray)) w := by
  unfold execOp
  simp only [ho, hx, Sem.run_bind, run_loadAt_mid w b off ty cs td hc hu hd hi, Sem.run_pure, Result.andThen_ok]
theorem infoNd5 (x : Nd) (M : Option Addr × Nat) : (Tryz.prog.info? 34).map (·.size) = some (ndc x M).length := by
  show _ = some 5
  kernel_rfl
theorem mono_val' (v : Value) : ∀ u w w', Ext w w' → (fun (u : Option Value) (_ : World) => u = some v) u w → (fun (u : Option Value) (_ : World) => u = some v) u w' := fun _ _ _ _ h => h

def eqV (g n k b off c b' off' c' : Nat) (x : Nd) (M M' : Option Addr × Nat) : List Value := [.pointer (some ⟨g, 4, none⟩), .slice (some ⟨b, off, none⟩) n c, .int .i64 (k : Int), .pointer (some ⟨b, off + k * 5, none⟩), nda x M, .pointer (some ⟨g + 1, 4, none⟩), .slice (some ⟨b', off', none⟩) n c', .int .i64 (k : Int), .pointer (some ⟨b', off' + k * 5, none⟩), nda x M', .bool true, .bool false]
def eqR (g n k b off c b' off' c' : Nat) (x : Nd) (M M' : Option Addr × Nat) (j : Nat) (u : Option Value) (_ : World) : Prop := u = some ((eqV g n k b off c b' off' c' x M M').getD j undef)
theorem eqR_ext (g n k b off c b' off' c' : Nat) (x : Nd) (M M' : Option Addr × Nat) (j : Nat) (u : Option Value) (w w' : World) (_ : Ext w w') (h : eqR g n k b off c b' off' c' x M M' j u w) : eqR g n k b off c b' off' c' x M M' j u w' := h
def eqD : List Nat := [48, 49, 50, 51, 52, 53, 54, 55, 56, 57, 58, 59]
def eqE (g k : Nat) (t : Array Value) : Prop := t.getD 2 undef = .pointer (some ⟨g, 0, none⟩) ∧ t.getD 3 undef = .pointer (some ⟨g + 1, 0, none⟩) ∧ t.getD 5 undef = .int .i64 (k : Int) ∧ t.size = 60
set_option maxRecDepth 100000 in
set_option maxHeartbeats 12800000 in
theorem requal_self (B : Nat) (hB : B ≤ 9223372036854775807) : ∀ (d : Nat) (x : Nd) (M M' : Option Addr × Nat) (w : World), KidsAt B 0 d w M x.kids → KidsAt B 0 d w M' x.kids →
    Calls Tryz.prog 16 #[nda x M, nda x M'] w fun e w' => e = .returned (.bool true) ∧ Ext w w' := by
  intro d
  induction d with
  | zero =>
    rintro ⟨t, kd, m, s, ks⟩ M M' w ⟨h1, _⟩ _
    have hk : ks = [] := h1
    subst hk
    simp only [nda, Nd.tag, Nd.kind, Nd.n, Nd.s, Nd.kids, List.length_nil]
    go_enter Tryz.func16, Tryz.ntmps16
    go_wp2
    go_loopw [5] (fun i wr => i = .int .i64 0 ∧ Ext (((w.alloc (.cells #[.int .i64 t, .int .i64 kd, .int .i64 m, .string s, .slice M.1 0 M.2] 34)).alloc (.cells #[.int .i64 t, .int .i64 kd, .int .i64 m, .string s, .slice M'.1 0 M'.2] 34))) wr) (fun _ _ => 0)
    case atStart => exact ⟨rfl, Ext.refl _⟩
    case round =>
      obtain ⟨rfl, he⟩ := hrel
      have k4 : wr.cell? ⟨w.heap.size, 4, none⟩ = some (.slice M.1 0 M.2) := he.keep (by refine ((Ext.refl _).alloc _).keep ?_; rw [World.cell?_alloc_new]; rfl)
      have HE := Lib.hid ((((Ext.refl w).alloc _).alloc _).trans he)
      clear he
      go_wp2
      go_ret
      exact ⟨rfl, HE.out⟩
  | succ d ih =>
    rintro ⟨t, kd, m, s, ks⟩ M M' w hK hK'
    have HIH := Lib.hid ih
    have hfew : ks.length ≤ B := hK.few
    have HK : Hid (KidsAt B 0 (d + 1) w M ks) := Lib.hid hK
    have HK' : Hid (KidsAt B 0 (d + 1) w M' ks) := Lib.hid hK'
    clear ih hK hK'
    obtain ⟨n, hn⟩ : ∃ n, ks.length = n := ⟨_, rfl⟩
    simp only [nda, Nd.tag, Nd.kind, Nd.n, Nd.s, Nd.kids]
    rw [hn] at hfew ⊢
    have HN := Lib.hid hn
    clear hn
    go_enter Tryz.func16, Tryz.ntmps16
    go_wp2
    go_loopw [5] (fun i wr => ∃ k : Nat, k ≤ n ∧ i = .int .i64 k ∧ Hid (Ext (((w.alloc (.cells #[.int .i64 t, .int .i64 kd, .int .i64 m, .string s, .slice M.1 n M.2] 34)).alloc (.cells #[.int .i64 t, .int .i64 kd, .int .i64 m, .string s, .slice M'.1 n M'.2] 34))) wr)) (fun i _ => n - (intOf i).toNat)
    case atStart => exact ⟨0, by omega, rfl, Lib.hid (Ext.refl _)⟩
    case round =>
      obtain ⟨k, hk, rfl, HE⟩ := hrel
      have k4 : wr.cell? ⟨w.heap.size, 4, none⟩ = some (.slice M.1 n M.2) := HE.out.keep (by refine ((Ext.refl _).alloc _).keep ?_; rw [World.cell?_alloc_new]; rfl)
      have k5 : wr.cell? ⟨w.heap.size + 1, 4, none⟩ = some (.slice M'.1 n M'.2) := HE.out.keep (by
        have := World.cell?_alloc_new (w.alloc (.cells #[.int .i64 t, .int .i64 kd, .int .i64 m, .string s, .slice M.1 n M.2] 34)) #[.int .i64 t, .int .i64 kd, .int .i64 m, .string s, .slice M'.1 n M'.2] 34 4
        rw [show (w.alloc (.cells #[.int .i64 t, .int .i64 kd, .int .i64 m, .string s, .slice M.1 n M.2] 34)).heap.size = w.heap.size + 1 by simp] at this
        rw [this]; rfl)
      by_cases hlt : k < n
      · obtain ⟨x, hx⟩ : ∃ x, ks[k]? = some x := ⟨ks[k]'(by rw [HN.out]; exact hlt), List.getElem?_eq_getElem _⟩
        have X0 := Lib.hid ((((Ext.refl w).alloc _).alloc _).trans HE.out)
        obtain ⟨b, off, Mk, hA, hb0, hc, hKk⟩ := (HK.out.ext X0.out).range hx
        obtain ⟨b', off', Mk', hA', hb0', hc', hKk'⟩ := (HK'.out.ext X0.out).range hx
        obtain ⟨MA, mc⟩ := M
        obtain ⟨MA', mc'⟩ := M'
        dsimp only at hA hA'
        subst hA hA'
        have ki0 : (0 : Int) ≤ (k : Int) := by omega
        have ki1 : (k : Int) < (n : Int) := by omega
        have HC := Lib.hid hc
        have HC' := Lib.hid hc'
        have HKK := Lib.hid hKk
        have HKK' := Lib.hid hKk'
        have EN := Lib.hid (enters_of Tryz.func16 (by kernel_rfl) rfl)
        clear hc hc' hKk hKk' hx hb0 hb0'
        go_wp2_with fail
        have K4 := Lib.hid k4
        have K5 := Lib.hid k5
        clear k4 k5
        refine region_tb (by kernel_rfl) (by decide +kernel) (eqE w.heap.size k) ⟨rfl, rfl, rfl, rfl⟩ 12 eqD (fun _ => none) (eqR w.heap.size n k b off mc b' off' mc' x Mk Mk') wr (Ext.refl _) (fun i h1 h2 => absurd h2 (Nat.not_lt.2 h1)) ?_ ?_
        · intro T dd l U wz i o hE ho hl hd hT
          obtain ⟨t2, t3, t5, tz⟩ := hE
          have hx := hT.ext
          match i, ho, hl, hd with
          | 0, ho, hl, hd =>
            obtain rfl := Option.some.inj ho
            have v0 := eval_old (d := dd) (hT.out 2 (by decide)) (by omega) t2
            refine tb_pure (v := .pointer (some ⟨w.heap.size, 4, none⟩)) hT ho hd rfl rfl (by decide) (by decide) ?_ rfl
            generalize Act.eval ⟨over T U, dd⟩ = ev at *
            simp [execOp, go_sem, v0]
          | 1, ho, hl, hd =>
            obtain rfl := Option.some.inj ho
            have f0 : U 48 = some (.pointer (some ⟨w.heap.size, 4, none⟩)) := hT.facts 0 (by decide) (dep hd 0 (by kernel_rfl)) (fun c e => by cases e)
            have v0 : Act.eval ⟨over T U, dd⟩ (.tmp 48) = _ := eval_new (t := T) (d := dd) f0 (by show 48 < T.size; omega)
            have hc := hx.keep K4.out
            refine tb_pure (v := .slice (some ⟨b, off, none⟩) n mc) hT ho hd rfl rfl (by decide) (by decide) ?_ rfl
            generalize Act.eval ⟨over T U, dd⟩ = ev at *
            simp [execOp, go_sem, v0, hc]
          | 2, ho, hl, hd =>
            obtain rfl := Option.some.inj ho
            have v0 := eval_old (d := dd) (hT.out 5 (by decide)) (by omega) t5
            refine tb_pure (v := .int .i64 (k : Int)) hT ho hd rfl rfl (by decide) (by decide) ?_ rfl
            generalize Act.eval ⟨over T U, dd⟩ = ev at *
            simp [execOp, go_sem, v0]
          | 3, ho, hl, hd =>
            obtain rfl := Option.some.inj ho
            have f0 : U 49 = some (.slice (some ⟨b, off, none⟩) n mc) := hT.facts 1 (by decide) (dep hd 1 (by kernel_rfl)) (fun c e => by cases e)
            have v0 : Act.eval ⟨over T U, dd⟩ (.tmp 49) = _ := eval_new (t := T) (d := dd) f0 (by show 49 < T.size; omega)
            have f1 : U 50 = some (.int .i64 (k : Int)) := hT.facts 2 (by decide) (dep hd 2 (by kernel_rfl)) (fun c e => by cases e)
            have v1 : Act.eval ⟨over T U, dd⟩ (.tmp 50) = _ := eval_new (t := T) (d := dd) f1 (by show 50 < T.size; omega)
            refine tb_pure (v := .pointer (some ⟨b, off + k * 5, none⟩)) hT ho hd rfl rfl (by decide) (by decide) ?_ rfl
            generalize Act.eval ⟨over T U, dd⟩ = ev at *
            simp [execOp, go_sem, v0, v1, ki0, ki1]
          | 4, ho, hl, hd =>
            obtain rfl := Option.some.inj ho
            have f0 : U 51 = some (.pointer (some ⟨b, off + k * 5, none⟩)) := hT.facts 3 (by decide) (dep hd 3 (by kernel_rfl)) (fun c e => by cases e)
            have v0 : Act.eval ⟨over T U, dd⟩ (.tmp 51) = _ := eval_new (t := T) (d := dd) f0 (by show 51 < T.size; omega)
            refine tb_pure (v := nda x Mk) hT ho hd rfl rfl (by decide) (by decide) (exec_load_mid _ _ rfl b (off + k * 5) v0 (ndc x Mk) _ (fun j v hv => hx.keep (HC.out j v hv)) Tryz.underlying34 rfl (infoNd5 _ _)) rfl
          | 5, ho, hl, hd =>
            obtain rfl := Option.some.inj ho
            have v0 := eval_old (d := dd) (hT.out 3 (by decide)) (by omega) t3
            refine tb_pure (v := .pointer (some ⟨w.heap.size + 1, 4, none⟩)) hT ho hd rfl rfl (by decide) (by decide) ?_ rfl
            generalize Act.eval ⟨over T U, dd⟩ = ev at *
            simp [execOp, go_sem, v0]
          | 6, ho, hl, hd =>
            obtain rfl := Option.some.inj ho
            have f0 : U 53 = some (.pointer (some ⟨w.heap.size + 1, 4, none⟩)) := hT.facts 5 (by decide) (dep hd 5 (by kernel_rfl)) (fun c e => by cases e)
            have v0 : Act.eval ⟨over T U, dd⟩ (.tmp 53) = _ := eval_new (t := T) (d := dd) f0 (by show 53 < T.size; omega)
            have hc := hx.keep K5.out
            refine tb_pure (v := .slice (some ⟨b', off', none⟩) n mc') hT ho hd rfl rfl (by decide) (by decide) ?_ rfl
            generalize Act.eval ⟨over T U, dd⟩ = ev at *
            simp [execOp, go_sem, v0, hc]
          | 7, ho, hl, hd =>
            obtain rfl := Option.some.inj ho
            have v0 := eval_old (d := dd) (hT.out 5 (by decide)) (by omega) t5
            refine tb_pure (v := .int .i64 (k : Int)) hT ho hd rfl rfl (by decide) (by decide) ?_ rfl
            generalize Act.eval ⟨over T U, dd⟩ = ev at *
            simp [execOp, go_sem, v0]
          | 8, ho, hl, hd =>
            obtain rfl := Option.some.inj ho
            have f0 : U 54 = some (.slice (some ⟨b', off', none⟩) n mc') := hT.facts 6 (by decide) (dep hd 6 (by kernel_rfl)) (fun c e => by cases e)
            have v0 : Act.eval ⟨over T U, dd⟩ (.tmp 54) = _ := eval_new (t := T) (d := dd) f0 (by show 54 < T.size; omega)
            have f1 : U 55 = some (.int .i64 (k : Int)) := hT.facts 7 (by decide) (dep hd 7 (by kernel_rfl)) (fun c e => by cases e)
            have v1 : Act.eval ⟨over T U, dd⟩ (.tmp 55) = _ := eval_new (t := T) (d := dd) f1 (by show 55 < T.size; omega)
            refine tb_pure (v := .pointer (some ⟨b', off' + k * 5, none⟩)) hT ho hd rfl rfl (by decide) (by decide) ?_ rfl
            generalize Act.eval ⟨over T U, dd⟩ = ev at *
            simp [execOp, go_sem, v0, v1, ki0, ki1]
          | 9, ho, hl, hd =>
            obtain rfl := Option.some.inj ho
            have f0 : U 56 = some (.pointer (some ⟨b', off' + k * 5, none⟩)) := hT.facts 8 (by decide) (dep hd 8 (by kernel_rfl)) (fun c e => by cases e)
            have v0 : Act.eval ⟨over T U, dd⟩ (.tmp 56) = _ := eval_new (t := T) (d := dd) f0 (by show 56 < T.size; omega)
            refine tb_pure (v := nda x Mk') hT ho hd rfl rfl (by decide) (by decide) (exec_load_mid _ _ rfl b' (off' + k * 5) v0 (ndc x Mk') _ (fun j v hv => hx.keep (HC'.out j v hv)) Tryz.underlying34 rfl (infoNd5 _ _)) rfl
          | 10, ho, hl, hd =>
            obtain rfl := Option.some.inj ho
            have f0 : U 52 = some (nda x Mk) := hT.facts 4 (by decide) (dep hd 4 (by kernel_rfl)) (fun c e => by cases e)
            have v0 : Act.eval ⟨over T U, dd⟩ (.tmp 52) = _ := eval_new (t := T) (d := dd) f0 (by show 52 < T.size; omega)
            have f1 : U 57 = some (nda x Mk') := hT.facts 9 (by decide) (dep hd 9 (by kernel_rfl)) (fun c e => by cases e)
            have v1 : Act.eval ⟨over T U, dd⟩ (.tmp 57) = _ := eval_new (t := T) (d := dd) f1 (by show 57 < T.size; omega)
            refine tb_call (f := 16) (args := #[nda x Mk, nda x Mk']) (eqR_ext w.heap.size n k b off mc b' off' mc' x Mk Mk') hT ho hd rfl rfl (by decide) (by decide) (exec_call2 rfl rfl v0 v1 EN.out) ?_
            refine (HIH.out x Mk Mk' wz (HKK.out.ext hx) (HKK'.out.ext hx)).mono ?_
            rintro e w' ⟨rfl, hb⟩
            exact ⟨_, rfl, hb, rfl⟩
          | 11, ho, hl, hd =>
            obtain rfl := Option.some.inj ho
            have f0 : U 58 = some (.bool true) := hT.facts 10 (by decide) (dep hd 10 (by kernel_rfl)) (fun c e => by cases e)
            have v0 : Act.eval ⟨over T U, dd⟩ (.tmp 58) = _ := eval_new (t := T) (d := dd) f0 (by show 58 < T.size; omega)
            refine tb_pure (v := .bool false) hT ho hd rfl rfl (by decide) (by decide) ?_ rfl
            generalize Act.eval ⟨over T U, dd⟩ = ev at *
            simp [execOp, go_sem, v0]
          | i + 12, ho, _, _ => exact absurd ho (by simp)
        · intro U wz hex hout hfin
          have f59 : U 59 = some (.bool false) := hfin 11 (by decide) rfl
          have HEX := Lib.hid (HE.out.trans hex)
          clear hex hfin
          rw [over_list]
          simp (disch := decide) only [overL, Nat.reduceAdd, hout, Option.getD_none]
          rw [f59]
          simp only [Option.getD_some]
          clear hout f59
          go_wp2
          go_roundw
          case rel => exact ⟨k + 1, by omega, by go_num, HEX⟩
          case measure => simp [intOf]; omega
      · obtain rfl : k = n := by omega
        have HE2 := Lib.hid ((((Ext.refl w).alloc _).alloc _).trans HE.out)
        clear HE
        go_wp2
        go_ret
        exact ⟨rfl, HE2.out⟩
end Go.Proofs.YtdaccamiipknmaaGreatDoor
namespace Go.Proofs.YtdaccamiipknmaaGreatDoor
open Go.RowKit Go.Shelf

set_option maxRecDepth 100000 in
set_option maxHeartbeats 1600000 in
theorem rnumber_any (tag : Int) (n : Int) (w : World) : Calls Tryz.prog 37 #[.int .i64 tag, .int .i64 n] w fun e w' => e = .returned (.agg #[.int .i64 tag, .int .i64 1, .int .i64 n, .string ⟨#[]⟩, .slice none 0 0]) ∧ Ext w w' := by
  go_enter Tryz.func37, Tryz.ntmps37
  go_wp2_with (refine wpList_store_row rfl _ _ _ rfl w.heap.size #[.int .i64 tag, .int .i64 1, .int .i64 n, .string ⟨#[]⟩, .slice none 0 0] rfl rfl _ #[.int .i64 0, .int .i64 0, .int .i64 0, .string ⟨#[]⟩, .slice none 0 0] (heap_alloc_new _ _) (by kernel_rfl) rfl (by simp [Value.oneCell']) ?_)
  have HRS := setRow_at (cs' := #[.int .i64 tag, .int .i64 1, .int .i64 n, .string ⟨#[]⟩, .slice none 0 0]) (heap_alloc_new w (.cells #[.int .i64 0, .int .i64 0, .int .i64 0, .string ⟨#[]⟩, .slice none 0 0] 34))
  exact bodyPost_ret (v := .agg #[.int .i64 tag, .int .i64 1, .int .i64 n, .string ⟨#[]⟩, .slice none 0 0]) (results_cell_row Tryz.results37 _ _ w.heap.size _ _ _ _ rfl HRS Tryz.underlying34 rfl (by kernel_rfl)) rfl ⟨rfl, ((Ext.refl _).alloc _).setRow (Nat.le_refl _) _⟩
set_option maxRecDepth 100000 in
set_option maxHeartbeats 1600000 in
theorem rtext_any (tag : Int) (s : ByteArray) (w : World) : Calls Tryz.prog 38 #[.int .i64 tag, .string s] w fun e w' => e = .returned (.agg #[.int .i64 tag, .int .i64 2, .int .i64 0, .string s, .slice none 0 0]) ∧ Ext w w' := by
  go_enter Tryz.func38, Tryz.ntmps38
  go_wp2_with (refine wpList_store_row rfl _ _ _ rfl w.heap.size #[.int .i64 tag, .int .i64 2, .int .i64 0, .string s, .slice none 0 0] rfl rfl _ #[.int .i64 0, .int .i64 0, .int .i64 0, .string ⟨#[]⟩, .slice none 0 0] (heap_alloc_new _ _) (by kernel_rfl) rfl (by simp [Value.oneCell']) ?_)
  have HRS := setRow_at (cs' := #[.int .i64 tag, .int .i64 2, .int .i64 0, .string s, .slice none 0 0]) (heap_alloc_new w (.cells #[.int .i64 0, .int .i64 0, .int .i64 0, .string ⟨#[]⟩, .slice none 0 0] 34))
  exact bodyPost_ret (v := .agg #[.int .i64 tag, .int .i64 2, .int .i64 0, .string s, .slice none 0 0]) (results_cell_row Tryz.results38 _ _ w.heap.size _ _ _ _ rfl HRS Tryz.underlying34 rfl (by kernel_rfl)) rfl ⟨rfl, ((Ext.refl _).alloc _).setRow (Nat.le_refl _) _⟩
/-- A leaf's cells. -/
def leafC (x : Nd) : List Value := ndc x (none, 0)
theorem leafC_len (l : List Nd) : (∀ c ∈ l.map leafC, c.length = 5) ∧ ∀ c ∈ l.map leafC, ∀ u ∈ c, u.oneCell' = true := by
  refine ⟨fun c hc => ?_, fun c hc u hu => ?_⟩
  · obtain ⟨x, _, rfl⟩ := List.mem_map.1 hc; rfl
  · obtain ⟨x, _, rfl⟩ := List.mem_map.1 hc
    simp only [leafC, ndc, List.mem_cons, List.not_mem_nil, or_false] at hu
    rcases hu with rfl | rfl | rfl | rfl | rfl <;> rfl
/-- An owned row of leaves is a list of children. -/
theorem kids_own {B lo base n : Nat} {w : World} {v : Value} {ks : List Nd} (h : w.ownsRow base 34 5 v n (ks.map leafC).flatten) (hn : ks.length = n) (hlf : ∀ x ∈ ks, x.kids = []) (hB : n ≤ B) (hlo : lo ≤ base) : ∃ A c, v = .slice A n c ∧ KidsAt B lo 1 w (A, c) ks := by
  obtain ⟨hl, h2⟩ := h
  rcases h2 with ⟨rfl, h0⟩ | ⟨g, cap, cur, rfl, hg, hh, h1, h2, h3, h4⟩
  · have : ks = [] := List.eq_nil_of_length_eq_zero (by omega)
    subst this
    exact ⟨none, 0, by rw [h0], KidsAt.nil _ _ _ _ _⟩
  · have hlt : g < w.heap.size := by
      rcases Nat.lt_or_ge g w.heap.size with e | e
      · exact e
      · rw [Array.getElem?_eq_none e] at hh; cases hh
    refine ⟨some ⟨g, 0, none⟩, cap, rfl, by omega, by simp only; omega, h2, Or.inr ⟨g, 0, List.replicate ks.length ((none, 0) : Option Addr × Nat), rfl, by omega, hlt, by simp, fun i x M hx hM => ?_⟩⟩
    have hM' : M = (none, 0) := by
      rw [List.getElem?_replicate] at hM
      split at hM
      · exact (Option.some.inj hM).symm
      · cases hM
    subst hM'
    refine ⟨fun j u hu => ?_, ?_⟩
    · have hi : (ks.map leafC)[i]? = some (leafC x) := by rw [List.getElem?_map, hx]; rfl
      have h5 := flatten_at (leafC_len ks).1 hi hu
      rw [← h4] at h5
      rw [Nat.zero_add, cell_of_row w g (i * 5 + j) cur _ _ hh]
      have hlt2 : i * 5 + j < n * 5 := by
        rcases Nat.lt_or_ge (i * 5 + j) (n * 5) with e | e
        · exact e
        · rw [List.getElem?_eq_none (by rw [List.length_take]; omega)] at h5; cases h5
      rw [List.getElem?_take_of_lt hlt2] at h5
      simpa using h5
    · rw [hlf x (List.mem_of_getElem? hx)]; exact KidsAt.nil _ _ _ _ _
theorem Tryz.infoNd5 : (Tryz.prog.info? 34).map (fun i => (i.zero, i.size, i.bytes)) = some (some (.agg #[.int .i64 0, .int .i64 0, .int .i64 0, .string ⟨#[]⟩, .slice none 0 0]), 5, 64) := by kernel_rfl
theorem sl_one5 (w : World) (x : Nd) (t : TypeId) : Sl (w.alloc (.cells (leafC x).toArray t)) 5 (some ⟨w.heap.size, 0, none⟩) ([x].map leafC) := by
  refine Or.inr ⟨w.heap.size, 0, rfl, by simp, fun i cs hi j v hv => ?_⟩
  match i, hi with
  | 0, hi =>
    simp at hi
    subst hi
    rw [World.cell?_alloc_new]
    simpa using hv
/-- What the region leaves. 'g': the node's own block; 'v': its list so far. -/
def nuR (g base : Nat) (tag : Int) (v : Value) (k : Nat) (ks : List Nd) (y : Nd) (xv : Value) (j : Nat) (u : Option Value) (w : World) : Prop :=
  match j with
  | 0 => u = some (.pointer (some ⟨g, 4, none⟩))
  | 1 => u = some v
  | 2 => u = some xv
  | 3 => u = some (.agg (leafC y).toArray)
  | 4 => ∃ q, u = some (.slice (some ⟨q, 0, none⟩) 1 1) ∧ Sl w 5 (some ⟨q, 0, none⟩) ([y].map leafC)
  | 5 => ∃ v', u = some v' ∧ w.ownsRow base 34 5 v' (k + 1) ((ks ++ [y]).map leafC).flatten
  | 6 => u = some (.pointer (some ⟨g, 4, none⟩))
  | 7 => ∃ v', w.heap[g]? = some (.cells #[.int .i64 tag, .int .i64 3, .int .i64 0, .string ⟨#[]⟩, v'] 34 (0, 0)) ∧ w.ownsRow base 34 5 v' (k + 1) ((ks ++ [y]).map leafC).flatten
  | 8 => w.heap[g]? = some (.cells #[.int .i64 tag, .int .i64 3, .int .i64 0, .string ⟨#[]⟩, v] 34 (0, 0))
  | _ => w.ownsRow base 34 5 v k (ks.map leafC).flatten
def nuC : Nat → Option Nat
  | 4 => some 5
  | 5 => some 7
  | 8 => some 7
  | 9 => some 5
  | _ => none
def nuD : List Nat := [16, 17, 18, 19, 20, 21, 22, 1000, 1001, 1002]
def nuE (g : Nat) (xv : Value) (t : Array Value) : Prop := t.getD 5 undef = .pointer (some ⟨g, 0, none⟩) ∧ t.getD 7 undef = xv ∧ t.size = 25
theorem nuR_ext (g base : Nat) (tag : Int) (v : Value) (k : Nat) (ks : List Nd) (y : Nd) (xv : Value) (j : Nat) (u : Option Value) (w w' : World) (he : Ext w w') (h : nuR g base tag v k ks y xv j u w) : nuR g base tag v k ks y xv j u w' := by
  match j, h with
  | 0, h => exact h
  | 1, h => exact h
  | 2, h => exact h
  | 3, h => exact h
  | 4, ⟨q, h1, h2⟩ => exact ⟨q, h1, h2.ext he⟩
  | 5, ⟨v', h1, h2⟩ => exact ⟨v', h1, own_ext h2 he⟩
  | 6, h => exact h
  | 7, ⟨v', h1, h2⟩ => exact ⟨v', he.blockAt h1, own_ext h2 he⟩
  | 8, h => exact he.blockAt h
  | j + 9, h => exact own_ext h he
theorem KidsAt.setRow {B lo : Nat} : ∀ {d : Nat} {w : World} {L : Option Addr × Nat} {ks : List Nd} {g : Nat}, KidsAt B lo d w L ks → g < lo → ∀ cs, KidsAt B lo d (w.setRow g cs) L ks
  | 0, _, _, _, _, h, _, _ => h
  | d + 1, w, L, ks, g, ⟨h1, h2, h3, h⟩, hg, cs => by
    refine ⟨h1, h2, h3, ?_⟩
    rcases h with h | ⟨b, off, Ls, e, hl, hb, hL, hc⟩
    · exact Or.inl h
    · refine Or.inr ⟨b, off, Ls, e, hl, by simpa [World.setRow] using hb, hL, fun i x M hx hM => ⟨fun j u hu => ?_, (hc i x M hx hM).2.setRow hg cs⟩⟩
      rw [World.cell?_of_block (w := w) (w' := w.setRow g cs) (setRow_other _ _ (by show b ≠ g; omega))]
      exact (hc i x M hx hM).1 j u hu
theorem own_set {w : World} {base : Nat} {e : TypeId} {size : Nat} {v : Value} {n : Nat} {xs : List Value} (h : w.ownsRow base e size v n xs) {g : Nat} (hg : g < base) (i : Nat) (u : Value) : (w.setCell ⟨g, i, none⟩ u).ownsRow base e size v n xs := by
  obtain ⟨h1, h2⟩ := h
  refine ⟨h1, ?_⟩
  rcases h2 with h2 | ⟨q, cap, cur, rfl, hq, hh, r⟩
  · exact Or.inl h2
  · exact Or.inr ⟨q, cap, cur, rfl, hq, by rw [Below.heap_setCell _ _ _ _ (show q ≠ g by omega)]; exact hh, r⟩
theorem leaf_flat (ks : List Nd) (y : Nd) : (ks.map leafC).flatten ++ ([y].map leafC).flatten = ((ks ++ [y]).map leafC).flatten := by rw [List.map_append, List.flatten_append]
set_option maxRecDepth 100000 in
set_option maxHeartbeats 12800000 in
theorem rnumbers_any (tag : Int) (A : Option Addr) (c : Nat) (l : List Int) (w : World) (h : SlI w A l) (hl : l.length ≤ 1000) :
    Calls Tryz.prog 40 #[.int .i64 tag, .slice A l.length c] w fun e w' => RetNd 1000 w.heap.size 1 (.mk tag 3 0 ⟨#[]⟩ (l.map leafI)) e w' ∧ Ext w w' := by
  have H := Lib.hid h
  clear h
  obtain ⟨n, hn⟩ : ∃ n, l.length = n := ⟨_, rfl⟩
  rw [hn] at hl ⊢
  have HN := Lib.hid hn
  clear hn
  obtain ⟨i0, hi0, hz0, hz1, hz2⟩ := info_parts Tryz.infoNd5
  have EN := Lib.hid (enters_of Tryz.func37 (by kernel_rfl) rfl)
  obtain ⟨B2, hB2⟩ : ∃ W, (((w.alloc (.cells #[.int .i64 0, .int .i64 0, .int .i64 0, .string ⟨#[]⟩, .slice none 0 0] 34)).alloc (.cells #[.int .i64 0, .int .i64 0, .int .i64 0, .string ⟨#[]⟩, .slice none 0 0] 34)).setRow (w.heap.size + 1) #[.int .i64 tag, .int .i64 3, .int .i64 0, .string ⟨#[]⟩, .slice none 0 0]) = W := ⟨_, rfl⟩
  obtain ⟨W1, hW1⟩ : ∃ W, w.alloc (.cells #[.int .i64 0, .int .i64 0, .int .i64 0, .string ⟨#[]⟩, .slice none 0 0] 34) = W := ⟨_, rfl⟩
  have HS1 : Hid (W1.heap.size = w.heap.size + 1) := Lib.hid (by rw [← hW1]; simp)
  have HBK : Hid (B2.heap[w.heap.size + 1]? = some (.cells #[.int .i64 tag, .int .i64 3, .int .i64 0, .string ⟨#[]⟩, .slice none 0 0] 34 (0, 0))) := Lib.hid (by rw [← hB2]; exact setRow_at (heap_two_snd _ _ _))
  have HBR : Hid (W1.heap[w.heap.size]? = some (.cells #[.int .i64 0, .int .i64 0, .int .i64 0, .string ⟨#[]⟩, .slice none 0 0] 34 (0, 0))) := Lib.hid (by rw [← hW1]; exact heap_alloc_new _ _)
  have X1 : Hid (Ext w W1) := Lib.hid (by rw [← hW1]; exact (Ext.refl _).alloc _)
  have X2 : Hid (Ext W1 B2) := Lib.hid (by rw [← hB2, hW1]; exact ((Ext.refl _).alloc _).setRow (by rw [HS1.out]; exact Nat.le_refl _) _)
  have HE2 := Lib.hid hB2
  clear hB2 hW1
  go_enter Tryz.func40, Tryz.ntmps40
  go_wp2_with (refine wpList_store_row rfl _ _ _ rfl (w.heap.size + 1) #[.int .i64 tag, .int .i64 3, .int .i64 0, .string ⟨#[]⟩, .slice none 0 0] rfl rfl _ #[.int .i64 0, .int .i64 0, .int .i64 0, .string ⟨#[]⟩, .slice none 0 0] (heap_two_snd _ _ _) (by kernel_rfl) rfl (by simp [Value.oneCell']) ?_; rw [HE2.out])
  go_loopw [12] (fun i wr => ∃ (k : Nat) (v : Value), k ≤ n ∧ i = .int .i64 k ∧ Hid (wr.heap[w.heap.size + 1]? = some (.cells #[.int .i64 tag, .int .i64 3, .int .i64 0, .string ⟨#[]⟩, v] 34 (0, 0)) ∧ wr.ownsRow (w.heap.size + 2) 34 5 v k (((l.take k).map leafI).map leafC).flatten ∧ Ext W1 wr)) (fun i _ => n - (intOf i).toNat)
  case atStart => exact ⟨0, .slice none 0 0, by omega, rfl, Lib.hid ⟨HBK.out, own_nil _ _ _ _, X2.out⟩⟩
  case round =>
    obtain ⟨k, v, hk, rfl, HI⟩ := hrel
    by_cases hlt : k < n
    · have hlt' : k < l.length := by rw [HN.out]; exact hlt
      obtain ⟨gb, go, x, rfl, hgb, hx, x0⟩ := (H.out.ext (X1.out.trans HI.out.2.2)).at_ hlt'
      have HX := Lib.hid hx
      have ki0 : (0 : Int) ≤ (k : Int) := by omega
      have ki1 : (k : Int) < (n : Int) := by omega
      clear hx hlt'
      go_wp2_with fail
      refine region_tb (by kernel_rfl) (by decide +kernel) (nuE (w.heap.size + 1) (.int .i64 x)) ⟨rfl, rfl, rfl⟩ 10 nuD nuC (nuR (w.heap.size + 1) (w.heap.size + 2) tag v k ((l.take k).map leafI) (leafI x) (.int .i64 x)) W1 HI.out.2.2 (fun i h1 h2 => by
        have h1' : 8 ≤ i := h1
        rcases (show i = 8 ∨ i = 9 by omega) with rfl | rfl
        · exact HI.out.1
        · exact own_ext HI.out.2.1 ((Ext.refl _).drew)) ?_ ?_
      · intro T dd l' U wz i o hE ho hl hd hT
        obtain ⟨t5, t7, tz⟩ := hE
        match i, ho, hl, hd with
        | 0, ho, hl, hd =>
          obtain rfl := Option.some.inj ho
          have v0 := eval_old (d := dd) (hT.out 5 (by decide)) (by omega) t5
          refine tb_pure (v := .pointer (some ⟨w.heap.size + 1, 4, none⟩)) hT ho hd rfl rfl (by decide) (by decide) ?_ rfl
          generalize Act.eval ⟨over T U, dd⟩ = ev at *
          simp [execOp, go_sem, v0]
        | 1, ho, hl, hd =>
          obtain rfl := Option.some.inj ho
          have f0 : U 16 = some (.pointer (some ⟨w.heap.size + 1, 4, none⟩)) := hT.facts 0 (by decide) (dep hd 0 (by kernel_rfl)) (fun c e => by cases e)
          have v0 : Act.eval ⟨over T U, dd⟩ (.tmp 16) = _ := eval_new (t := T) (d := dd) f0 (by show 16 < T.size; omega)
          have l7 : l' 7 = false := by
            cases h7 : l' 7 with
            | false => rfl
            | true =>
              have h5 := dep (hT.shut 7 _ rfl h7) 5 (by kernel_rfl)
              have h1 := dep (hT.shut 5 _ rfl h5) 1 (by kernel_rfl)
              rw [hl] at h1; cases h1
          have hblk : wz.heap[w.heap.size + 1]? = some (.cells #[.int .i64 tag, .int .i64 3, .int .i64 0, .string ⟨#[]⟩, v] 34 (0, 0)) := hT.facts 8 (by decide) (hT.past 8 (Nat.le_refl 8)) (fun c e => by injection e with e; subst e; exact l7)
          have hc : wz.cell? ⟨w.heap.size + 1, 4, none⟩ = some v := by rw [cell_of_row _ _ 4 _ _ _ hblk]; rfl
          refine tb_pure (v := v) hT ho hd rfl rfl (by decide) (by decide) ?_ rfl
          generalize Act.eval ⟨over T U, dd⟩ = ev at *
          simp [execOp, go_sem, v0, hc]
        | 2, ho, hl, hd =>
          obtain rfl := Option.some.inj ho
          have v0 := eval_old (d := dd) (hT.out 7 (by decide)) (by omega) t7
          refine tb_pure (v := .int .i64 x) hT ho hd rfl rfl (by decide) (by decide) ?_ rfl
          generalize Act.eval ⟨over T U, dd⟩ = ev at *
          simp [execOp, go_sem, v0]
        | 3, ho, hl, hd =>
          obtain rfl := Option.some.inj ho
          have f0 : U 18 = some (.int .i64 x) := hT.facts 2 (by decide) (dep hd 2 (by kernel_rfl)) (fun c e => by cases e)
          have v0 : Act.eval ⟨over T U, dd⟩ (.tmp 18) = _ := eval_new (t := T) (d := dd) f0 (by show 18 < T.size; omega)
          have vc : Act.eval ⟨over T U, dd⟩ (.const (.int .i64 0)) = .int .i64 0 := rfl
          refine tb_call (f := 37) (args := #[.int .i64 0, .int .i64 x]) (nuR_ext (w.heap.size + 1) (w.heap.size + 2) tag v k ((l.take k).map leafI) (leafI x) (.int .i64 x)) hT ho hd rfl rfl (by decide) (by decide) (exec_call2 rfl rfl vc v0 EN.out) ?_
          refine (rnumber_any 0 x wz).mono ?_
          rintro e w' ⟨rfl, hb⟩
          exact ⟨_, rfl, hb, rfl⟩
        | 4, ho, hl, hd =>
          obtain rfl := Option.some.inj ho
          have f0 : U 19 = some (.agg (leafC (leafI x)).toArray) := hT.facts 3 (by decide) (dep hd 3 (by kernel_rfl)) (fun c e => by cases e)
          have v0 : Act.eval ⟨over T U, dd⟩ (.tmp 19) = _ := eval_new (t := T) (d := dd) f0 (by show 19 < T.size; omega)
          refine tb_ext (v := .slice (some ⟨wz.heap.size, 0, none⟩) 1 1) (w' := wz.alloc (.cells (leafC (leafI x)).toArray 34)) (nuR_ext (w.heap.size + 1) (w.heap.size + 2) tag v k ((l.take k).map leafI) (leafI x) (.int .i64 x)) hT ho hd rfl rfl (by decide) (by decide) ?_ ((Ext.refl _).alloc _) ⟨wz.heap.size, rfl, sl_one5 _ _ _⟩
          have v0' : Act.eval ⟨over T U, dd⟩ (.tmp 19) = .agg #[.int .i64 0, .int .i64 1, .int .i64 x, .string ⟨#[]⟩, .slice none 0 0] := v0
          generalize Act.eval ⟨over T U, dd⟩ = ev at *
          simp [execOp, v0', go_sem, leafC, ndc, leafI, Nd.tag, Nd.kind, Nd.n, Nd.s, Nd.kids]
        | 5, ho, hl, hd =>
          obtain rfl := Option.some.inj ho
          have f1 : U 17 = some (v) := hT.facts 1 (by decide) (dep hd 1 (by kernel_rfl)) (fun c e => by cases e)
          have v1 : Act.eval ⟨over T U, dd⟩ (.tmp 17) = _ := eval_new (t := T) (d := dd) f1 (by show 17 < T.size; omega)
          obtain ⟨q, f2, hs2⟩ : ∃ q, U 20 = some (.slice (some ⟨q, 0, none⟩) 1 1) ∧ Sl wz 5 (some ⟨q, 0, none⟩) ([leafI x].map leafC) := hT.facts 4 (by decide) (dep hd 4 (by kernel_rfl)) (fun c e => by injection e with e; subst e; exact hl)
          have v2 : Act.eval ⟨over T U, dd⟩ (.tmp 20) = _ := eval_new (t := T) (d := dd) f2 (by show 20 < T.size; omega)
          have f9 : wz.ownsRow (w.heap.size + 2) 34 5 v k (((l.take k).map leafI).map leafC).flatten := hT.facts 9 (by decide) (hT.past 9 (by decide)) (fun c e => by injection e with e; subst e; exact hl)
          have l7 : l' 7 = false := by
            cases h7 : l' 7 with
            | false => rfl
            | true =>
              have h5 := dep (hT.shut 7 _ rfl h7) 5 (by kernel_rfl)
              rw [hl] at h5; cases h5
          have hblk : wz.heap[w.heap.size + 1]? = some (.cells #[.int .i64 tag, .int .i64 3, .int .i64 0, .string ⟨#[]⟩, v] 34 (0, 0)) := hT.facts 8 (by decide) (hT.past 8 (Nat.le_refl 8)) (fun c e => by injection e with e; subst e; exact l7)
          have hlt0 : w.heap.size + 1 < wz.heap.size := by
            rcases Nat.lt_or_ge (w.heap.size + 1) wz.heap.size with g | g
            · exact g
            · rw [Array.getElem?_eq_none g] at hblk; cases hblk
          obtain ⟨v', w', hrun, hown, hgr, -⟩ := run_append_sl (P := Tryz.prog) wz (w.heap.size + 2) 32 32 34 i0 (.agg #[.int .i64 0, .int .i64 0, .int .i64 0, .string ⟨#[]⟩, .slice none 0 0]) 5 64 Tryz.underlying32 hi0 hz0 hz1 hz2 rfl (by decide) v k _ f9 (some ⟨q, 0, none⟩) 1 ([leafI x].map leafC) hs2 (leafC_len _).1 (leafC_len _).2 (by show k + 1 ≤ maxLen; unfold maxLen; omega) (by show (k + 1) * 64 ≤ _; omega) (by omega)
          rw [leaf_flat] at hown
          refine tb_yield (v := v') (w' := w') hT ho hd rfl rfl (by decide) (by decide) (exec_append rfl v1 v2 hrun) (hT.ext.grown hgr (fun q hq => Nat.le_trans (by rw [HS1.out]; omega) (own_ge f9 q hq))) ⟨v', rfl, hown⟩ ?_
          intro j hj hji hlj hcj hR
          match j, hj, hR with
          | 0, _, hR => exact hR
          | 1, _, hR => exact hR
          | 2, _, hR => exact hR
          | 3, _, hR => exact hR
          | 4, _, _ => exact absurd rfl (hcj 5 rfl).1
          | 5, _, _ => exact absurd rfl hji
          | 6, _, hR => exact hR
          | 7, _, _ => exact absurd (dep (hT.shut 7 _ rfl hlj) 5 (by kernel_rfl)) (by rw [hl]; decide)
          | 8, _, hR =>
            exact (hgr.block _ hlt0 (own_ne f9 (Nat.lt_succ_self _))).trans hR
          | 9, _, _ => exact absurd rfl (hcj 5 rfl).1
          | j + 10, hj, _ => exact absurd hj (by omega)
        | 6, ho, hl, hd =>
          obtain rfl := Option.some.inj ho
          have v0 := eval_old (d := dd) (hT.out 5 (by decide)) (by omega) t5
          refine tb_pure (v := .pointer (some ⟨w.heap.size + 1, 4, none⟩)) hT ho hd rfl rfl (by decide) (by decide) ?_ rfl
          generalize Act.eval ⟨over T U, dd⟩ = ev at *
          simp [execOp, go_sem, v0]
        | 7, ho, hl, hd =>
          obtain rfl := Option.some.inj ho
          obtain ⟨v', f1, hown⟩ : ∃ v', U 21 = some v' ∧ wz.ownsRow (w.heap.size + 2) 34 5 v' (k + 1) (((l.take k).map leafI ++ [leafI x]).map leafC).flatten := hT.facts 5 (by decide) (dep hd 5 (by kernel_rfl)) (fun c e => by injection e with e; subst e; exact hl)
          have v1 : Act.eval ⟨over T U, dd⟩ (.tmp 21) = _ := eval_new (t := T) (d := dd) f1 (by show 21 < T.size; omega)
          have f0 : U 22 = some (.pointer (some ⟨w.heap.size + 1, 4, none⟩)) := hT.facts 6 (by decide) (dep hd 6 (by kernel_rfl)) (fun c e => by cases e)
          have v0 : Act.eval ⟨over T U, dd⟩ (.tmp 22) = _ := eval_new (t := T) (d := dd) f0 (by show 22 < T.size; omega)
          have hblk : wz.heap[w.heap.size + 1]? = some (.cells #[.int .i64 tag, .int .i64 3, .int .i64 0, .string ⟨#[]⟩, v] 34 (0, 0)) := hT.facts 8 (by decide) (hT.past 8 (Nat.le_refl 8)) (fun c e => by injection e with e; subst e; exact hl)
          have hc : wz.cell? ⟨w.heap.size + 1, 4, none⟩ = some v := by rw [cell_of_row _ _ 4 _ _ _ hblk]; rfl
          have hfz := frozen_row hblk 4
          obtain ⟨A', c', rfl⟩ := own_form hown
          refine tb_store (w' := wz.setCell ⟨w.heap.size + 1, 4, none⟩ (.slice A' (k + 1) c')) hT ho hd rfl rfl ?_ (hT.ext.setCell (by rw [HS1.out]; exact Nat.le_refl _) _) ⟨_, heap_set hblk 4 _, own_set hown (Nat.lt_succ_self _) _ _⟩ (fun j hj hji hlj hcj hR => ?_)
          · generalize Act.eval ⟨over T U, dd⟩ = ev at *
            simp [execOp, v0, v1, go_sem, hc, hfz]
          · match j, hj, hR with
            | 0, _, hR => exact hR
            | 1, _, hR => exact hR
            | 2, _, hR => exact hR
            | 3, _, hR => exact hR
            | 4, _, _ => exact absurd (dep hd 5 (by kernel_rfl)) (by rw [(hcj 5 rfl).2]; decide)
            | 5, _, _ => exact absurd rfl (hcj 7 rfl).1
            | 6, _, hR => exact hR
            | 7, _, _ => exact absurd rfl hji
            | 8, _, _ => exact absurd rfl (hcj 7 rfl).1
            | 9, _, _ => exact absurd (dep hd 5 (by kernel_rfl)) (by rw [(hcj 5 rfl).2]; decide)
            | j + 10, hj, _ => exact absurd hj (by omega)
        | i + 8, ho, _, _ => exact absurd ho (by simp)
      · intro U wx hex hout hfin
        obtain ⟨v', hb, ho⟩ : ∃ v', wx.heap[w.heap.size + 1]? = some (.cells #[.int .i64 tag, .int .i64 3, .int .i64 0, .string ⟨#[]⟩, v'] 34 (0, 0)) ∧ wx.ownsRow (w.heap.size + 2) 34 5 v' (k + 1) (((l.take k).map leafI ++ [leafI x]).map leafC).flatten := hfin 7 (by decide) rfl
        have hnx : (l.take (k + 1)).map leafI = (l.take k).map leafI ++ [leafI x] := by rw [List.take_add_one, HX.out, List.map_append]; rfl
        have HI2 : Hid (wx.heap[w.heap.size + 1]? = some (.cells #[.int .i64 tag, .int .i64 3, .int .i64 0, .string ⟨#[]⟩, v'] 34 (0, 0)) ∧ wx.ownsRow (w.heap.size + 2) 34 5 v' (k + 1) (((l.take (k + 1)).map leafI).map leafC).flatten ∧ Ext W1 wx) := Lib.hid ⟨hb, by rw [hnx]; exact ho, hex⟩
        clear hb ho hex hfin hnx
        rw [over_list]
        simp (disch := decide) only [overL, Nat.reduceAdd, hout, Option.getD_none]
        clear hout
        go_wp2
        go_roundw
        case rel => exact ⟨k + 1, v', by omega, by go_num, HI2⟩
        case measure => simp [intOf]; omega
    · obtain rfl : k = n := by omega
      have hlt3 : (l.map leafI) = ((l.take k).map leafI) := by rw [← HN.out, List.take_length]
      obtain ⟨h1, h2, h3⟩ := HI.out
      obtain ⟨A', c', rfl, hk⟩ := kids_own (B := 1000) (lo := w.heap.size + 1) h2 (by rw [List.length_map, List.length_take, HN.out]; omega) (fun x hx => by obtain ⟨y, _, rfl⟩ := List.mem_map.1 hx; rfl) (by omega) (by omega)
      rw [← hlt3] at hk
      have H1 := Lib.hid h1
      have HK := Lib.hid hk
      have HX3 := Lib.hid h3
      have HBR3 : Hid (wr.heap[w.heap.size]? = some (.cells #[.int .i64 0, .int .i64 0, .int .i64 0, .string ⟨#[]⟩, .slice none 0 0] 34 (0, 0))) := Lib.hid (h3.blockAt HBR.out)
      have HLN : Hid ((l.map leafI).length = k) := Lib.hid (by rw [List.length_map]; exact HN.out)
      clear h1 h2 h3 hk hlt3 HI
      go_wp2_with (first
        | refine wpList_load_row rfl _ _ rfl (w.heap.size + 1) rfl _ #[.int .i64 tag, .int .i64 3, .int .i64 0, .string ⟨#[]⟩, .slice A' k c'] _ _ H1.out Tryz.underlying34 rfl (by kernel_rfl) ?_
        | refine wpList_store_row rfl _ _ _ rfl w.heap.size #[.int .i64 tag, .int .i64 3, .int .i64 0, .string ⟨#[]⟩, .slice A' k c'] rfl rfl _ #[.int .i64 0, .int .i64 0, .int .i64 0, .string ⟨#[]⟩, .slice none 0 0] HBR3.out (by kernel_rfl) rfl (by simp [Value.oneCell']) ?_)
      have HRS := setRow_at (cs' := #[.int .i64 tag, .int .i64 3, .int .i64 0, .string ⟨#[]⟩, .slice A' k c']) HBR3.out
      refine bodyPost_ret (v := .agg #[.int .i64 tag, .int .i64 3, .int .i64 0, .string ⟨#[]⟩, .slice A' k c']) (results_cell_row Tryz.results40 _ _ w.heap.size _ _ _ _ rfl HRS Tryz.underlying34 rfl (by kernel_rfl)) rfl ?_
      refine ⟨⟨(A', c'), ?_, ?_⟩, (X1.out.trans HX3.out).setRow (Nat.le_refl _) _⟩
      · show _ = Ending.returned (.agg #[.int .i64 tag, .int .i64 3, .int .i64 0, .string ⟨#[]⟩, .slice A' (l.map leafI).length c'])
        rw [HLN.out]
      · exact (HK.out.setRow (Nat.lt_succ_self _) _).lower (Nat.le_succ _)
set_option maxRecDepth 100000 in
set_option maxHeartbeats 12800000 in
theorem rstrings_any (tag : Int) (A : Option Addr) (c : Nat) (l : List ByteArray) (w : World) (h : SlS w A l) (hl : l.length ≤ 1000) :
    Calls Tryz.prog 39 #[.int .i64 tag, .slice A l.length c] w fun e w' => RetNd 1000 w.heap.size 1 (.mk tag 3 0 ⟨#[]⟩ (l.map leafS)) e w' ∧ Ext w w' := by
  have H := Lib.hid h
  clear h
  obtain ⟨n, hn⟩ : ∃ n, l.length = n := ⟨_, rfl⟩
  rw [hn] at hl ⊢
  have HN := Lib.hid hn
  clear hn
  obtain ⟨i0, hi0, hz0, hz1, hz2⟩ := info_parts Tryz.infoNd5
  have EN := Lib.hid (enters_of Tryz.func38 (by kernel_rfl) rfl)
  obtain ⟨B2, hB2⟩ : ∃ W, (((w.alloc (.cells #[.int .i64 0, .int .i64 0, .int .i64 0, .string ⟨#[]⟩, .slice none 0 0] 34)).alloc (.cells #[.int .i64 0, .int .i64 0, .int .i64 0, .string ⟨#[]⟩, .slice none 0 0] 34)).setRow (w.heap.size + 1) #[.int .i64 tag, .int .i64 3, .int .i64 0, .string ⟨#[]⟩, .slice none 0 0]) = W := ⟨_, rfl⟩
  obtain ⟨W1, hW1⟩ : ∃ W, w.alloc (.cells #[.int .i64 0, .int .i64 0, .int .i64 0, .string ⟨#[]⟩, .slice none 0 0] 34) = W := ⟨_, rfl⟩
  have HS1 : Hid (W1.heap.size = w.heap.size + 1) := Lib.hid (by rw [← hW1]; simp)
  have HBK : Hid (B2.heap[w.heap.size + 1]? = some (.cells #[.int .i64 tag, .int .i64 3, .int .i64 0, .string ⟨#[]⟩, .slice none 0 0] 34 (0, 0))) := Lib.hid (by rw [← hB2]; exact setRow_at (heap_two_snd _ _ _))
  have HBR : Hid (W1.heap[w.heap.size]? = some (.cells #[.int .i64 0, .int .i64 0, .int .i64 0, .string ⟨#[]⟩, .slice none 0 0] 34 (0, 0))) := Lib.hid (by rw [← hW1]; exact heap_alloc_new _ _)
  have X1 : Hid (Ext w W1) := Lib.hid (by rw [← hW1]; exact (Ext.refl _).alloc _)
  have X2 : Hid (Ext W1 B2) := Lib.hid (by rw [← hB2, hW1]; exact ((Ext.refl _).alloc _).setRow (by rw [HS1.out]; exact Nat.le_refl _) _)
  have HE2 := Lib.hid hB2
  clear hB2 hW1
  go_enter Tryz.func39, Tryz.ntmps39
  go_wp2_with (refine wpList_store_row rfl _ _ _ rfl (w.heap.size + 1) #[.int .i64 tag, .int .i64 3, .int .i64 0, .string ⟨#[]⟩, .slice none 0 0] rfl rfl _ #[.int .i64 0, .int .i64 0, .int .i64 0, .string ⟨#[]⟩, .slice none 0 0] (heap_two_snd _ _ _) (by kernel_rfl) rfl (by simp [Value.oneCell']) ?_; rw [HE2.out])
  go_loopw [12] (fun i wr => ∃ (k : Nat) (v : Value), k ≤ n ∧ i = .int .i64 k ∧ Hid (wr.heap[w.heap.size + 1]? = some (.cells #[.int .i64 tag, .int .i64 3, .int .i64 0, .string ⟨#[]⟩, v] 34 (0, 0)) ∧ wr.ownsRow (w.heap.size + 2) 34 5 v k (((l.take k).map leafS).map leafC).flatten ∧ Ext W1 wr)) (fun i _ => n - (intOf i).toNat)
  case atStart => exact ⟨0, .slice none 0 0, by omega, rfl, Lib.hid ⟨HBK.out, own_nil _ _ _ _, X2.out⟩⟩
  case round =>
    obtain ⟨k, v, hk, rfl, HI⟩ := hrel
    by_cases hlt : k < n
    · have hlt' : k < l.length := by rw [HN.out]; exact hlt
      obtain ⟨gb, go, rfl, hgb, x0⟩ := (H.out.ext (X1.out.trans HI.out.2.2)).at_ hlt'
      obtain ⟨x, hx'⟩ : ∃ x, l[k] = x := ⟨_, rfl⟩
      have hx : l[k]? = some x := by rw [List.getElem?_eq_getElem hlt', hx']
      rw [hx'] at x0
      clear hx'
      have HX := Lib.hid hx
      have ki0 : (0 : Int) ≤ (k : Int) := by omega
      have ki1 : (k : Int) < (n : Int) := by omega
      clear hx hlt'
      go_wp2_with fail
      refine region_tb (by kernel_rfl) (by decide +kernel) (nuE (w.heap.size + 1) (.string x)) ⟨rfl, rfl, rfl⟩ 10 nuD nuC (nuR (w.heap.size + 1) (w.heap.size + 2) tag v k ((l.take k).map leafS) (leafS x) (.string x)) W1 HI.out.2.2 (fun i h1 h2 => by
        have h1' : 8 ≤ i := h1
        rcases (show i = 8 ∨ i = 9 by omega) with rfl | rfl
        · exact HI.out.1
        · exact own_ext HI.out.2.1 ((Ext.refl _).drew)) ?_ ?_
      · intro T dd l' U wz i o hE ho hl hd hT
        obtain ⟨t5, t7, tz⟩ := hE
        match i, ho, hl, hd with
        | 0, ho, hl, hd =>
          obtain rfl := Option.some.inj ho
          have v0 := eval_old (d := dd) (hT.out 5 (by decide)) (by omega) t5
          refine tb_pure (v := .pointer (some ⟨w.heap.size + 1, 4, none⟩)) hT ho hd rfl rfl (by decide) (by decide) ?_ rfl
          generalize Act.eval ⟨over T U, dd⟩ = ev at *
          simp [execOp, go_sem, v0]
        | 1, ho, hl, hd =>
          obtain rfl := Option.some.inj ho
          have f0 : U 16 = some (.pointer (some ⟨w.heap.size + 1, 4, none⟩)) := hT.facts 0 (by decide) (dep hd 0 (by kernel_rfl)) (fun c e => by cases e)
          have v0 : Act.eval ⟨over T U, dd⟩ (.tmp 16) = _ := eval_new (t := T) (d := dd) f0 (by show 16 < T.size; omega)
          have l7 : l' 7 = false := by
            cases h7 : l' 7 with
            | false => rfl
            | true =>
              have h5 := dep (hT.shut 7 _ rfl h7) 5 (by kernel_rfl)
              have h1 := dep (hT.shut 5 _ rfl h5) 1 (by kernel_rfl)
              rw [hl] at h1; cases h1
          have hblk : wz.heap[w.heap.size + 1]? = some (.cells #[.int .i64 tag, .int .i64 3, .int .i64 0, .string ⟨#[]⟩, v] 34 (0, 0)) := hT.facts 8 (by decide) (hT.past 8 (Nat.le_refl 8)) (fun c e => by injection e with e; subst e; exact l7)
          have hc : wz.cell? ⟨w.heap.size + 1, 4, none⟩ = some v := by rw [cell_of_row _ _ 4 _ _ _ hblk]; rfl
          refine tb_pure (v := v) hT ho hd rfl rfl (by decide) (by decide) ?_ rfl
          generalize Act.eval ⟨over T U, dd⟩ = ev at *
          simp [execOp, go_sem, v0, hc]
        | 2, ho, hl, hd =>
          obtain rfl := Option.some.inj ho
          have v0 := eval_old (d := dd) (hT.out 7 (by decide)) (by omega) t7
          refine tb_pure (v := .string x) hT ho hd rfl rfl (by decide) (by decide) ?_ rfl
          generalize Act.eval ⟨over T U, dd⟩ = ev at *
          simp [execOp, go_sem, v0]
        | 3, ho, hl, hd =>
          obtain rfl := Option.some.inj ho
          have f0 : U 18 = some (.string x) := hT.facts 2 (by decide) (dep hd 2 (by kernel_rfl)) (fun c e => by cases e)
          have v0 : Act.eval ⟨over T U, dd⟩ (.tmp 18) = _ := eval_new (t := T) (d := dd) f0 (by show 18 < T.size; omega)
          have vc : Act.eval ⟨over T U, dd⟩ (.const (.int .i64 0)) = .int .i64 0 := rfl
          refine tb_call (f := 38) (args := #[.int .i64 0, .string x]) (nuR_ext (w.heap.size + 1) (w.heap.size + 2) tag v k ((l.take k).map leafS) (leafS x) (.string x)) hT ho hd rfl rfl (by decide) (by decide) (exec_call2 rfl rfl vc v0 EN.out) ?_
          refine (rtext_any 0 x wz).mono ?_
          rintro e w' ⟨rfl, hb⟩
          exact ⟨_, rfl, hb, rfl⟩
        | 4, ho, hl, hd =>
          obtain rfl := Option.some.inj ho
          have f0 : U 19 = some (.agg (leafC (leafS x)).toArray) := hT.facts 3 (by decide) (dep hd 3 (by kernel_rfl)) (fun c e => by cases e)
          have v0 : Act.eval ⟨over T U, dd⟩ (.tmp 19) = _ := eval_new (t := T) (d := dd) f0 (by show 19 < T.size; omega)
          refine tb_ext (v := .slice (some ⟨wz.heap.size, 0, none⟩) 1 1) (w' := wz.alloc (.cells (leafC (leafS x)).toArray 34)) (nuR_ext (w.heap.size + 1) (w.heap.size + 2) tag v k ((l.take k).map leafS) (leafS x) (.string x)) hT ho hd rfl rfl (by decide) (by decide) ?_ ((Ext.refl _).alloc _) ⟨wz.heap.size, rfl, sl_one5 _ _ _⟩
          have v0' : Act.eval ⟨over T U, dd⟩ (.tmp 19) = .agg #[.int .i64 0, .int .i64 2, .int .i64 0, .string x, .slice none 0 0] := v0
          generalize Act.eval ⟨over T U, dd⟩ = ev at *
          simp [execOp, v0', go_sem, leafC, ndc, leafS, Nd.tag, Nd.kind, Nd.n, Nd.s, Nd.kids]
        | 5, ho, hl, hd =>
          obtain rfl := Option.some.inj ho
          have f1 : U 17 = some (v) := hT.facts 1 (by decide) (dep hd 1 (by kernel_rfl)) (fun c e => by cases e)
          have v1 : Act.eval ⟨over T U, dd⟩ (.tmp 17) = _ := eval_new (t := T) (d := dd) f1 (by show 17 < T.size; omega)
          obtain ⟨q, f2, hs2⟩ : ∃ q, U 20 = some (.slice (some ⟨q, 0, none⟩) 1 1) ∧ Sl wz 5 (some ⟨q, 0, none⟩) ([leafS x].map leafC) := hT.facts 4 (by decide) (dep hd 4 (by kernel_rfl)) (fun c e => by injection e with e; subst e; exact hl)
          have v2 : Act.eval ⟨over T U, dd⟩ (.tmp 20) = _ := eval_new (t := T) (d := dd) f2 (by show 20 < T.size; omega)
          have f9 : wz.ownsRow (w.heap.size + 2) 34 5 v k (((l.take k).map leafS).map leafC).flatten := hT.facts 9 (by decide) (hT.past 9 (by decide)) (fun c e => by injection e with e; subst e; exact hl)
          have l7 : l' 7 = false := by
            cases h7 : l' 7 with
            | false => rfl
            | true =>
              have h5 := dep (hT.shut 7 _ rfl h7) 5 (by kernel_rfl)
              rw [hl] at h5; cases h5
          have hblk : wz.heap[w.heap.size + 1]? = some (.cells #[.int .i64 tag, .int .i64 3, .int .i64 0, .string ⟨#[]⟩, v] 34 (0, 0)) := hT.facts 8 (by decide) (hT.past 8 (Nat.le_refl 8)) (fun c e => by injection e with e; subst e; exact l7)
          have hlt0 : w.heap.size + 1 < wz.heap.size := by
            rcases Nat.lt_or_ge (w.heap.size + 1) wz.heap.size with g | g
            · exact g
            · rw [Array.getElem?_eq_none g] at hblk; cases hblk
          obtain ⟨v', w', hrun, hown, hgr, -⟩ := run_append_sl (P := Tryz.prog) wz (w.heap.size + 2) 32 32 34 i0 (.agg #[.int .i64 0, .int .i64 0, .int .i64 0, .string ⟨#[]⟩, .slice none 0 0]) 5 64 Tryz.underlying32 hi0 hz0 hz1 hz2 rfl (by decide) v k _ f9 (some ⟨q, 0, none⟩) 1 ([leafS x].map leafC) hs2 (leafC_len _).1 (leafC_len _).2 (by show k + 1 ≤ maxLen; unfold maxLen; omega) (by show (k + 1) * 64 ≤ _; omega) (by omega)
          rw [leaf_flat] at hown
          refine tb_yield (v := v') (w' := w') hT ho hd rfl rfl (by decide) (by decide) (exec_append rfl v1 v2 hrun) (hT.ext.grown hgr (fun q hq => Nat.le_trans (by rw [HS1.out]; omega) (own_ge f9 q hq))) ⟨v', rfl, hown⟩ ?_
          intro j hj hji hlj hcj hR
          match j, hj, hR with
          | 0, _, hR => exact hR
          | 1, _, hR => exact hR
          | 2, _, hR => exact hR
          | 3, _, hR => exact hR
          | 4, _, _ => exact absurd rfl (hcj 5 rfl).1
          | 5, _, _ => exact absurd rfl hji
          | 6, _, hR => exact hR
          | 7, _, _ => exact absurd (dep (hT.shut 7 _ rfl hlj) 5 (by kernel_rfl)) (by rw [hl]; decide)
          | 8, _, hR =>
            exact (hgr.block _ hlt0 (own_ne f9 (Nat.lt_succ_self _))).trans hR
          | 9, _, _ => exact absurd rfl (hcj 5 rfl).1
          | j + 10, hj, _ => exact absurd hj (by omega)
        | 6, ho, hl, hd =>
          obtain rfl := Option.some.inj ho
          have v0 := eval_old (d := dd) (hT.out 5 (by decide)) (by omega) t5
          refine tb_pure (v := .pointer (some ⟨w.heap.size + 1, 4, none⟩)) hT ho hd rfl rfl (by decide) (by decide) ?_ rfl
          generalize Act.eval ⟨over T U, dd⟩ = ev at *
          simp [execOp, go_sem, v0]
        | 7, ho, hl, hd =>
          obtain rfl := Option.some.inj ho
          obtain ⟨v', f1, hown⟩ : ∃ v', U 21 = some v' ∧ wz.ownsRow (w.heap.size + 2) 34 5 v' (k + 1) (((l.take k).map leafS ++ [leafS x]).map leafC).flatten := hT.facts 5 (by decide) (dep hd 5 (by kernel_rfl)) (fun c e => by injection e with e; subst e; exact hl)
          have v1 : Act.eval ⟨over T U, dd⟩ (.tmp 21) = _ := eval_new (t := T) (d := dd) f1 (by show 21 < T.size; omega)
          have f0 : U 22 = some (.pointer (some ⟨w.heap.size + 1, 4, none⟩)) := hT.facts 6 (by decide) (dep hd 6 (by kernel_rfl)) (fun c e => by cases e)
          have v0 : Act.eval ⟨over T U, dd⟩ (.tmp 22) = _ := eval_new (t := T) (d := dd) f0 (by show 22 < T.size; omega)
          have hblk : wz.heap[w.heap.size + 1]? = some (.cells #[.int .i64 tag, .int .i64 3, .int .i64 0, .string ⟨#[]⟩, v] 34 (0, 0)) := hT.facts 8 (by decide) (hT.past 8 (Nat.le_refl 8)) (fun c e => by injection e with e; subst e; exact hl)
          have hc : wz.cell? ⟨w.heap.size + 1, 4, none⟩ = some v := by rw [cell_of_row _ _ 4 _ _ _ hblk]; rfl
          have hfz := frozen_row hblk 4
          obtain ⟨A', c', rfl⟩ := own_form hown
          refine tb_store (w' := wz.setCell ⟨w.heap.size + 1, 4, none⟩ (.slice A' (k + 1) c')) hT ho hd rfl rfl ?_ (hT.ext.setCell (by rw [HS1.out]; exact Nat.le_refl _) _) ⟨_, heap_set hblk 4 _, own_set hown (Nat.lt_succ_self _) _ _⟩ (fun j hj hji hlj hcj hR => ?_)
          · generalize Act.eval ⟨over T U, dd⟩ = ev at *
            simp [execOp, v0, v1, go_sem, hc, hfz]
          · match j, hj, hR with
            | 0, _, hR => exact hR
            | 1, _, hR => exact hR
            | 2, _, hR => exact hR
            | 3, _, hR => exact hR
            | 4, _, _ => exact absurd (dep hd 5 (by kernel_rfl)) (by rw [(hcj 5 rfl).2]; decide)
            | 5, _, _ => exact absurd rfl (hcj 7 rfl).1
            | 6, _, hR => exact hR
            | 7, _, _ => exact absurd rfl hji
            | 8, _, _ => exact absurd rfl (hcj 7 rfl).1
            | 9, _, _ => exact absurd (dep hd 5 (by kernel_rfl)) (by rw [(hcj 5 rfl).2]; decide)
            | j + 10, hj, _ => exact absurd hj (by omega)
        | i + 8, ho, _, _ => exact absurd ho (by simp)
      · intro U wx hex hout hfin
        obtain ⟨v', hb, ho⟩ : ∃ v', wx.heap[w.heap.size + 1]? = some (.cells #[.int .i64 tag, .int .i64 3, .int .i64 0, .string ⟨#[]⟩, v'] 34 (0, 0)) ∧ wx.ownsRow (w.heap.size + 2) 34 5 v' (k + 1) (((l.take k).map leafS ++ [leafS x]).map leafC).flatten := hfin 7 (by decide) rfl
        have hnx : (l.take (k + 1)).map leafS = (l.take k).map leafS ++ [leafS x] := by rw [List.take_add_one, HX.out, List.map_append]; rfl
        have HI2 : Hid (wx.heap[w.heap.size + 1]? = some (.cells #[.int .i64 tag, .int .i64 3, .int .i64 0, .string ⟨#[]⟩, v'] 34 (0, 0)) ∧ wx.ownsRow (w.heap.size + 2) 34 5 v' (k + 1) (((l.take (k + 1)).map leafS).map leafC).flatten ∧ Ext W1 wx) := Lib.hid ⟨hb, by rw [hnx]; exact ho, hex⟩
        clear hb ho hex hfin hnx
        rw [over_list]
        simp (disch := decide) only [overL, Nat.reduceAdd, hout, Option.getD_none]
        clear hout
        go_wp2
        go_roundw
        case rel => exact ⟨k + 1, v', by omega, by go_num, HI2⟩
        case measure => simp [intOf]; omega
    · obtain rfl : k = n := by omega
      have hlt3 : (l.map leafS) = ((l.take k).map leafS) := by rw [← HN.out, List.take_length]
      obtain ⟨h1, h2, h3⟩ := HI.out
      obtain ⟨A', c', rfl, hk⟩ := kids_own (B := 1000) (lo := w.heap.size + 1) h2 (by rw [List.length_map, List.length_take, HN.out]; omega) (fun x hx => by obtain ⟨y, _, rfl⟩ := List.mem_map.1 hx; rfl) (by omega) (by omega)
      rw [← hlt3] at hk
      have H1 := Lib.hid h1
      have HK := Lib.hid hk
      have HX3 := Lib.hid h3
      have HBR3 : Hid (wr.heap[w.heap.size]? = some (.cells #[.int .i64 0, .int .i64 0, .int .i64 0, .string ⟨#[]⟩, .slice none 0 0] 34 (0, 0))) := Lib.hid (h3.blockAt HBR.out)
      have HLN : Hid ((l.map leafS).length = k) := Lib.hid (by rw [List.length_map]; exact HN.out)
      clear h1 h2 h3 hk hlt3 HI
      go_wp2_with (first
        | refine wpList_load_row rfl _ _ rfl (w.heap.size + 1) rfl _ #[.int .i64 tag, .int .i64 3, .int .i64 0, .string ⟨#[]⟩, .slice A' k c'] _ _ H1.out Tryz.underlying34 rfl (by kernel_rfl) ?_
        | refine wpList_store_row rfl _ _ _ rfl w.heap.size #[.int .i64 tag, .int .i64 3, .int .i64 0, .string ⟨#[]⟩, .slice A' k c'] rfl rfl _ #[.int .i64 0, .int .i64 0, .int .i64 0, .string ⟨#[]⟩, .slice none 0 0] HBR3.out (by kernel_rfl) rfl (by simp [Value.oneCell']) ?_)
      have HRS := setRow_at (cs' := #[.int .i64 tag, .int .i64 3, .int .i64 0, .string ⟨#[]⟩, .slice A' k c']) HBR3.out
      refine bodyPost_ret (v := .agg #[.int .i64 tag, .int .i64 3, .int .i64 0, .string ⟨#[]⟩, .slice A' k c']) (results_cell_row Tryz.results39 _ _ w.heap.size _ _ _ _ rfl HRS Tryz.underlying34 rfl (by kernel_rfl)) rfl ?_
      refine ⟨⟨(A', c'), ?_, ?_⟩, (X1.out.trans HX3.out).setRow (Nat.le_refl _) _⟩
      · show _ = Ending.returned (.agg #[.int .i64 tag, .int .i64 3, .int .i64 0, .string ⟨#[]⟩, .slice A' (l.map leafS).length c'])
        rw [HLN.out]
      · exact (HK.out.setRow (Nat.lt_succ_self _) _).lower (Nat.le_succ _)
end Go.Proofs.YtdaccamiipknmaaGreatDoor
