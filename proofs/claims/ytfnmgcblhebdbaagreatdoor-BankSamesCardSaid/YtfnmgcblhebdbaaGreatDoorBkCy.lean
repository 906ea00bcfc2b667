/- The reference's copy of a bank: a contract. Conditions: those of each theorem. -/
import Derived.Test.YtfnmgcblhebdbaaGreatDoorBkCg
namespace Go.Proofs.YtfnmgcblhebdbaaGreatDoor
open Go.RowKit
namespace Bk
/-- What each operation of the region leaves. -/
def rbkL (n0 np nq : Nat) (now : Int) (bb : BankL) : List (Option Value → World → Prop) := [fun u _ => u = some (.pointer (some ⟨n0, 0, none⟩)),
  fun u _ => u = some (.int .i64 now),
  fun u _ => u = some (.pointer (some ⟨n0, 1, none⟩)),
  fun u _ => u = some (.agg #[.slice bb.gp.A np bb.gp.c, .slice bb.gq.A nq bb.gq.c]),
  fun u w => ∃ W : (Option Addr × Nat) × (Option Addr × Nat), u = some (.agg #[.slice W.1.1 np W.1.2, .slice W.2.1 nq W.2.2]) ∧ Got eI w n0 W.1.1 bb.gp.xs W.1.2 ∧ Got eI w n0 W.2.1 bb.gq.xs W.2.2,
  fun u w => ∃ W : (Option Addr × Nat) × (Option Addr × Nat), u = some (.agg #[.int .i64 now, .slice W.1.1 np W.1.2, .slice W.2.1 nq W.2.2, .slice none 0 0, .slice none 0 0, .slice none 0 0, .slice none 0 0]) ∧ Got eI w n0 W.1.1 bb.gp.xs W.1.2 ∧ Got eI w n0 W.2.1 bb.gq.xs W.2.2,
  fun u w => ∃ g : Nat, u = some (.pointer (some ⟨g, 0, none⟩)) ∧ n0 + 1 + 1 ≤ g ∧ w.heap[g]? = some (.cells #[.int .i64 0, .slice none 0 0, .slice none 0 0, .slice none 0 0, .slice none 0 0, .slice none 0 0, .slice none 0 0] 31 (0, 0)),
  fun u w => ∃ V : Nat × (Option Addr × Nat) × (Option Addr × Nat), u = some (.pointer (some ⟨V.1, 0, none⟩)) ∧ n0 + 1 + 1 ≤ V.1 ∧ w.heap[V.1]? = some (.cells #[.int .i64 now, .slice V.2.1.1 np V.2.1.2, .slice V.2.2.1 nq V.2.2.2, .slice none 0 0, .slice none 0 0, .slice none 0 0, .slice none 0 0] 31 (0, 0)) ∧ Got eI w n0 V.2.1.1 bb.gp.xs V.2.1.2 ∧ Got eI w n0 V.2.2.1 bb.gq.xs V.2.2.2]
theorem rbkL_mono (n0 np nq : Nat) (now : Int) (bb : BankL) : AllMono (rbkL n0 np nq now bb) := ⟨mono_val _, mono_val _, mono_val _, mono_val _, (fun _ _ _ he h => h.elim fun W h => ⟨W, h.1, h.2.1.ext he, h.2.2.ext he⟩), (fun _ _ _ he h => h.elim fun W h => ⟨W, h.1, h.2.1.ext he, h.2.2.ext he⟩), (fun _ _ _ he h => h.elim fun W h => ⟨W, h.1, h.2.1, he.blockAt h.2.2⟩), (fun _ _ _ he h => h.elim fun W h => ⟨W, h.1, h.2.1, he.blockAt h.2.2.1, h.2.2.2.1.ext he, h.2.2.2.2.ext he⟩), trivial⟩
def rbkR (n0 np nq : Nat) (now : Int) (bb : BankL) (j : Nat) (u : Option Value) (w : World) : Prop := (rbkL n0 np nq now bb).getD j (fun _ _ => True) u w
theorem rbkR_ext (n0 np nq : Nat) (now : Int) (bb : BankL) (j : Nat) (u : Option Value) (w w' : World) (he : Ext w w') (hR : rbkR n0 np nq now bb j u w) : rbkR n0 np nq now bb j u w' := ((rbkL_mono n0 np nq now bb).at_ j) u w w' he hR
def rbkD : List Nat := [5, 6, 7, 8, 9, 10, 3, 3]
def rbkC (j : Nat) : Option Nat := if j = 4 then some 5 else if j = 5 then some 7 else if j = 6 then some 7 else none
def rbkE (n0 : Nat) (t : Array Value) : Prop := t.getD 1 undef = .pointer (some ⟨n0, 0, none⟩) ∧ t.size = 45

/-- What each operation of the region leaves. -/
def rceL (g n0 N k kk cr bb off nv vc : Nat) (Ar : Option Addr) (ys : List EntL) (CI CK : Array Value) (it : Ent) (K : Kp) : List (Option Value → World → Prop) := [fun u _ => u = some (.pointer (some ⟨g, 5, none⟩)),
  fun u _ => u = some (.slice Ar k cr),
  fun u _ => u = some (.pointer (some ⟨n0, 5, none⟩)),
  fun u _ => u = some (.slice (some ⟨bb, off, none⟩) nv vc),
  fun u _ => u = some (.int .i64 (kk : Int)),
  fun u _ => u = some (.pointer (some ⟨bb, off + kk * 7, none⟩)),
  fun u _ => u = some (.agg CI),
  fun u w => PNew eEnt (N) (fun y : EntL => y.ent = it) (EntL.agg) u w,
  fun u w => POne eEnt (N) (fun y : EntL => y.ent = it) u w,
  fun u w => PApp eEnt (fun y : EntL => y.ent = it) 56 (g + 1) ys (g) (CK) 31 (K) u w,
  fun u _ => u = some (.pointer (some ⟨g, 5, none⟩)),
  fun _ w => PSto eEnt (fun y : EntL => y.ent = it) 56 (g + 1) ys (g) 5 (CK) 31 (K) w,
  fun _ w => PRow eEnt 56 (N) (g + 1) (.slice Ar k cr) ys (g) (CK) 31 (K) (Kp.none) w]
theorem rceL_mono (g n0 N k kk cr bb off nv vc : Nat) (Ar : Option Addr) (ys : List EntL) (CI CK : Array Value) (it : Ent) (K : Kp) : AllMono (rceL g n0 N k kk cr bb off nv vc Ar ys CI CK it K) := ⟨mono_val _, mono_val _, mono_val _, mono_val _, mono_val _, mono_val _, mono_val _, (fun _ _ _ he h => PNew.mono he h), (fun _ _ _ he h => POne.mono he h), (fun _ _ _ he h => PApp.mono he h), mono_val _, (fun _ _ _ he h => PSto.mono he h), (fun _ _ _ he h => PRow.mono he h), trivial⟩
def rceR (g n0 N k kk cr bb off nv vc : Nat) (Ar : Option Addr) (ys : List EntL) (CI CK : Array Value) (it : Ent) (K : Kp) (j : Nat) (u : Option Value) (w : World) : Prop := (rceL g n0 N k kk cr bb off nv vc Ar ys CI CK it K).getD j (fun _ _ => True) u w
theorem rceR_ext (g n0 N k kk cr bb off nv vc : Nat) (Ar : Option Addr) (ys : List EntL) (CI CK : Array Value) (it : Ent) (K : Kp) (j : Nat) (u : Option Value) (w w' : World) (he : Ext w w') (hR : rceR g n0 N k kk cr bb off nv vc Ar ys CI CK it K j u w) : rceR g n0 N k kk cr bb off nv vc Ar ys CI CK it K j u w' := ((rceL_mono g n0 N k kk cr bb off nv vc Ar ys CI CK it K).at_ j) u w w' he hR
def rceD : List Nat := [33, 34, 35, 36, 37, 38, 39, 40, 41, 42, 43, 900, 901]
def rceC (j : Nat) : Option Nat := if j = 7 then some 8 else if j = 8 then some 9 else if j = 9 then some 11 else if j = 12 then some 9 else none
def rceE (g n0 kk : Nat) (t : Array Value) : Prop := t.getD 1 undef = .pointer (some ⟨n0, 0, none⟩) ∧ t.getD 3 undef = .pointer (some ⟨g, 0, none⟩) ∧ t.getD 4 undef = .int .i64 (kk : Int) ∧ t.size = 45

/-- A copy of a bank. -/
def RetCy (b : BankL) (e : Ending) (w' : World) : Prop := ∃ b' : BankL, e = .returned b'.agg ∧ b'.bank = b.bank ∧ b'.In w'
set_option maxRecDepth 100000 in
set_option maxHeartbeats 25600000 in
theorem rCopy_any (b : BankL) (w : World) (h : b.In w) (hz : BankSz b.bank) :
    Calls Tryz.prog 25 #[b.agg] w fun e w' => RetCy b e w' ∧ Ext w w' := by
  obtain ⟨CBK, hcb, hnb, h1b, hkb⟩ := b.packed
  rw [hcb]
  obtain ⟨B, hB⟩ : ∃ B, (w.alloc (.cells CBK 31)).alloc (.cells #[.int .i64 0, .slice none 0 0, .slice none 0 0, .slice none 0 0, .slice none 0 0, .slice none 0 0, .slice none 0 0] 31) = B := ⟨_, rfl⟩
  have HBX : Hid (Ext w B) := Lib.hid (by rw [← hB]; exact ((Ext.refl _).alloc _).alloc _)
  have HBS : Hid (B.heap.size = w.heap.size + 1 + 1) := Lib.hid (by rw [← hB]; simp)
  have HBA : Hid (B.heap[w.heap.size]? = some (.cells CBK 31 (0, 0))) := Lib.hid (by rw [← hB]; exact two_fst' _ _ _)
  have HBZ : Hid (B.heap[w.heap.size + 1]? = some (.cells #[.int .i64 0, .slice none 0 0, .slice none 0 0, .slice none 0 0, .slice none 0 0, .slice none 0 0, .slice none 0 0] 31 (0, 0))) := Lib.hid (by rw [← hB]; exact heap_new_at _ _ _ (by simp))
  have HBH := Lib.hid hB
  have H := Lib.hid h
  obtain ⟨np, hnp⟩ : ∃ n, b.gp.xs.length = n := ⟨_, rfl⟩
  obtain ⟨nq, hnq⟩ : ∃ n, b.gq.xs.length = n := ⟨_, rfl⟩
  obtain ⟨no, hno⟩ : ∃ n, b.outl.length = n := ⟨_, rfl⟩
  obtain ⟨ns, hns⟩ : ∃ n, b.assets.length = n := ⟨_, rfl⟩
  obtain ⟨ne, hne⟩ : ∃ n, b.enem.length = n := ⟨_, rfl⟩
  obtain ⟨nv, hnv⟩ : ∃ n, b.ents.length = n := ⟨_, rfl⟩
  have HNP := Lib.hid hnp
  have HNQ := Lib.hid hnq
  have HNO := Lib.hid hno
  have HNS := Lib.hid hns
  have HNE := Lib.hid hne
  have HNV := Lib.hid hnv
  have hz1 : np * 8 ≤ 140737488355328 := by rw [← hnp]; exact hz.pts
  have hz2 : nq * 8 ≤ 140737488355328 := by rw [← hnq]; exact hz.prior
  have hz3 : no * 32 ≤ 140737488355328 := by rw [← hno]; exact hz.outl
  have hz4 : ns * 48 ≤ 140737488355328 := by rw [← hns]; exact hz.assets
  have hz5 : ne * 16 ≤ 140737488355328 := by rw [← hne]; exact hz.enem
  have HZV : Hid (nv * 136 ≤ 140737488355328) := Lib.hid (by have := hz.ents; unfold BankL.bank at this; simp only [List.length_map, hnv] at this; exact this)
  have HZI : Hid (∀ x ∈ b.ents, EntSz x.ent) := Lib.hid (fun x hx => hz.ent x.ent (List.mem_map.2 ⟨x, hx, rfl⟩))
  have CN0 : Hid (B.cell? ⟨w.heap.size, 0, none⟩ = some (.int .i64 b.now)) := Lib.hid ((cell_of_row _ _ 0 _ _ _ HBA.out).trans (by rw [← hkb]; rfl))
  obtain ⟨VA, hVA⟩ : ∃ A, b.eA = A := ⟨_, rfl⟩
  have J5 : Hid (CBK[5]? = some (.slice VA nv b.ec)) := Lib.hid (by rw [← hkb, ← hnv, ← hVA]; rfl)
  have HVS : Hid (SlX eEnt B VA b.ents) := Lib.hid (by rw [← hVA]; exact h.ents.ext HBX.out)
  have HRG : Hid (B.rangeAt w.heap.size 1 (#[.slice b.gp.A np b.gp.c, .slice b.gq.A nq b.gq.c] : Array Value).toList) := Lib.hid (fun j v hv => by
    rw [cell_of_row _ _ (1 + j) _ _ _ HBA.out, ← hkb]
    rw [← hnp, ← hnq] at hv
    match j, hv with
    | 0, hv => exact hv
    | 1, hv => exact hv
    | j + 2, hv => simp at hv)
  have IGR : Hid ((Tryz.prog.info? 24).map (·.size) = some (#[.slice b.gp.A np b.gp.c, .slice b.gq.A nq b.gq.c] : Array Value).size) := Lib.hid (infoGr rfl)
  have IB7 : Hid ((Tryz.prog.info? 31).map (·.size) = some 7) := Lib.hid ((infoBk hnb).trans (by rw [hnb]))
  have EN1 := Lib.hid (enters_of Tryz.func53 (by kernel_rfl) rfl)
  have EN2 := Lib.hid (enters_of Tryz.func42 (by kernel_rfl) rfl)
  have JO : Hid (CBK[3]? = some (.slice b.oA no b.oc)) := Lib.hid (by rw [← hkb, ← hno]; rfl)
  have JS : Hid (CBK[4]? = some (.slice b.aA ns b.ac)) := Lib.hid (by rw [← hkb, ← hns]; rfl)
  have JE : Hid (CBK[6]? = some (.slice b.nA ne b.nc)) := Lib.hid (by rw [← hkb, ← hne]; rfl)
  have hzo : no ≤ maxLen := by unfold maxLen; omega
  have hzs : ns ≤ maxLen := by unfold maxLen; omega
  have hze : ne ≤ maxLen := by unfold maxLen; omega
  clear hB h hz hnp hnq hno hns hne hnv hVA hcb h1b
  go_enter Tryz.func25, Tryz.ntmps25
  go_wp2_with fail
  refine region_tb (by kernel_rfl) (by decide +kernel) (rbkE w.heap.size) ⟨rfl, rfl⟩ 8 rbkD rbkC (rbkR w.heap.size np nq b.now b) B (by rw [HBH.out]; exact Ext.refl _) (fun i h1 h2 => absurd h2 (Nat.not_lt.2 h1)) ?_ ?_
  · intro Tv dd lv U wz i o hE ho hlv hd hT
    obtain ⟨t1, tz⟩ := hE
    have hx := hT.ext
    match i, ho, hlv, hd with
    | 0, ho, hlv, hd =>
      obtain rfl := Option.some.inj ho
      have v0 := eval_old (d := dd) (hT.out 1 (by decide)) (by omega) t1
      refine tbw_yield (v := .pointer (some ⟨w.heap.size, 0, none⟩)) (rbkR_ext w.heap.size np nq b.now b) hT ho hd (wanted_plain rfl) rfl (by decide) (by decide) ?_ (Ext.refl _) rfl
      generalize Act.eval ⟨over Tv U, dd⟩ = ev at *
      simp [execOp, go_sem, v0]
    | 1, ho, hlv, hd =>
      obtain rfl := Option.some.inj ho
      have f0 : U 5 = some (.pointer (some ⟨w.heap.size, 0, none⟩)) := hT.facts 0 (by decide) (dep hd 0 (by kernel_rfl)) (fun c e => by cases e)
      have v0 : Act.eval ⟨over Tv U, dd⟩ (.tmp 5) = _ := eval_new (t := Tv) (d := dd) f0 (by show 5 < Tv.size; omega)
      have hc := hx.keep CN0.out
      refine tbw_yield (v := .int .i64 b.now) (rbkR_ext w.heap.size np nq b.now b) hT ho hd (wanted_plain rfl) rfl (by decide) (by decide) ?_ (Ext.refl _) rfl
      generalize Act.eval ⟨over Tv U, dd⟩ = ev at *
      simp [execOp, go_sem, v0, hc]
    | 2, ho, hlv, hd =>
      obtain rfl := Option.some.inj ho
      have v0 := eval_old (d := dd) (hT.out 1 (by decide)) (by omega) t1
      refine tbw_yield (v := .pointer (some ⟨w.heap.size, 1, none⟩)) (rbkR_ext w.heap.size np nq b.now b) hT ho hd (wanted_plain rfl) rfl (by decide) (by decide) ?_ (Ext.refl _) rfl
      generalize Act.eval ⟨over Tv U, dd⟩ = ev at *
      simp [execOp, go_sem, v0]
    | 3, ho, hlv, hd =>
      obtain rfl := Option.some.inj ho
      have f0 : U 7 = some (.pointer (some ⟨w.heap.size, 1, none⟩)) := hT.facts 2 (by decide) (dep hd 2 (by kernel_rfl)) (fun c e => by cases e)
      have v0 : Act.eval ⟨over Tv U, dd⟩ (.tmp 7) = _ := eval_new (t := Tv) (d := dd) f0 (by show 7 < Tv.size; omega)
      refine tbw_yield (v := .agg #[.slice b.gp.A np b.gp.c, .slice b.gq.A nq b.gq.c]) (rbkR_ext w.heap.size np nq b.now b) hT ho hd (wanted_plain rfl) rfl (by decide) (by decide) (exec_load_arr _ _ rfl w.heap.size (1) v0 #[.slice b.gp.A np b.gp.c, .slice b.gq.A nq b.gq.c] _ (hx.range HRG.out) Tryz.underlying24 rfl IGR.out) (Ext.refl _) rfl
    | 4, ho, hlv, hd =>
      obtain rfl := Option.some.inj ho
      have f0 : U 8 = some (.agg #[.slice b.gp.A np b.gp.c, .slice b.gq.A nq b.gq.c]) := hT.facts 3 (by decide) (dep hd 3 (by kernel_rfl)) (fun c e => by cases e)
      have v0 : Act.eval ⟨over Tv U, dd⟩ (.tmp 8) = _ := eval_new (t := Tv) (d := dd) f0 (by show 8 < Tv.size; omega)
      refine tbw_call (f := 53) (args := #[.agg #[.slice b.gp.A np b.gp.c, .slice b.gq.A nq b.gq.c]]) (rbkR_ext w.heap.size np nq b.now b) hT ho hd (wanted_plain rfl) rfl (by decide) (by decide) (exec_call1 rfl rfl v0 EN1.out) ?_
      refine (rGrid_any b.gp b.gq HNP.out HNQ.out wz ((H.out.ext HBX.out).gp.ext hx) ((H.out.ext HBX.out).gq.ext hx) hz1 hz2).mono ?_
      rintro e w' ⟨⟨A, D, c, d, rfl, h1, h2⟩, hb⟩
      have hle : w.heap.size ≤ wz.heap.size := Nat.le_trans (by rw [HBS.out]; omega) hx.size
      exact ⟨_, rfl, hb, ((A, c), (D, d)), rfl, h1.low hle, h2.low hle⟩
    | 5, ho, hlv, hd =>
      obtain rfl := Option.some.inj ho
      have f6 : U 6 = some (.int .i64 b.now) := hT.facts 1 (by decide) (dep hd 1 (by kernel_rfl)) (fun c e => by cases e)
      have v6 : Act.eval ⟨over Tv U, dd⟩ (.tmp 6) = _ := eval_new (t := Tv) (d := dd) f6 (by show 6 < Tv.size; omega)
      obtain ⟨W1, e9, h1, h2⟩ : ∃ W : (Option Addr × Nat) × (Option Addr × Nat), U 9 = some (.agg #[.slice W.1.1 np W.1.2, .slice W.2.1 nq W.2.2]) ∧ Got eI wz w.heap.size W.1.1 b.gp.xs W.1.2 ∧ Got eI wz w.heap.size W.2.1 b.gq.xs W.2.2 := hT.facts 4 (by decide) (dep hd 4 (by kernel_rfl)) (fun c e => by injection e with e; subst e; exact hlv)
      have v9 : Act.eval ⟨over Tv U, dd⟩ (.tmp 9) = _ := eval_new (t := Tv) (d := dd) e9 (by show 9 < Tv.size; omega)
      refine tbw_yield (v := .agg #[.int .i64 b.now, .slice W1.1.1 np W1.1.2, .slice W1.2.1 nq W1.2.2, .slice none 0 0, .slice none 0 0, .slice none 0 0, .slice none 0 0]) (rbkR_ext w.heap.size np nq b.now b) hT ho hd (wanted_plain rfl) rfl (by decide) (by decide) (exec_buildL 31 _ rfl [(0, .int .i64 b.now), (1, .agg #[.slice W1.1.1 np W1.1.2, .slice W1.2.1 nq W1.2.2])] (by simp [v6, v9]) _ (by kernel_rfl)) (Ext.refl _) ⟨W1, rfl, h1, h2⟩
    | 6, ho, hlv, hd =>
      obtain rfl := Option.some.inj ho
      refine tb_extW (v := .pointer (some ⟨wz.heap.size, 0, none⟩)) (w' := wz.alloc (.cells #[.int .i64 0, .slice none 0 0, .slice none 0 0, .slice none 0 0, .slice none 0 0, .slice none 0 0, .slice none 0 0] 31)) (rbkR_ext w.heap.size np nq b.now b) hT ho hd rfl rfl (by decide) ?_ ?_ ((Ext.refl _).alloc _) ⟨wz.heap.size, rfl, by have := hx.size; rw [HBS.out] at this; exact this, heap_alloc_new _ _⟩
      · intro j hj hji hlj
        match j, hj, hlj with
        | 0, _, _ => decide
        | 1, _, _ => decide
        | 2, _, _ => decide
        | 3, _, _ => decide
        | 4, _, _ => decide
        | 5, _, _ => decide
        | 6, _, _ => exact absurd rfl hji
        | 7, _, hlj => exact absurd (dep (hT.shut 7 _ rfl hlj) 6 (by kernel_rfl)) (by rw [hlv]; decide)
        | j + 8, hj, _ => exact absurd hj (by omega)
      · generalize Act.eval ⟨over Tv U, dd⟩ = ev at *
        simp [execOp, go_sem]
    | 7, ho, hlv, hd =>
      obtain rfl := Option.some.inj ho
      obtain ⟨W, e10, h1, h2⟩ : ∃ W : (Option Addr × Nat) × (Option Addr × Nat), U 10 = some (.agg #[.int .i64 b.now, .slice W.1.1 np W.1.2, .slice W.2.1 nq W.2.2, .slice none 0 0, .slice none 0 0, .slice none 0 0, .slice none 0 0]) ∧ Got eI wz w.heap.size W.1.1 b.gp.xs W.1.2 ∧ Got eI wz w.heap.size W.2.1 b.gq.xs W.2.2 := hT.facts 5 (by decide) (dep hd 5 (by kernel_rfl)) (fun c e => by injection e with e; subst e; exact hlv)
      have v10 : Act.eval ⟨over Tv U, dd⟩ (.tmp 10) = _ := eval_new (t := Tv) (d := dd) e10 (by show 10 < Tv.size; omega)
      obtain ⟨g, e0, hg, hblk⟩ : ∃ g : Nat, U 3 = some (.pointer (some ⟨g, 0, none⟩)) ∧ w.heap.size + 1 + 1 ≤ g ∧ wz.heap[g]? = some (.cells #[.int .i64 0, .slice none 0 0, .slice none 0 0, .slice none 0 0, .slice none 0 0, .slice none 0 0, .slice none 0 0] 31 (0, 0)) := hT.facts 6 (by decide) (dep hd 6 (by kernel_rfl)) (fun c e => by injection e with e; subst e; exact hlv)
      have v0 : Act.eval ⟨over Tv U, dd⟩ (.tmp 3) = _ := eval_new (t := Tv) (d := dd) e0 (by show 3 < Tv.size; omega)
      have hb9 := But.setRow g wz #[.int .i64 b.now, .slice W.1.1 np W.1.2, .slice W.2.1 nq W.2.2, .slice none 0 0, .slice none 0 0, .slice none 0 0, .slice none 0 0]
      refine tb_store (w' := wz.setRow g #[.int .i64 b.now, .slice W.1.1 np W.1.2, .slice W.2.1 nq W.2.2, .slice none 0 0, .slice none 0 0, .slice none 0 0, .slice none 0 0]) hT ho hd rfl rfl (exec_store_row 31 (.tmp 3) (.tmp 10) rfl g _ v0 v10 31 _ hblk IB7.out rfl (by simp [Value.oneCell'])) (hx.rowSet (by rw [HBS.out]; exact hg) _) ⟨(g, W), e0, hg, setRow_heap _ _ _ _ _ _ hblk, h1.keepT hblk (by decide) (fun _ _ => trivial) hb9, h2.keepT hblk (by decide) (fun _ _ => trivial) hb9⟩ ?_
      intro j hj hji hlj hcj hR
      match j, hj, hR with
      | 0, _, hR => exact hR
      | 1, _, hR => exact hR
      | 2, _, hR => exact hR
      | 3, _, hR => exact hR
      | 4, _, _ => exact absurd (dep hd 5 (by kernel_rfl)) (by rw [(hcj 5 rfl).2]; decide)
      | 5, _, _ => exact absurd rfl (hcj 7 rfl).1
      | 6, _, _ => exact absurd rfl (hcj 7 rfl).1
      | 7, _, _ => exact absurd rfl hji
      | j + 8, hj, _ => exact absurd hj (by omega)
    | i + 8, ho, _, _ => exact absurd ho (by simp)
  intro U wz hex hout hfin
  obtain ⟨W3, f3, hW3⟩ := hfin 7 (by decide) rfl
  change U 3 = _ at f3
  have XE := Lib.hid hex
  clear hex hfin
  rw [over_list]
  simp (disch := decide) only [overL, Nat.reduceAdd, hout, Option.getD_none]
  rw [f3]
  simp only [Option.getD_some]
  clear hout f3
  obtain ⟨g, P0, Q0⟩ := W3
  obtain ⟨hg, hblk, h1, h2⟩ := hW3
  dsimp only at hg hblk h1 h2 ⊢
  obtain ⟨C0, hca⟩ : ∃ C, (#[.int .i64 b.now, .slice P0.1 np P0.2, .slice Q0.1 nq Q0.2, .slice none 0 0, .slice none 0 0, .slice none 0 0, .slice none 0 0] : Array Value) = C := ⟨_, rfl⟩
  rw [hca] at hblk
  have HCA0 := Lib.hid hca
  have HC_0 := Lib.hid hblk
  have X_0 := XE
  have GP_0 := Lib.hid h1
  have GQ_0 := Lib.hid h2
  have HGE := Lib.hid hg
  have HBG : Hid (B.heap.size ≤ g) := Lib.hid (by rw [HBS.out]; exact hg)
  clear hblk h1 h2 hca XE hnb hkb HRG IGR hg
  obtain ⟨i0, hi0, hz0', hs0, hb0⟩ := info_parts infoTpc
  obtain ⟨i1, hi1, hz1', hs1, hb1⟩ := info_parts infoAst
  obtain ⟨i2, hi2, hz2', hs2, hb2⟩ := info_parts infoPar
  have cf0 : (wz.alloc (.cells #[] 41)).cell? ⟨w.heap.size, 3, none⟩ = some (.slice b.oA no b.oc) := Ext.keep ((Ext.refl _).alloc _) ((cell_of_row _ _ 3 _ _ _ (X_0.out.blockAt HBA.out)).trans JO.out)
  have SL0 : Hid (SlX eTpc (wz.alloc (.cells #[] 41)) b.oA b.outl) := Lib.hid ((H.out.outl.ext (HBX.out.trans X_0.out)).ext ((Ext.refl _).alloc _))
  go_wp2_with (first
  | (at_builtin; refine wpList_appE (E := eTpc) rfl _ _ 26 rfl 41 i0 (.agg #[.string ⟨#[]⟩, .string ⟨#[]⟩]) 32 rfl Tryz.underlying26 hi0 hz0' hs0 hb0 rfl (fun _ _ => trivial) (wz.heap.size) (by simp) rfl b.oA b.oc no b.outl HNO.out rfl SL0.out (fun x hx _ => SL0.out.ins x hx) hzo hz3 ?_
     intro A1 c1 u1 hg hb
     have hcb := hb.blockAt HC_0.out
     have kf : u1.cell? ⟨g, 3, none⟩ = some (.slice none 0 0) := (cell_of_row _ _ 3 _ _ _ hcb).trans (by rw [← HCA0.out]; rfl)
     have ff := frozen_of_row _ _ 3 _ _ hcb
     have hbk := But.setCell u1 ⟨g, 3, none⟩ (.slice A1 no c1)
     have HC_1 : Hid ((u1.setCell ⟨g, 3, none⟩ (.slice A1 no c1)).heap[g]? = some (.cells (C0.setIfInBounds 3 (.slice A1 no c1)) 31 (0, 0))) := Lib.hid (heap_setCell_same _ _ _ _ _ _ hcb)
     have X_1 : Hid (Ext B (u1.setCell ⟨g, 3, none⟩ (.slice A1 no c1))) := Lib.hid ((X_0.out.trans hb).setCell HBG.out _)
     have hle : w.heap.size ≤ wz.heap.size := Nat.le_trans (by rw [HBS.out]; omega) X_0.out.size
     have GO_1 := Lib.hid ((hg.low hle).keepT hcb (by decide) (fun _ _ => trivial) hbk)
     have GP_1 := Lib.hid ((GP_0.out.ext hb).keepT hcb (by decide) (fun _ _ => trivial) hbk)
     have GQ_1 := Lib.hid ((GQ_0.out.ext hb).keepT hcb (by decide) (fun _ _ => trivial) hbk)
     have cf1 : ((u1.setCell ⟨g, 3, none⟩ (.slice A1 no c1)).alloc (.cells #[] 43)).cell? ⟨w.heap.size, 4, none⟩ = some (.slice b.aA ns b.ac) := Ext.keep ((Ext.refl _).alloc _) ((cell_of_row _ _ 4 _ _ _ (X_1.out.blockAt HBA.out)).trans JS.out)
     have SL1 : Hid (SlX eAst ((u1.setCell ⟨g, 3, none⟩ (.slice A1 no c1)).alloc (.cells #[] 43)) b.aA b.assets) := Lib.hid ((H.out.assets.ext (HBX.out.trans X_1.out)).ext ((Ext.refl _).alloc _))
     clear hg hb hcb hbk hle cf0)
  | (at_builtin; refine wpList_appE (E := eAst) rfl _ _ 27 rfl 43 i1 (.agg #[.int .i64 0, .int .i64 0, .string ⟨#[]⟩, .int .i64 0, .int .i64 0]) 48 rfl Tryz.underlying27 hi1 hz1' hs1 hb1 rfl (fun _ _ => trivial) (u1.heap.size) (by simp) rfl b.aA b.ac ns b.assets HNS.out rfl SL1.out (fun x hx _ => SL1.out.ins x hx) hzs hz4 ?_
     intro A2 c2 u2 hg hb
     have hcb := hb.blockAt HC_1.out
     have kf : u2.cell? ⟨g, 4, none⟩ = some (.slice none 0 0) := (cell_of_row _ _ 4 _ _ _ hcb).trans (by rw [← HCA0.out]; rfl)
     have ff := frozen_of_row _ _ 4 _ _ hcb
     have hbk := But.setCell u2 ⟨g, 4, none⟩ (.slice A2 ns c2)
     have HC_2 : Hid ((u2.setCell ⟨g, 4, none⟩ (.slice A2 ns c2)).heap[g]? = some (.cells ((C0.setIfInBounds 3 (.slice A1 no c1)).setIfInBounds 4 (.slice A2 ns c2)) 31 (0, 0))) := Lib.hid (heap_setCell_same _ _ _ _ _ _ hcb)
     have X_2 : Hid (Ext B (u2.setCell ⟨g, 4, none⟩ (.slice A2 ns c2))) := Lib.hid ((X_1.out.trans hb).setCell HBG.out _)
     have hle : w.heap.size ≤ (u1.setCell ⟨g, 3, none⟩ (.slice A1 no c1)).heap.size := Nat.le_trans (by rw [HBS.out]; omega) X_1.out.size
     have GS_2 := Lib.hid ((hg.low hle).keepT hcb (by decide) (fun _ _ => trivial) hbk)
     have GP_2 := Lib.hid ((GP_1.out.ext hb).keepT hcb (by decide) (fun _ _ => trivial) hbk)
     have GQ_2 := Lib.hid ((GQ_1.out.ext hb).keepT hcb (by decide) (fun _ _ => trivial) hbk)
     have GO_2 := Lib.hid ((GO_1.out.ext hb).keepT hcb (by decide) (fun _ _ => trivial) hbk)
     have cf2 : ((u2.setCell ⟨g, 4, none⟩ (.slice A2 ns c2)).alloc (.cells #[] 80)).cell? ⟨w.heap.size, 6, none⟩ = some (.slice b.nA ne b.nc) := Ext.keep ((Ext.refl _).alloc _) ((cell_of_row _ _ 6 _ _ _ (X_2.out.blockAt HBA.out)).trans JE.out)
     have SL2 : Hid (SlX ePar ((u2.setCell ⟨g, 4, none⟩ (.slice A2 ns c2)).alloc (.cells #[] 80)) b.nA b.enem) := Lib.hid ((H.out.enem.ext (HBX.out.trans X_2.out)).ext ((Ext.refl _).alloc _))
     clear hg hb hcb hbk hle cf1)
  | (at_builtin; refine wpList_appE (E := ePar) rfl _ _ 29 rfl 80 i2 (.agg #[.int .i64 0, .int .i64 0]) 16 rfl Tryz.underlying29 hi2 hz2' hs2 hb2 rfl (fun _ _ => trivial) (u2.heap.size) (by simp) rfl b.nA b.nc ne b.enem HNE.out rfl SL2.out (fun x hx _ => SL2.out.ins x hx) hze hz5 ?_
     intro A3 c3 u3 hg hb
     have hcb := hb.blockAt HC_2.out
     have kf : u3.cell? ⟨g, 6, none⟩ = some (.slice none 0 0) := (cell_of_row _ _ 6 _ _ _ hcb).trans (by rw [← HCA0.out]; rfl)
     have ff := frozen_of_row _ _ 6 _ _ hcb
     have hbk := But.setCell u3 ⟨g, 6, none⟩ (.slice A3 ne c3)
     have HC_3 : Hid ((u3.setCell ⟨g, 6, none⟩ (.slice A3 ne c3)).heap[g]? = some (.cells (((C0.setIfInBounds 3 (.slice A1 no c1)).setIfInBounds 4 (.slice A2 ns c2)).setIfInBounds 6 (.slice A3 ne c3)) 31 (0, 0))) := Lib.hid (heap_setCell_same _ _ _ _ _ _ hcb)
     have X_3 : Hid (Ext B (u3.setCell ⟨g, 6, none⟩ (.slice A3 ne c3))) := Lib.hid ((X_2.out.trans hb).setCell HBG.out _)
     have hle : w.heap.size ≤ (u2.setCell ⟨g, 4, none⟩ (.slice A2 ns c2)).heap.size := Nat.le_trans (by rw [HBS.out]; omega) X_2.out.size
     have GE_3 := Lib.hid ((hg.low hle).keepT hcb (by decide) (fun _ _ => trivial) hbk)
     have GP_3 := Lib.hid ((GP_2.out.ext hb).keepT hcb (by decide) (fun _ _ => trivial) hbk)
     have GQ_3 := Lib.hid ((GQ_2.out.ext hb).keepT hcb (by decide) (fun _ _ => trivial) hbk)
     have GO_3 := Lib.hid ((GO_2.out.ext hb).keepT hcb (by decide) (fun _ _ => trivial) hbk)
     have GS_3 := Lib.hid ((GS_2.out.ext hb).keepT hcb (by decide) (fun _ _ => trivial) hbk)
     clear hg hb hcb hbk hle cf2))
  obtain ⟨O0, hO1, hO2⟩ : ∃ O : Option Addr × Nat, O.1 = A1 ∧ O.2 = c1 := ⟨(A1, c1), rfl, rfl⟩
  obtain ⟨S0, hS1, hS2⟩ : ∃ O : Option Addr × Nat, O.1 = A2 ∧ O.2 = c2 := ⟨(A2, c2), rfl, rfl⟩
  obtain ⟨E0, hE1, hE2⟩ : ∃ O : Option Addr × Nat, O.1 = A3 ∧ O.2 = c3 := ⟨(A3, c3), rfl, rfl⟩
  subst hO1 hO2 hS1 hS2 hE1 hE2
  have HK0 := Lib.hid (KBk.mk GP_3.out GQ_3.out GO_3.out GS_3.out GE_3.out ⟨GP_3.out.ty.off HC_3.out (by decide), fun _ _ => trivial⟩ ⟨GQ_3.out.ty.off HC_3.out (by decide), fun _ _ => trivial⟩ ⟨GO_3.out.ty.off HC_3.out (by decide), fun _ _ => trivial⟩ ⟨GS_3.out.ty.off HC_3.out (by decide), fun _ _ => trivial⟩ ⟨GE_3.out.ty.off HC_3.out (by decide), fun _ _ => trivial⟩)
  obtain ⟨C3, hc3⟩ : ∃ C, (((C0.setIfInBounds 3 (.slice O0.1 no O0.2)).setIfInBounds 4 (.slice S0.1 ns S0.2)).setIfInBounds 6 (.slice E0.1 ne E0.2)) = C := ⟨_, rfl⟩
  have HC3 := HC_3
  rw [hc3] at HC3
  have HCA3 : Hid ((#[.int .i64 b.now, .slice P0.1 np P0.2, .slice Q0.1 nq Q0.2, .slice O0.1 no O0.2, .slice S0.1 ns S0.2, .slice none 0 0, .slice E0.1 ne E0.2] : Array Value) = C3) := Lib.hid (by rw [← hc3, ← HCA0.out]; rfl)
  have HB3 := X_3
  have hv63 : nv ≤ 9223372036854775807 := by have := HZV.out; omega
  have HSZ : Hid (C3.size = 7) := Lib.hid (by rw [← HCA3.out]; rfl)
  have HS0 : Hid (C3[5]? = some (.slice none 0 0)) := Lib.hid (by rw [← HCA3.out]; rfl)
  clear hc3 HC_0 HC_1 HC_2 HC_3 X_0 X_1 X_2 X_3 GP_0 GQ_0 GP_1 GQ_1 GO_1 GP_2 GQ_2 GO_2 GS_2 GP_3 GQ_3 GO_3 GS_3 GE_3 SL0 SL1 SL2 hzo hzs hze hz1 hz2 hz3 hz4 hz5 HCA0 hi0 hz0' hs0 hb0 hi1 hz1' hs1 hb1 hi2 hz2' hs2 hb2
  obtain ⟨iI, hi, hz, hs, hb⟩ := info_parts infoEnt
  go_loopw [4] (fun i wr => ∃ (k : Nat) (ys : List EntL) (Ar : Option Addr) (cr : Nat), k ≤ nv ∧ i = .int .i64 k ∧ Hid (ents ys = ents (b.ents.take k)) ∧ Hid (ys.length = k) ∧ Hid (RowX eEnt 56 wr (g + 1) (.slice Ar k cr) ys) ∧ Hid (∀ y ∈ ys, eEnt.From (g + 1) y) ∧ Hid (wr.heap[g]? = some (.cells (C3.setIfInBounds 5 (.slice Ar k cr)) 31 (0, 0))) ∧ Hid (Ext B wr) ∧ Hid (KBk b w.heap.size g P0 Q0 O0 S0 E0 wr)) (fun i _ => nv - (intOf i).toNat)
  case atStart => exact ⟨0, [], none, 0, by omega, rfl, Lib.hid rfl, Lib.hid rfl, Lib.hid (RowX.nil _ _ _), Lib.hid (fun y hy => by simp at hy), Lib.hid (by rw [set_self HS0.out]; exact HC3.out), HB3, HK0⟩
  case round =>
    obtain ⟨k, ys, Ar, cr, hk, rfl, HY, HYL, HROW, HYF, HG, HXB, HK⟩ := hrel
    have ca : B.cell? ⟨w.heap.size, 5, none⟩ = some (.slice VA nv b.ec) := (cell_of_row _ _ 5 _ _ _ HBA.out).trans J5.out
    have ca1 := HXB.out.keep ca
    have HCA := Lib.hid ca
    clear ca
    by_cases hlt : k < nv
    · obtain ⟨x, hx⟩ : ∃ x, b.ents[k]? = some x := ⟨b.ents[k]'(by rw [HNV.out]; exact hlt), List.getElem?_eq_getElem _⟩
      obtain ⟨bb, off, rfl, hbl, hc, hin⟩ := HVS.out.at_ hx
      obtain ⟨CI, hci, hni, h1i, hki⟩ := x.packed
      have HC : Hid (B.rangeAt bb (off + k * 7) CI.toList) := Lib.hid (by rw [← hki]; exact hc)
      have II := Lib.hid (infoEn hni)
      have HIN : Hid (x.In B) := Lib.hid hin
      have HX := Lib.hid hx
      have HCI := Lib.hid (fun w h => rentry_any x w h (HZI.out x (List.mem_of_getElem? hx)))
      rw [hci] at HCI
      have ki0 : (0 : Int) ≤ (k : Int) := by omega
      have ki1 : (k : Int) < (nv : Int) := by omega
      have KI := Lib.hid (And.intro ki0 ki1)
      clear hx hc hin hci hni h1i hki
      have HCO : Hid ((C3.setIfInBounds 5 (.slice Ar k cr))[5]? = some (.slice Ar k cr)) := Lib.hid (by rw [Array.getElem?_setIfInBounds, if_pos rfl, if_pos (by rw [HSZ.out]; omega)])
      have HOB : Hid (∀ q, (Value.slice Ar k cr).ownBlock = some q → q < wr.heap.size) := Lib.hid (fun q hq => own_lt HROW.out.own q hq)
      have HBN : Hid (g + 1 ≤ wr.heap.size) := Lib.hid (blk_lt HG.out)
      have HBB : Hid (B.heap.size ≤ g + 1) := Lib.hid (Nat.le_succ_of_le HBG.out)
      have HGB : Hid (g < g + 1) := Lib.hid (Nat.lt_succ_self _)
      have HLM : Hid (ys.length + 1 ≤ maxLen) := Lib.hid (by rw [HYL.out]; unfold maxLen; omega)
      have HLB : Hid ((ys.length + 1) * 136 ≤ 140737488355328) := Lib.hid (by rw [HYL.out]; have := HZV.out; omega)
      have HFR := HYF
      have HKO : Hid (∀ (u1 u2 : World) (q : Nat) (cur : Array Value) (fr : Nat × Nat), u1.heap[q]? = some (.cells cur 56 fr) → But q u1 u2 → (KBk.kp b w.heap.size g P0 Q0 O0 S0 E0).K u1 → (KBk.kp b w.heap.size g P0 Q0 O0 S0 E0).K u2) := Lib.hid (fun w w' q cur fr h1 h2 h3 => KBk.kt h1 (by decide) (by decide) (by decide) (by decide) h2 h3)
      have HKG : Hid (∀ (u1 u2 : World), But g u1 u2 → (KBk.kp b w.heap.size g P0 Q0 O0 S0 E0).K u1 → (KBk.kp b w.heap.size g P0 Q0 O0 S0 E0).K u2) := Lib.hid (fun w w' h1 h2 => KBk.kg w w' h1 h2)
      have HROW0 : Hid (PRow eEnt 56 wr.heap.size (g + 1) (.slice Ar k cr) ys g (C3.setIfInBounds 5 (.slice Ar k cr)) 31 (KBk.kp b w.heap.size g P0 Q0 O0 S0 E0) Kp.none wr) := Lib.hid ⟨HROW.out, HG.out, Nat.le_refl _, HK.out, trivial⟩
      go_wp2_with fail
      refine region_tb (by kernel_rfl) (by decide +kernel) (rceE g w.heap.size k) ⟨rfl, rfl, rfl, rfl⟩ 13 rceD rceC (rceR g w.heap.size wr.heap.size k k cr bb off nv b.ec Ar ys CI ((C3.setIfInBounds 5 (.slice Ar k cr))) x.ent ((KBk.kp b w.heap.size g P0 Q0 O0 S0 E0))) B HXB.out (fun i h1 h2 => by
      have h3 : 12 ≤ i := h1
      have h4 : i < 13 := h2
      obtain rfl : i = 12 := by omega
      exact PRow.mono ((Ext.refl _).drew) HROW0.out) ?_ ?_
      · intro Tv dd lv U wz i o hE ho hlv hd hT
        obtain ⟨t1, t3, t4, tz⟩ := hE
        have hx := hT.ext
        match i, ho, hlv, hd with
        | 0, ho, hlv, hd =>
          obtain rfl := Option.some.inj ho
          have v0 := eval_old (d := dd) (hT.out 3 (by decide)) (by omega) t3
          refine tbw_yield (v := .pointer (some ⟨g, 5, none⟩)) (rceR_ext g w.heap.size wr.heap.size k k cr bb off nv b.ec Ar ys CI ((C3.setIfInBounds 5 (.slice Ar k cr))) x.ent ((KBk.kp b w.heap.size g P0 Q0 O0 S0 E0))) hT ho hd (wanted_plain rfl) rfl (by decide) (by decide) ?_ (Ext.refl _) rfl
          generalize Act.eval ⟨over Tv U, dd⟩ = ev at *
          simp [execOp, go_sem, v0]
        | 1, ho, hlv, hd =>
          obtain rfl := Option.some.inj ho
          have f0 : U 33 = some (.pointer (some ⟨g, 5, none⟩)) := hT.facts 0 (by decide) (dep hd 0 (by kernel_rfl)) (fun c e => by cases e)
          have v0 : Act.eval ⟨over Tv U, dd⟩ (.tmp 33) = _ := eval_new (t := Tv) (d := dd) f0 (by show 33 < Tv.size; omega)
          have hnA : lv 9 = false := by
            cases hA : lv 9 with
            | false => rfl
            | true => exact absurd (dep (hT.shut 9 _ rfl hA) 1 (by kernel_rfl)) (by rw [hlv]; decide)
          have hrow : PRow eEnt 56 (wr.heap.size) (g + 1) (.slice Ar k cr) ys (g) ((C3.setIfInBounds 5 (.slice Ar k cr))) 31 ((KBk.kp b w.heap.size g P0 Q0 O0 S0 E0)) (Kp.none) wz := hT.facts 12 (by decide) (hT.past 12 (by decide)) (fun c e => by injection e with e; subst e; exact hnA)
          have hc := (cell_of_row _ _ 5 _ _ _ hrow.2.1).trans HCO.out
          refine tbw_yield (v := .slice Ar k cr) (rceR_ext g w.heap.size wr.heap.size k k cr bb off nv b.ec Ar ys CI ((C3.setIfInBounds 5 (.slice Ar k cr))) x.ent ((KBk.kp b w.heap.size g P0 Q0 O0 S0 E0))) hT ho hd (wanted_plain rfl) rfl (by decide) (by decide) ?_ (Ext.refl _) rfl
          generalize Act.eval ⟨over Tv U, dd⟩ = ev at *
          simp [execOp, go_sem, v0, hc]
        | 2, ho, hlv, hd =>
          obtain rfl := Option.some.inj ho
          have v0 := eval_old (d := dd) (hT.out 1 (by decide)) (by omega) t1
          refine tbw_yield (v := .pointer (some ⟨w.heap.size, 5, none⟩)) (rceR_ext g w.heap.size wr.heap.size k k cr bb off nv b.ec Ar ys CI ((C3.setIfInBounds 5 (.slice Ar k cr))) x.ent ((KBk.kp b w.heap.size g P0 Q0 O0 S0 E0))) hT ho hd (wanted_plain rfl) rfl (by decide) (by decide) ?_ (Ext.refl _) rfl
          generalize Act.eval ⟨over Tv U, dd⟩ = ev at *
          simp [execOp, go_sem, v0]
        | 3, ho, hlv, hd =>
          obtain rfl := Option.some.inj ho
          have f0 : U 35 = some (.pointer (some ⟨w.heap.size, 5, none⟩)) := hT.facts 2 (by decide) (dep hd 2 (by kernel_rfl)) (fun c e => by cases e)
          have v0 : Act.eval ⟨over Tv U, dd⟩ (.tmp 35) = _ := eval_new (t := Tv) (d := dd) f0 (by show 35 < Tv.size; omega)
          have hc := hx.keep HCA.out
          refine tbw_yield (v := .slice (some ⟨bb, off, none⟩) nv b.ec) (rceR_ext g w.heap.size wr.heap.size k k cr bb off nv b.ec Ar ys CI ((C3.setIfInBounds 5 (.slice Ar k cr))) x.ent ((KBk.kp b w.heap.size g P0 Q0 O0 S0 E0))) hT ho hd (wanted_plain rfl) rfl (by decide) (by decide) ?_ (Ext.refl _) rfl
          generalize Act.eval ⟨over Tv U, dd⟩ = ev at *
          simp [execOp, go_sem, v0, hc]
        | 4, ho, hlv, hd =>
          obtain rfl := Option.some.inj ho
          have v0 := eval_old (d := dd) (hT.out 4 (by decide)) (by omega) t4
          refine tbw_yield (v := .int .i64 (k : Int)) (rceR_ext g w.heap.size wr.heap.size k k cr bb off nv b.ec Ar ys CI ((C3.setIfInBounds 5 (.slice Ar k cr))) x.ent ((KBk.kp b w.heap.size g P0 Q0 O0 S0 E0))) hT ho hd (wanted_plain rfl) rfl (by decide) (by decide) ?_ (Ext.refl _) rfl
          generalize Act.eval ⟨over Tv U, dd⟩ = ev at *
          simp [execOp, go_sem, v0]
        | 5, ho, hlv, hd =>
          obtain rfl := Option.some.inj ho
          have f0 : U 36 = some (.slice (some ⟨bb, off, none⟩) nv b.ec) := hT.facts 3 (by decide) (dep hd 3 (by kernel_rfl)) (fun c e => by cases e)
          have v0 : Act.eval ⟨over Tv U, dd⟩ (.tmp 36) = _ := eval_new (t := Tv) (d := dd) f0 (by show 36 < Tv.size; omega)
          have f1 : U 37 = some (.int .i64 (k : Int)) := hT.facts 4 (by decide) (dep hd 4 (by kernel_rfl)) (fun c e => by cases e)
          have v1 : Act.eval ⟨over Tv U, dd⟩ (.tmp 37) = _ := eval_new (t := Tv) (d := dd) f1 (by show 37 < Tv.size; omega)
          have ki := KI.out
          refine tbw_yield (v := .pointer (some ⟨bb, off + k * 7, none⟩)) (rceR_ext g w.heap.size wr.heap.size k k cr bb off nv b.ec Ar ys CI ((C3.setIfInBounds 5 (.slice Ar k cr))) x.ent ((KBk.kp b w.heap.size g P0 Q0 O0 S0 E0))) hT ho hd (wanted_plain rfl) rfl (by decide) (by decide) ?_ (Ext.refl _) rfl
          generalize Act.eval ⟨over Tv U, dd⟩ = ev at *
          simp [execOp, go_sem, v0, v1, ki]
        | 6, ho, hlv, hd =>
          obtain rfl := Option.some.inj ho
          have f0 : U 38 = some (.pointer (some ⟨bb, off + k * 7, none⟩)) := hT.facts 5 (by decide) (dep hd 5 (by kernel_rfl)) (fun c e => by cases e)
          have v0 : Act.eval ⟨over Tv U, dd⟩ (.tmp 38) = _ := eval_new (t := Tv) (d := dd) f0 (by show 38 < Tv.size; omega)
          refine tbw_yield (v := .agg CI) (rceR_ext g w.heap.size wr.heap.size k k cr bb off nv b.ec Ar ys CI ((C3.setIfInBounds 5 (.slice Ar k cr))) x.ent ((KBk.kp b w.heap.size g P0 Q0 O0 S0 E0))) hT ho hd (wanted_plain rfl) rfl (by decide) (by decide) (exec_load_arr _ _ rfl bb (off + k * 7) v0 CI _ (hx.range HC.out) Tryz.underlying56 rfl II.out) (Ext.refl _) rfl
        | 7, ho, hlv, hd =>
          obtain rfl := Option.some.inj ho
          have f0 : U 39 = some (.agg CI) := hT.facts 6 (by decide) (dep hd 6 (by kernel_rfl)) (fun c e => by cases e)
          have v0 : Act.eval ⟨over Tv U, dd⟩ (.tmp 39) = _ := eval_new (t := Tv) (d := dd) f0 (by show 39 < Tv.size; omega)
          have hnA : lv 9 = false := by
            cases hA : lv 9 with
            | false => rfl
            | true => exact absurd (dep (hT.shut 8 _ rfl (dep (hT.shut 9 _ rfl hA) 8 (by kernel_rfl))) 7 (by kernel_rfl)) (by rw [hlv]; decide)
          have hrow : PRow eEnt 56 (wr.heap.size) (g + 1) (.slice Ar k cr) ys (g) ((C3.setIfInBounds 5 (.slice Ar k cr))) 31 ((KBk.kp b w.heap.size g P0 Q0 O0 S0 E0)) (Kp.none) wz := hT.facts 12 (by decide) (hT.past 12 (by decide)) (fun c e => by injection e with e; subst e; exact hnA)
          refine tbw_call (f := 42) (args := #[.agg CI]) (rceR_ext g w.heap.size wr.heap.size k k cr bb off nv b.ec Ar ys CI ((C3.setIfInBounds 5 (.slice Ar k cr))) x.ent ((KBk.kp b w.heap.size g P0 Q0 O0 S0 E0))) hT ho hd (wanted_plain rfl) rfl (by decide) (by decide) (exec_call1 rfl rfl v0 EN2.out) ?_
          refine (HCI.out wz (HIN.out.ext hx)).mono ?_
          rintro r w' ⟨⟨e', rfl, h1, h2, h3, h4⟩, hb⟩
          exact ⟨_, rfl, hb, ⟨e', rfl, h2, eEnt.mono h3 hrow.2.2.1, h1⟩⟩
        | 8, ho, hlv, hd =>
          obtain rfl := Option.some.inj ho
          obtain ⟨y0, e0, h2, h3, h4⟩ : PNew eEnt (wr.heap.size) (fun y : EntL => y.ent = x.ent) (EntL.agg) (U 40) wz := hT.facts 7 (by decide) (dep hd 7 (by kernel_rfl)) (fun c e => by injection e with e; subst e; exact hlv)
          have v0 : Act.eval ⟨over Tv U, dd⟩ (.tmp 40) = _ := eval_new (t := Tv) (d := dd) e0 (by show 40 < Tv.size; omega)
          refine tbw_yield (v := .slice (some ⟨wz.heap.size, 0, none⟩) 1 1) (rceR_ext g w.heap.size wr.heap.size k k cr bb off nv b.ec Ar ys CI ((C3.setIfInBounds 5 (.slice Ar k cr))) x.ent ((KBk.kp b w.heap.size g P0 Q0 O0 S0 E0))) hT ho hd (wanted_plain rfl) rfl (by decide) (by decide) (exec_buildOne 28 56 (.tmp 40) rfl v0 Tryz.underlying28 hi hz hs (by decide) (by decide) (by simp [EntL.agg, Value.cells])) ((Ext.refl _).alloc _) (PNew.one (E := eEnt) (val := EntL.agg) 56 (by simp [EntL.agg, Value.cells, eEnt, EntL.cells]) h2 h3 h4)
        | 9, ho, hlv, hd =>
          obtain rfl := Option.some.inj ho
          have f0 : U 34 = some (.slice Ar k cr) := hT.facts 1 (by decide) (dep hd 1 (by kernel_rfl)) (fun c e => by cases e)
          have v0 : Act.eval ⟨over Tv U, dd⟩ (.tmp 34) = _ := eval_new (t := Tv) (d := dd) f0 (by show 34 < Tv.size; omega)
          have hnA : lv 9 = false := hlv
          have hrow : PRow eEnt 56 (wr.heap.size) (g + 1) (.slice Ar k cr) ys (g) ((C3.setIfInBounds 5 (.slice Ar k cr))) 31 ((KBk.kp b w.heap.size g P0 Q0 O0 S0 E0)) (Kp.none) wz := hT.facts 12 (by decide) (hT.past 12 (by decide)) (fun c e => by injection e with e; subst e; exact hnA)
          have h1 : POne eEnt (wr.heap.size) (fun y : EntL => y.ent = x.ent) (U 41) wz := hT.facts 8 (by decide) (dep hd 8 (by kernel_rfl)) (fun c e => by injection e with e; subst e; exact hlv)
          obtain ⟨y, u', w', hU, hrun, hx2, hP⟩ := hrow.app (P := Tryz.prog) (t := 28) (ty := 28) Tryz.underlying28 hi hz hs hb rfl (by decide) HKO.out h1 HOB.out HBN.out hx HBB.out HLM.out HLB.out
          have v1 : Act.eval ⟨over Tv U, dd⟩ (.tmp 41) = _ := eval_new (t := Tv) (d := dd) hU (by show 41 < Tv.size; omega)
          refine tb_yield (v := u') (w' := w') hT ho hd rfl rfl (by decide) (by decide) (exec_append rfl v0 v1 hrun) hx2 hP ?_
          intro j hj hji hlj hcj hR
          match j, hj, hR with
          | 0, _, hR => exact hR
          | 1, _, hR => exact hR
          | 2, _, hR => exact hR
          | 3, _, hR => exact hR
          | 4, _, hR => exact hR
          | 5, _, hR => exact hR
          | 6, _, hR => exact hR
          | 7, _, _ => exact absurd (dep hd 8 (by kernel_rfl)) (by rw [(hcj 8 rfl).2]; decide)
          | 8, _, _ => exact absurd rfl (hcj 9 rfl).1
          | 9, _, _ => exact absurd rfl hji
          | 10, _, hR => exact hR
          | 11, _, _ => exact absurd (dep (hT.shut 11 _ rfl hlj) 9 (by kernel_rfl)) (by rw [hlv]; decide)
          | 12, _, _ => exact absurd rfl (hcj 9 rfl).1
          | j + 13, hj, _ => exact absurd hj (by omega)
        | 10, ho, hlv, hd =>
          obtain rfl := Option.some.inj ho
          have v0 := eval_old (d := dd) (hT.out 3 (by decide)) (by omega) t3
          refine tbw_yield (v := .pointer (some ⟨g, 5, none⟩)) (rceR_ext g w.heap.size wr.heap.size k k cr bb off nv b.ec Ar ys CI ((C3.setIfInBounds 5 (.slice Ar k cr))) x.ent ((KBk.kp b w.heap.size g P0 Q0 O0 S0 E0))) hT ho hd (wanted_plain rfl) rfl (by decide) (by decide) ?_ (Ext.refl _) rfl
          generalize Act.eval ⟨over Tv U, dd⟩ = ev at *
          simp [execOp, go_sem, v0]
        | 11, ho, hlv, hd =>
          obtain rfl := Option.some.inj ho
          have f0 : U 43 = some (.pointer (some ⟨g, 5, none⟩)) := hT.facts 10 (by decide) (dep hd 10 (by kernel_rfl)) (fun c e => by cases e)
          have v0 : Act.eval ⟨over Tv U, dd⟩ (.tmp 43) = _ := eval_new (t := Tv) (d := dd) f0 (by show 43 < Tv.size; omega)
          obtain ⟨y0, A', c', hU, h2, h3, h4, h5, h6⟩ : PApp eEnt (fun y : EntL => y.ent = x.ent) 56 (g + 1) ys (g) ((C3.setIfInBounds 5 (.slice Ar k cr))) 31 ((KBk.kp b w.heap.size g P0 Q0 O0 S0 E0)) (U 42) wz := hT.facts 9 (by decide) (dep hd 9 (by kernel_rfl)) (fun c e => by injection e with e; subst e; exact hlv)
          have v1 : Act.eval ⟨over Tv U, dd⟩ (.tmp 42) = _ := eval_new (t := Tv) (d := dd) hU (by show 42 < Tv.size; omega)
          have hc := (cell_of_row _ _ 5 _ _ _ h5).trans HCO.out
          have hfz := frozen_of_row _ _ 5 _ _ h5
          refine tb_store (w' := wz.setCell ⟨g, 5, none⟩ (.slice A' (ys.length + 1) c')) hT ho hd rfl rfl ?_ (hx.setCell HBG.out _) (PApp.sto rfl h2 h3 h4 h5 h6 HKG.out (by decide) HGB.out HFR.out) ?_
          · generalize Act.eval ⟨over Tv U, dd⟩ = ev at *
            simp [execOp, v0, v1, go_sem, hc, hfz]
          · intro j hj hji hlj hcj hR
            match j, hj, hR with
            | 0, _, hR => exact hR
            | 1, _, hR => exact hR
            | 2, _, hR => exact hR
            | 3, _, hR => exact hR
            | 4, _, hR => exact hR
            | 5, _, hR => exact hR
            | 6, _, hR => exact hR
            | 7, _, _ => exact absurd (dep (hT.shut 9 _ rfl (dep hd 9 (by kernel_rfl))) 8 (by kernel_rfl)) (by rw [(hcj 8 rfl).2]; decide)
            | 8, _, _ => exact absurd (dep hd 9 (by kernel_rfl)) (by rw [(hcj 9 rfl).2]; decide)
            | 9, _, _ => exact absurd rfl (hcj 11 rfl).1
            | 10, _, hR => exact hR
            | 11, _, _ => exact absurd rfl hji
            | 12, _, _ => exact absurd (dep hd 9 (by kernel_rfl)) (by rw [(hcj 9 rfl).2]; decide)
            | j + 13, hj, _ => exact absurd hj (by omega)
        | i + 12, ho, _, _ => exact absurd ho (by simp)
      intro U wz hex hout hfin
      have PS : PSto eEnt (fun y : EntL => y.ent = x.ent) 56 (g + 1) ys (g) 5 ((C3.setIfInBounds 5 (.slice Ar k cr))) 31 ((KBk.kp b w.heap.size g P0 Q0 O0 S0 E0)) wz := hfin 11 (by decide) rfl
      have XE := Lib.hid hex
      clear hex hfin
      rw [over_list]
      simp (disch := decide) only [overL, Nat.reduceAdd, hout, Option.getD_none]
      clear hout
      obtain ⟨y, A', c', hrow, hfr, hD, hblk, hK⟩ := PS
      rw [HYL.out] at hrow hblk
      rw [set_set] at hblk
      have HY2 : Hid (ents (ys ++ [y]) = ents (b.ents.take (k + 1))) := Lib.hid (ents_next HY.out HX.out hD)
      have HYL2 : Hid ((ys ++ [y]).length = k + 1) := Lib.hid (by rw [List.length_append, HYL.out]; rfl)
      have HR2 := Lib.hid hrow
      have HF2 : Hid (∀ z ∈ ys ++ [y], eEnt.From (g + 1) z) := Lib.hid (fun z hz => by
        rcases List.mem_append.1 hz with hz | hz
        · exact HYF.out z hz
        · rw [List.mem_singleton] at hz; rw [hz]; exact hfr)
      have HB2 := Lib.hid hblk
      have HK2 := Lib.hid hK
      clear hrow hfr hD hblk hK
      go_wp2
      go_roundw
      case rel => exact ⟨k + 1, ys ++ [y], A', c', by omega, by go_num, HY2, HYL2, HR2, HF2, HB2, XE, HK2⟩
      case measure => simp [intOf]; omega
    · obtain rfl : k = nv := by omega
      have HZB := Lib.hid (HXB.out.blockAt HBZ.out)
      obtain ⟨CF, hcf⟩ : ∃ C, C3.setIfInBounds 5 (.slice Ar k cr) = C := ⟨_, rfl⟩
      rw [hcf] at HG
      have HSF : Hid (CF.size = 7) := Lib.hid (by rw [← hcf, Array.size_setIfInBounds]; exact HSZ.out)
      have HFIN : Hid (CF = (BankL.cells ⟨b.now, ⟨P0.1, P0.2, b.gp.xs⟩, ⟨Q0.1, Q0.2, b.gq.xs⟩, O0.1, O0.2, b.outl, S0.1, S0.2, b.assets, Ar, cr, ys, E0.1, E0.2, b.enem⟩).toArray) := Lib.hid (by
        rw [← hcf, ← HCA3.out, ← HNP.out, ← HNQ.out, ← HNO.out, ← HNS.out, ← HNE.out, ← HYL.out]
        rfl)
      have H1C : Hid (CF.all (·.oneCell') = true) := Lib.hid (by rw [HFIN.out]; simp [BankL.cells, IL.val, Value.oneCell'])
      have INF := Lib.hid (infoBk HSF.out)
      have IZ : Hid ((#[.int .i64 0, .slice none 0 0, .slice none 0 0, .slice none 0 0, .slice none 0 0, .slice none 0 0, .slice none 0 0] : Array Value).size = CF.size) := Lib.hid HSF.out.symm
      clear hcf
      go_wp2_with (first
        | (with_reducible refine wpList_load_row rfl 31 (.tmp 3) rfl (g) (by with_unfolding_all rfl) _ CF _ _ HG.out Tryz.underlying31 rfl INF.out ?_)
        | (with_reducible refine wpList_store_row rfl 31 (.tmp 2) (.tmp 44) rfl (w.heap.size + 1) CF (by with_unfolding_all rfl) (by with_unfolding_all rfl) _ _ HZB.out INF.out IZ.out H1C.out ?_))
      refine bodyPost_ret (v := .agg CF) (results_oneR Tryz.results25 _ _ (w.heap.size + 1) _ CF _ _ rfl (setRow_heap _ _ _ _ _ _ HZB.out) Tryz.underlying31 rfl INF.out) rfl ?_
      have hge := HGE.out
      have hb1 := But.setRow (w.heap.size + 1) wr CF
      have hrow2 : RowX eEnt 56 (wr.setRow (w.heap.size + 1) CF) (g + 1) (.slice Ar k cr) ys := HROW.out.but hb1 (fun q => by have := own_ge HROW.out.own _ q; omega) (fun x hx => eEnt.frm (HYF.out x hx) (by omega))
      have hk2 : KBk b w.heap.size g P0 Q0 O0 S0 E0 (wr.setRow (w.heap.size + 1) CF) := HK.out.kt HZB.out (by decide) (by decide) (by decide) (by decide) hb1
      have g5 := hrow2.got rfl HYL.out HYF.out
      refine ⟨⟨⟨b.now, ⟨P0.1, P0.2, b.gp.xs⟩, ⟨Q0.1, Q0.2, b.gq.xs⟩, O0.1, O0.2, b.outl, S0.1, S0.2, b.assets, Ar, cr, ys, E0.1, E0.2, b.enem⟩, by rw [HFIN.out]; rfl, ?_, ⟨H.out.now, hk2.p.il, hk2.q.il, hk2.o.sl, ⟨hk2.o.le, hk2.o.mx⟩, hk2.s.sl, ⟨hk2.s.le, hk2.s.mx⟩, g5.sl, ⟨g5.le, g5.mx⟩, hk2.e.sl, ⟨hk2.e.le, hk2.e.mx⟩⟩⟩, (HBX.out.trans HXB.out).rowSet (by omega) _⟩
      have e1 : ents ys = ents b.ents := by rw [HY.out, List.take_of_length_le (by rw [HNV.out]; exact Nat.le_refl _)]
      unfold BankL.bank
      unfold ents at e1
      simp only
      rw [e1]
end Bk
end Go.Proofs.YtfnmgcblhebdbaaGreatDoor
