/- codec.Decode: a contract. Conditions: those of each theorem. The reference's reader: need, number: contracts. Conditions: those of each theorem. The reference's reader: text: a contract; what a reading of the reference leaves. Conditions: those of each theorem. The reference's reader: node, Decode: contracts. Conditions: those of each theorem. Decoded trees are small; the content of a bundle without its root. No conditions. The reference's copies of trees: Copy, List: contracts. Conditions: those of each theorem. -/
import Derived.Test.YtnlenappjjlbjaaGreatDoorP25
import Derived.Defers
import Derived.Recover
import Derived.Laws.Pointers
import Derived.Test.YtnlenappjjlbjaaGreatDoorP19
namespace Go.Proofs.YtnlenappjjlbjaaGreatDoor
open Go.ChangeShapes Go.WideShapes Go.ChangeAt Go.RowKit Go.Shelf
theorem node_all (W0 : World) (g : Nat) (A : Option Addr) (bs : List Int) (hB : Bu.Byt bs) (n c : Nat) (hc : n ≤ c) (hn : n ≤ 1048576) (en : Int) : ∀ f, f ≤ 8 → NodeAt W0 g A bs n c en f
  | 0, _ => node_zero W0 g A bs n c en
  | f + 1, h => node_succ W0 g A bs hB n c hc hn en f (by omega) (node_all W0 g A bs hB n c hc hn en f (by omega))
theorem wp_tmps {P : Program} {c : Code} {Q : Exit → Act → World → Prop} {d : List Deferred} {w : World} {t t' : Array Value} (h : t = t') (hw : Code.wp P c Q ⟨t', d⟩ w) : Code.wp P c Q ⟨t, d⟩ w := by subst h; exact hw
theorem sizeA (w : World) (o : Obj) : (w.alloc o).heap.size = w.heap.size + 1 := by
  show (w.heap.push o).size = _
  simp
theorem results_cells3 {P : Program} {fn : Func} {p p1 p2 : Tmp} {ty ty1 ty2 : TypeId} (h : fn.results = #[.cell p ty, .cell p1 ty1, .cell p2 ty2]) (tmps : Array Value) (w : World) (g : Nat) (t : TypeId) (cs : Array Value) (fr : Nat × Nat) (d : TypeDesc)
    (hp : tmps.getD p undef = .pointer (some ⟨g, 0, none⟩)) (hg : w.heap[g]? = some (.cells cs t fr))
    (hu : P.underlying ty = some d) (hd : (match d with | .struct _ | .array _ _ => true | _ => false) = true) (hi : (P.info? ty).map (·.size) = some cs.size)
    (a1 : Addr) (v1 : Value) (hp1 : tmps.getD p1 undef = .pointer (some a1)) (hl1 : (loadVar ty1 a1).run P w = .ok v1 w) (a2 : Addr) (v2 : Value) (hp2 : tmps.getD p2 undef = .pointer (some a2)) (hl2 : (loadVar ty2 a2).run P w = .ok v2 w) :
    (results fn tmps).run P w = .ok (.tuple #[.agg cs, v1, v2]) w := by
  have hp' : tmps[p]?.getD undef = .pointer (some ⟨g, 0, none⟩) := by simpa using hp
  have hp1' : tmps[p1]?.getD undef = .pointer (some a1) := by simpa using hp1
  have hp2' : tmps[p2]?.getD undef = .pointer (some a2) := by simpa using hp2
  simp [results, h, hp', hp1', hp2', asAddr, run_loadVar_row w g t ty cs fr d hg hu hd hi, hl1, hl2]
set_option maxRecDepth 100000 in
set_option maxHeartbeats 25600000 in
theorem rec_panicking (p : Nat) (er a1 a2 : Int) (CA : Array Value) (hCA : CA.size = 5) (older : List PanicEntry) (w : World) (h0 : w.heap[p]? = some (.cells CA 52 (0, 0))) (h1 : w.heap[p + 1]? = some (.cells #[.int .i64 a1] 3 (0, 0))) (h2 : w.heap[p + 2]? = some (.cells #[.int .i64 a2] 25 (0, 0))) :
    CallsD Tryz.prog 106 #[.pointer (some ⟨p, 0, none⟩), .pointer (some ⟨p + 1, 0, none⟩), .pointer (some ⟨p + 2, 0, none⟩)] (.panicking ({ v := .iface 110 (.int .i64 er), recovered := false } :: older)) w fun e u' w' =>
      e = .returned (.tuple #[]) ∧ u' = .panicking ({ v := .iface 110 (.int .i64 er), recovered := true } :: older) ∧ w' = ((w.setRow p #[.int .i64 0, .int .i64 0, .int .i64 0, .string ⟨#[]⟩, .slice none 0 0]).setCell ⟨p + 1, 0, none⟩ (.int .i64 0)).setCell ⟨p + 2, 0, none⟩ (.int .i64 er) := by
  refine callsD_of_wpS Tryz.func106 rfl fun c₀ cs hu => ?_
  apply wpS_seq
  apply wpS_region
  have hta : (Instr.typeAssert (.iface 110 (.int .i64 er)) 20 110 true).run Tryz.prog w = .ok (.tuple #[.int .i64 er, .bool true]) w := by
    simp [Instr.typeAssert, go_sem]
  simp [wpOpsS, go_sem, recoverD, hu, Tryz.ntmps106, Exit.thenS, hta]
  refine wpS_of_wp ?_
  obtain ⟨w1, hw1⟩ : ∃ W, w.setRow p #[.int .i64 0, .int .i64 0, .int .i64 0, .string ⟨#[]⟩, .slice none 0 0] = W := ⟨_, rfl⟩
  have g1 : w1.heap[p + 1]? = some (.cells #[.int .i64 a1] 3 (0, 0)) := by rw [← hw1, setRow_other _ _ (show p + 1 ≠ p by omega)]; exact h1
  have g2 : w1.heap[p + 2]? = some (.cells #[.int .i64 a2] 25 (0, 0)) := by rw [← hw1, setRow_other _ _ (show p + 2 ≠ p by omega)]; exact h2
  have hc1 : w1.cell? ⟨p + 1, 0, none⟩ = some (.int .i64 a1) := by rw [cell_of_row _ _ 0 _ _ _ g1]; rfl
  have hc2 : w1.cell? ⟨p + 2, 0, none⟩ = some (.int .i64 a2) := by rw [cell_of_row _ _ 0 _ _ _ g2]; rfl
  have hf1 := frozen_row g1 0
  have hf2 := frozen_row g2 0
  rw [hw1]
  have HW := Lib.hid hw1
  clear g1 g2 h1 h2 hw1 hta hu
  refine wp_tmps (t' := #[.pointer (some ⟨p, 0, none⟩), .pointer (some ⟨p + 1, 0, none⟩), .pointer (some ⟨p + 2, 0, none⟩), .int .i64 er, .bool true, .tuple #[.int .i64 er, .bool true], .iface 110 (.int .i64 er), .tuple #[.int .i64 er, .bool true], .int .i64 er, .bool true, undef, undef, undef]) (by kernel_rfl) ?_
  go_wp2_with (refine wpList_store_row rfl _ _ _ rfl p #[.int .i64 0, .int .i64 0, .int .i64 0, .string ⟨#[]⟩, .slice none 0 0] rfl rfl _ CA h0 (by kernel_rfl) hCA (by simp [Value.oneCell']) ?_; rw [HW.out])
  simp [bodyPostS, results, Tryz.results106]
set_option maxRecDepth 100000 in
set_option maxHeartbeats 25600000 in
theorem rec_idle (p : Nat) (w : World) :
    CallsD Tryz.prog 106 #[.pointer (some ⟨p, 0, none⟩), .pointer (some ⟨p + 1, 0, none⟩), .pointer (some ⟨p + 2, 0, none⟩)] .returning w fun e u' w' => e = .returned (.tuple #[]) ∧ u' = .returning ∧ w' = w := by
  refine callsD_of_wpS Tryz.func106 rfl fun c₀ cs hu => ?_
  apply wpS_seq
  apply wpS_region
  have hta : (Instr.typeAssert .nilIface 20 110 true).run Tryz.prog w = .ok (.tuple #[.int .i64 0, .bool false]) w := by
    simp [Instr.typeAssert, go_sem]
  simp [wpOpsS, go_sem, recoverD, hu, Tryz.ntmps106, Exit.thenS, hta]
  refine wpS_of_wp ?_
  refine wp_tmps (t' := #[.pointer (some ⟨p, 0, none⟩), .pointer (some ⟨p + 1, 0, none⟩), .pointer (some ⟨p + 2, 0, none⟩), .int .i64 0, .bool false, .tuple #[.int .i64 0, .bool false], .nilIface, .tuple #[.int .i64 0, .bool false], .int .i64 0, .bool false, undef, undef, undef]) (by kernel_rfl) ?_
  go_wp2
  cases c₀
  simp_all [bodyPostS, results, Tryz.results106]
def DecB (R : Except Int (Nd × List Int)) (n lo : Nat) (e : Ending) (w' : World) : Prop := match R with
  | .error er => e = .returned (.tuple #[.agg #[.int .i64 0, .int .i64 0, .int .i64 0, .string ⟨#[]⟩, .slice none 0 0], .int .i64 0, .int .i64 er])
  | .ok (x, l) => l.length ≤ n ∧ ∃ M, e = .returned (.tuple #[nda x M, .int .i64 ((n - l.length : Nat) : Int), .int .i64 0]) ∧ KidsP 1024 (fun b => lo ≤ b) 8 w' M x.kids
set_option maxRecDepth 100000 in
set_option maxHeartbeats 25600000 in
theorem cdecode_any (A : Option Addr) (bs : List Int) (hB : Bu.Byt bs) (n c : Nat) (hnb : bs.length = n) (hc : n ≤ c) (hn : n ≤ 1048576) (w : World) (h : SlU w A bs) :
    Calls Tryz.prog 78 #[.slice A n c] w fun e w' => DecB (Bu.dNd 4 8 bs) n w.heap.size e w' ∧ Ext w w' := by
  have hmf : ∀ (fn : Fn) (first cap : Array Value) (w : World), (Instr.makeFunc fn first cap).run Tryz.prog w = .ok (.func fn first cap) w := fun _ _ _ _ => rfl
  have hi2 : ¬ (1048576 : Int) < (n : Int) := by omega
  go_enter_defers Tryz.func78, Tryz.ntmps78
  go_wp2_with fail
  obtain ⟨W4, hW4⟩ : ∃ W, ((((w.alloc (Obj.cells #[.int .i64 0, .int .i64 0, .int .i64 0, .string ⟨#[]⟩, .slice none 0 0] 52)).alloc (Obj.cells #[.int .i64 0] 3)).alloc (Obj.cells #[.int .i64 0] 25)).alloc (Obj.cells #[.slice A n c, .int .i64 0, .int .i64 4] 113)) = W := ⟨_, rfl⟩
  rw [hW4]
  have hE4 : Ext w W4 := by rw [← hW4]; exact ((((Ext.refl w).alloc _).alloc _).alloc _).alloc _
  obtain ⟨W1, hW1⟩ : ∃ W, w.alloc (Obj.cells #[.int .i64 0, .int .i64 0, .int .i64 0, .string ⟨#[]⟩, .slice none 0 0] 52) = W := ⟨_, rfl⟩
  have s1 : W1.heap.size = w.heap.size + 1 := by rw [← hW1]; exact sizeA w _
  have p1 : W1.heap[w.heap.size]? = some (.cells #[.int .i64 0, .int .i64 0, .int .i64 0, .string ⟨#[]⟩, .slice none 0 0] 52 (0, 0)) := by rw [← hW1]; exact heap_alloc_new w _
  rw [hW1] at hW4
  obtain ⟨W2, hW2⟩ : ∃ W, W1.alloc (Obj.cells #[.int .i64 0] 3) = W := ⟨_, rfl⟩
  have s2 : W2.heap.size = w.heap.size + 1 + 1 := by rw [← hW2, sizeA, s1]
  have p2 : W2.heap[w.heap.size + 1]? = some (.cells #[.int .i64 0] 3 (0, 0)) := by rw [← hW2, ← s1]; exact heap_alloc_new W1 _
  have e2 : Ext W1 W2 := by rw [← hW2]; exact (Ext.refl W1).alloc _
  rw [hW2] at hW4
  obtain ⟨W3, hW3⟩ : ∃ W, W2.alloc (Obj.cells #[.int .i64 0] 25) = W := ⟨_, rfl⟩
  have s3 : W3.heap.size = w.heap.size + 1 + 1 + 1 := by rw [← hW3, sizeA, s2]
  have p3 : W3.heap[w.heap.size + 1 + 1]? = some (.cells #[.int .i64 0] 25 (0, 0)) := by rw [← hW3, ← s2]; exact heap_alloc_new W2 _
  have e3 : Ext W2 W3 := by rw [← hW3]; exact (Ext.refl W2).alloc _
  rw [hW3] at hW4
  have hS4 : W4.heap.size = w.heap.size + 1 + 1 + 1 + 1 := by rw [← hW4, sizeA, s3]
  have e4 : Ext W3 W4 := by rw [← hW4]; exact (Ext.refl W3).alloc _
  have b0 := e4.blockAt (e3.blockAt (e2.blockAt p1))
  have b1 := e4.blockAt (e3.blockAt p2)
  have b2 := e4.blockAt p3
  have b3 : W4.heap[w.heap.size + 1 + 1 + 1]? = some (.cells #[.slice A n c, .int .i64 0, .int .i64 4] 113 (0, 0)) := by rw [← hW4, ← s3]; exact heap_alloc_new W3 _
  have hRd : RdAt w W4 (w.heap.size + 1 + 1 + 1) A n c 0 4 := ⟨b3, hE4, by omega⟩
  have hRs : Rst w A bs n 0 bs := ⟨h, hnb, rfl, by omega⟩
  clear hW1 hW2 hW3 s1 s2 s3 p1 p2 p3 e2 e3 e4
  clear hW4
  have hN : Calls Tryz.prog 107 #[.pointer (some ⟨w.heap.size + 1 + 1 + 1, 0, none⟩), .int .i64 1] W4 _ := node_all w _ A bs hB n c hc hn 4 8 (Nat.le_refl 8) 0 bs W4 hRs hRd
  with_reducible refine hN.mono ?_
  clear hN
  rintro e w5 ⟨hE5, hF5, hR⟩
  have d0 := hF5.blk b0 (by omega)
  have d1 := hF5.blk b1 (by omega)
  have d2 := hF5.blk b2 (by omega)
  have d3 : w5.heap.size ≥ W4.heap.size := hF5.1
  rcases hD : Bu.dNd 4 8 bs with er | ⟨x, l⟩
  · rw [hD] at hR
    have hR : e = .panicked (failed er) := hR
    subst hR
    refine leaves_cons (f := 106) (args := #[.pointer (some ⟨w.heap.size, 0, none⟩), .pointer (some ⟨w.heap.size + 1, 0, none⟩), .pointer (some ⟨w.heap.size + 1 + 1, 0, none⟩)]) (by simp) (by simp [go_sem]) ?_
    refine (rec_panicking w.heap.size er 0 0 _ rfl [] w5 d0 d1 d2).mono ?_
    rintro e u w6 ⟨rfl, rfl, hw6⟩
    have r0 : w6.heap[w.heap.size]? = some (.cells #[.int .i64 0, .int .i64 0, .int .i64 0, .string ⟨#[]⟩, .slice none 0 0] 52 (0, 0)) := by
      rw [hw6, Below.heap_setCell _ _ _ _ (by simp), Below.heap_setCell _ _ _ _ (by simp), setRow_heap _ _ _ _ _ _ d0]
    have q1 : ((w5.setRow w.heap.size #[.int .i64 0, .int .i64 0, .int .i64 0, .string ⟨#[]⟩, .slice none 0 0]).setCell ⟨w.heap.size + 1, 0, none⟩ (.int .i64 0)).heap[w.heap.size + 1]? = some (.cells #[.int .i64 0] 3 (0, 0)) := by
      rw [heap_setCell_same _ _ 0 _ _ _ ((setRow_other _ _ (show w.heap.size + 1 ≠ w.heap.size by omega)).trans d1)]; rfl
    have q2 : ((w5.setRow w.heap.size #[.int .i64 0, .int .i64 0, .int .i64 0, .string ⟨#[]⟩, .slice none 0 0]).setCell ⟨w.heap.size + 1, 0, none⟩ (.int .i64 0)).heap[w.heap.size + 1 + 1]? = some (.cells #[.int .i64 0] 25 (0, 0)) := by
      rw [Below.heap_setCell _ _ _ _ (show w.heap.size + 1 + 1 ≠ w.heap.size + 1 by omega), setRow_other _ _ (show w.heap.size + 1 + 1 ≠ w.heap.size by omega)]; exact d2
    have r1 : w6.cell? ⟨w.heap.size + 1, 0, none⟩ = some (.int .i64 0) := by
      rw [hw6, cell_of_row _ _ 0 _ _ _ ((Below.heap_setCell _ _ _ _ (show w.heap.size + 1 ≠ w.heap.size + 1 + 1 by omega)).trans q1)]; rfl
    have r2 : w6.cell? ⟨w.heap.size + 1 + 1, 0, none⟩ = some (.int .i64 er) := by
      rw [hw6, cell_of_row _ _ 0 _ _ _ (heap_setCell_same _ _ 0 _ _ _ q2)]; rfl
    have hE6 : Ext w w6 := by rw [hw6]; exact ((hE5.setRow (Nat.le_refl _) _).setCell (by simp) _).setCell (by simp) _
    clear hw6
    refine ⟨.tuple #[.agg #[.int .i64 0, .int .i64 0, .int .i64 0, .string ⟨#[]⟩, .slice none 0 0], .int .i64 0, .int .i64 er], results_cells3 Tryz.results78 _ _ w.heap.size _ _ _ _ rfl r0 Tryz.underlying52 rfl (by kernel_rfl) ⟨w.heap.size + 1, 0, none⟩ _ rfl (by simp [go_sem, r1]) ⟨w.heap.size + 1 + 1, 0, none⟩ _ rfl (by simp [go_sem, r2]), ?_, hE6⟩
    rw [hD]
    rfl
  · rw [hD] at hR
    obtain ⟨v, he, ⟨M, hv, hK⟩, hl, hr⟩ := hR
    subst he
    have HD := Lib.hid hD
    have HK := Lib.hid hK
    have HV : Hid (v = nda x M) := Lib.hid hv
    have HL := Lib.hid hl
    have HR := Lib.hid hr
    have HE5 := Lib.hid hE5
    have HS : Hid (w5.heap.size ≥ w.heap.size + 1 + 1 + 1 + 1) := Lib.hid (by omega)
    have H0 := Lib.hid d0
    have H1 := Lib.hid d1
    have H2 := Lib.hid d2
    obtain ⟨tg, kd, nn, ss, Ak, lk, ck, hCS⟩ : ∃ (tg kd nn : Int) (ss : ByteArray) (Ak : Option Addr) (lk ck : Nat), nda x M = .agg #[.int .i64 tg, .int .i64 kd, .int .i64 nn, .string ss, .slice Ak lk ck] := ⟨_, _, _, _, _, _, _, rfl⟩
    have HC := Lib.hid hCS
    rw [hCS] at hv
    subst hv
    have HW4 := Lib.hid hS4
    clear hK hl hr hE5 d0 d1 d2 hCS hD b0 b1 b2 b3 hRd hRs hF5 d3 hS4 hE4
    go_wp2_with (refine wpList_store_row rfl _ _ _ rfl w.heap.size #[.int .i64 tg, .int .i64 kd, .int .i64 nn, .string ss, .slice Ak lk ck] rfl rfl _ #[.int .i64 0, .int .i64 0, .int .i64 0, .string ⟨#[]⟩, .slice none 0 0] H0.out (by kernel_rfl) rfl (by simp [Value.oneCell']) ?_)
    have HR1 := setRow_at (cs' := #[.int .i64 tg, .int .i64 kd, .int .i64 nn, .string ss, .slice Ak lk ck]) H0.out
    obtain ⟨W6, hW6⟩ : ∃ W, w5.setRow w.heap.size #[.int .i64 tg, .int .i64 kd, .int .i64 nn, .string ss, .slice Ak lk ck] = W := ⟨_, rfl⟩
    have HRD := HR.out.rowO (show w.heap.size ≠ w.heap.size + 1 + 1 + 1 by omega) (Nat.le_refl _) #[.int .i64 tg, .int .i64 kd, .int .i64 nn, .string ss, .slice Ak lk ck]
    have H1' := (setRow_other w5 #[.int .i64 tg, .int .i64 kd, .int .i64 nn, .string ss, .slice Ak lk ck] (show w.heap.size + 1 ≠ w.heap.size by omega)).trans H1.out
    rw [hW6] at HR1 HRD
    rw [hW6]
    have H2' := (setRow_other w5 #[.int .i64 tg, .int .i64 kd, .int .i64 nn, .string ss, .slice Ak lk ck] (show w.heap.size + 1 + 1 ≠ w.heap.size by omega)).trans H2.out
    rw [hW6] at H1' H2'
    have HS6 : W6.heap.size = w5.heap.size := by rw [← hW6]; simp [World.setRow]
    have G6 : ∀ q, q ≠ w.heap.size → W6.heap[q]? = w5.heap[q]? := fun q hq => by rw [← hW6]; exact setRow_other w5 _ hq
    clear hW6
    have hc1 : W6.cell? ⟨w.heap.size + 1, 0, none⟩ = some (.int .i64 0) := by rw [cell_of_row _ _ 0 _ _ _ H1']; rfl
    have hc2 : W6.cell? ⟨w.heap.size + 1 + 1, 0, none⟩ = some (.int .i64 0) := by rw [cell_of_row _ _ 0 _ _ _ H2']; rfl
    have hf00 := frozen_row HR1 0
    have hf01 := frozen_row HR1 1
    have hf02 := frozen_row HR1 2
    have hf03 := frozen_row HR1 3
    have hf04 := frozen_row HR1 4
    have hf1 := frozen_row H1' 0
    have hf2 := frozen_row H2' 0
    obtain ⟨-, hr1, -, -⟩ := HRD.cells
    have HRD := Lib.hid HRD
    have HR1 := Lib.hid HR1
    have H1' := Lib.hid H1'
    have H2' := Lib.hid H2'
    have hk0 : W6.cell? ⟨w.heap.size, 0, none⟩ = some (.int .i64 tg) := by rw [cell_of_row _ _ 0 _ _ _ HR1.out]; rfl
    have hk1 : W6.cell? ⟨w.heap.size, 1, none⟩ = some (.int .i64 kd) := by rw [cell_of_row _ _ 1 _ _ _ HR1.out]; rfl
    have hk2 : W6.cell? ⟨w.heap.size, 2, none⟩ = some (.int .i64 nn) := by rw [cell_of_row _ _ 2 _ _ _ HR1.out]; rfl
    have hk3 : W6.cell? ⟨w.heap.size, 3, none⟩ = some (.string ss) := by rw [cell_of_row _ _ 3 _ _ _ HR1.out]; rfl
    have hk4 : W6.cell? ⟨w.heap.size, 4, none⟩ = some (.slice Ak lk ck) := by rw [cell_of_row _ _ 4 _ _ _ HR1.out]; rfl
    go_wp2_with fail
    dsimp only [Act.put]
    go_region
    go_wp2_with fail
    have k0 : (W6.setCell ⟨w.heap.size, 0, none⟩ (.int .i64 tg)).heap[w.heap.size]? = some (.cells #[.int .i64 tg, .int .i64 kd, .int .i64 nn, .string ss, .slice Ak lk ck] 52 (0, 0)) := by rw [heap_setCell_same _ _ 0 _ _ _ HR1.out]; rfl
    have k1 : ((W6.setCell ⟨w.heap.size, 0, none⟩ (.int .i64 tg)).setCell ⟨w.heap.size, 1, none⟩ (.int .i64 kd)).heap[w.heap.size]? = some (.cells #[.int .i64 tg, .int .i64 kd, .int .i64 nn, .string ss, .slice Ak lk ck] 52 (0, 0)) := by rw [heap_setCell_same _ _ 1 _ _ _ k0]; rfl
    have k2 : (((W6.setCell ⟨w.heap.size, 0, none⟩ (.int .i64 tg)).setCell ⟨w.heap.size, 1, none⟩ (.int .i64 kd)).setCell ⟨w.heap.size, 2, none⟩ (.int .i64 nn)).heap[w.heap.size]? = some (.cells #[.int .i64 tg, .int .i64 kd, .int .i64 nn, .string ss, .slice Ak lk ck] 52 (0, 0)) := by rw [heap_setCell_same _ _ 2 _ _ _ k1]; rfl
    have k3 : ((((W6.setCell ⟨w.heap.size, 0, none⟩ (.int .i64 tg)).setCell ⟨w.heap.size, 1, none⟩ (.int .i64 kd)).setCell ⟨w.heap.size, 2, none⟩ (.int .i64 nn)).setCell ⟨w.heap.size, 3, none⟩ (.string ss)).heap[w.heap.size]? = some (.cells #[.int .i64 tg, .int .i64 kd, .int .i64 nn, .string ss, .slice Ak lk ck] 52 (0, 0)) := by rw [heap_setCell_same _ _ 3 _ _ _ k2]; rfl
    have k4 : (((((W6.setCell ⟨w.heap.size, 0, none⟩ (.int .i64 tg)).setCell ⟨w.heap.size, 1, none⟩ (.int .i64 kd)).setCell ⟨w.heap.size, 2, none⟩ (.int .i64 nn)).setCell ⟨w.heap.size, 3, none⟩ (.string ss)).setCell ⟨w.heap.size, 4, none⟩ (.slice Ak lk ck)).heap[w.heap.size]? = some (.cells #[.int .i64 tg, .int .i64 kd, .int .i64 nn, .string ss, .slice Ak lk ck] 52 (0, 0)) := by rw [heap_setCell_same _ _ 4 _ _ _ k3]; rfl
    have g4 : ∀ q, q ≠ w.heap.size → (((((W6.setCell ⟨w.heap.size, 0, none⟩ (.int .i64 tg)).setCell ⟨w.heap.size, 1, none⟩ (.int .i64 kd)).setCell ⟨w.heap.size, 2, none⟩ (.int .i64 nn)).setCell ⟨w.heap.size, 3, none⟩ (.string ss)).setCell ⟨w.heap.size, 4, none⟩ (.slice Ak lk ck)).heap[q]? = W6.heap[q]? := fun q hq => by
      rw [Below.heap_setCell _ _ _ _ hq, Below.heap_setCell _ _ _ _ hq, Below.heap_setCell _ _ _ _ hq, Below.heap_setCell _ _ _ _ hq, Below.heap_setCell _ _ _ _ hq]
    have E4 : Ext w (((((W6.setCell ⟨w.heap.size, 0, none⟩ (.int .i64 tg)).setCell ⟨w.heap.size, 1, none⟩ (.int .i64 kd)).setCell ⟨w.heap.size, 2, none⟩ (.int .i64 nn)).setCell ⟨w.heap.size, 3, none⟩ (.string ss)).setCell ⟨w.heap.size, 4, none⟩ (.slice Ak lk ck)) :=
      ((((HRD.out.ext.setCell (Nat.le_refl _) _).setCell (Nat.le_refl _) _).setCell (Nat.le_refl _) _).setCell (Nat.le_refl _) _).setCell (Nat.le_refl _) _
    have hz4 : (((((W6.setCell ⟨w.heap.size, 0, none⟩ (.int .i64 tg)).setCell ⟨w.heap.size, 1, none⟩ (.int .i64 kd)).setCell ⟨w.heap.size, 2, none⟩ (.int .i64 nn)).setCell ⟨w.heap.size, 3, none⟩ (.string ss)).setCell ⟨w.heap.size, 4, none⟩ (.slice Ak lk ck)).heap.size = w5.heap.size := by rw [← HS6]; simp [World.setCell]
    generalize (((((W6.setCell ⟨w.heap.size, 0, none⟩ (.int .i64 tg)).setCell ⟨w.heap.size, 1, none⟩ (.int .i64 kd)).setCell ⟨w.heap.size, 2, none⟩ (.int .i64 nn)).setCell ⟨w.heap.size, 3, none⟩ (.string ss)).setCell ⟨w.heap.size, 4, none⟩ (.slice Ak lk ck)) = W7 at *
    have j1 : (W7.setCell ⟨w.heap.size + 1, 0, none⟩ (.int .i64 ((n - l.length : Nat) : Int))).heap[w.heap.size + 1]? = some (.cells #[.int .i64 ((n - l.length : Nat) : Int)] 3 (0, 0)) := by
      rw [heap_setCell_same _ _ 0 _ _ _ ((g4 (w.heap.size + 1) (by omega)).trans H1'.out)]; rfl
    have j2 : (W7.setCell ⟨w.heap.size + 1, 0, none⟩ (.int .i64 ((n - l.length : Nat) : Int))).heap[w.heap.size + 1 + 1]? = some (.cells #[.int .i64 0] 25 (0, 0)) := by
      rw [Below.heap_setCell _ _ _ _ (show w.heap.size + 1 + 1 ≠ w.heap.size + 1 by omega), g4 _ (by omega)]; exact H2'.out
    obtain ⟨W8, hW8⟩ : ∃ W, ((W7.setCell ⟨w.heap.size + 1, 0, none⟩ (.int .i64 ((n - l.length : Nat) : Int))).setCell ⟨w.heap.size + 1 + 1, 0, none⟩ (.int .i64 0)).drew = W := ⟨_, rfl⟩
    have r0 : W8.heap[w.heap.size]? = some (.cells #[.int .i64 tg, .int .i64 kd, .int .i64 nn, .string ss, .slice Ak lk ck] 52 (0, 0)) := by
      rw [← hW8]
      show ((W7.setCell ⟨w.heap.size + 1, 0, none⟩ (.int .i64 ((n - l.length : Nat) : Int))).setCell ⟨w.heap.size + 1 + 1, 0, none⟩ (.int .i64 0)).heap[w.heap.size]? = _
      rw [Below.heap_setCell _ _ _ _ (show w.heap.size ≠ w.heap.size + 1 + 1 by omega), Below.heap_setCell _ _ _ _ (show w.heap.size ≠ w.heap.size + 1 by omega), k4]
    have r1 : W8.cell? ⟨w.heap.size + 1, 0, none⟩ = some (.int .i64 ((n - l.length : Nat) : Int)) := by
      rw [← hW8]
      show ((W7.setCell ⟨w.heap.size + 1, 0, none⟩ (.int .i64 ((n - l.length : Nat) : Int))).setCell ⟨w.heap.size + 1 + 1, 0, none⟩ (.int .i64 0)).cell? _ = _
      rw [cell_of_row _ _ 0 _ _ _ ((Below.heap_setCell _ _ _ _ (show w.heap.size + 1 ≠ w.heap.size + 1 + 1 by omega)).trans j1)]; rfl
    have r2 : W8.cell? ⟨w.heap.size + 1 + 1, 0, none⟩ = some (.int .i64 0) := by
      rw [← hW8]
      show ((W7.setCell ⟨w.heap.size + 1, 0, none⟩ (.int .i64 ((n - l.length : Nat) : Int))).setCell ⟨w.heap.size + 1 + 1, 0, none⟩ (.int .i64 0)).cell? _ = _
      rw [cell_of_row _ _ 0 _ _ _ (heap_setCell_same _ _ 0 _ _ _ j2)]; rfl
    have E8 : Ext w W8 := by rw [← hW8]; exact ((E4.setCell (show w.heap.size ≤ w.heap.size + 1 by omega) _).setCell (show w.heap.size ≤ w.heap.size + 1 + 1 by omega) _).drew
    have K8 : KidsP 1024 (fun b => W4.heap.size ≤ b) 8 W8 M x.kids := HK.out.keep (by rw [← hW8]; show w5.heap.size ≤ ((W7.setCell ⟨w.heap.size + 1, 0, none⟩ (.int .i64 ((n - l.length : Nat) : Int))).setCell ⟨w.heap.size + 1 + 1, 0, none⟩ (.int .i64 0)).heap.size; rw [← hz4]; simp [World.setCell]) fun b hb _ => by
      have := HW4.out
      have hb' : W4.heap.size ≤ b := hb
      rw [← hW8]
      show ((W7.setCell ⟨w.heap.size + 1, 0, none⟩ (.int .i64 ((n - l.length : Nat) : Int))).setCell ⟨w.heap.size + 1 + 1, 0, none⟩ (.int .i64 0)).heap[b]? = _
      rw [Below.heap_setCell _ _ _ _ (show b ≠ w.heap.size + 1 + 1 by omega), Below.heap_setCell _ _ _ _ (show b ≠ w.heap.size + 1 by omega), g4 _ (by omega), G6 _ (by omega)]
    rw [hW8]
    refine leaves_cons (f := 106) (args := #[.pointer (some ⟨w.heap.size, 0, none⟩), .pointer (some ⟨w.heap.size + 1, 0, none⟩), .pointer (some ⟨w.heap.size + 1 + 1, 0, none⟩)]) (by simp) (by simp [go_sem]) ?_
    refine (rec_idle w.heap.size W8).mono ?_
    rintro e u w6 ⟨rfl, rfl, rfl⟩
    refine ⟨.tuple #[.agg #[.int .i64 tg, .int .i64 kd, .int .i64 nn, .string ss, .slice Ak lk ck], .int .i64 ((n - l.length : Nat) : Int), .int .i64 0], results_cells3 Tryz.results78 _ _ w.heap.size _ _ _ _ rfl r0 Tryz.underlying52 rfl (by kernel_rfl) ⟨w.heap.size + 1, 0, none⟩ _ rfl (by simp [go_sem, r1]) ⟨w.heap.size + 1 + 1, 0, none⟩ _ rfl (by simp [go_sem, r2]), ?_, E8⟩
    rw [HD.out]
    refine ⟨HL.out, M, ?_, K8.mono fun b hb => ?_⟩
    · rw [HC.out]
    · have := HW4.out
      have hb' : W4.heap.size ≤ b := hb
      omega
end Go.Proofs.YtnlenappjjlbjaaGreatDoor
namespace Go.Proofs.YtnlenappjjlbjaaGreatDoor
open Go.ChangeShapes Go.WideShapes Go.ChangeAt Go.RowKit Go.Shelf
namespace Bu
theorem vr_err {en : Int} : ∀ (f i acc : Nat) (l : List Int) (e : Int), vrA en f i acc l = .error e → e = 2 ∨ e = en
  | 0, i, acc, l, e, h => by
    rw [vrA] at h
    exact Or.inl (by injection h with h; exact h.symm)
  | f + 1, i, acc, [], e, h => by
    rw [vrA] at h
    exact Or.inr (by injection h with h; exact h.symm)
  | f + 1, i, acc, x :: l, e, h => by
    rw [vrA] at h
    split at h
    · exact Or.inl (by injection h with h; exact h.symm)
    · split at h
      · cases h
      · exact vr_err f _ _ l e h
end Bu
end Go.Proofs.YtnlenappjjlbjaaGreatDoor
namespace Go.Proofs.YtnlenappjjlbjaaGreatDoor
open Go.ChangeShapes Go.WideShapes Go.ChangeAt Go.RowKit Go.Shelf
end Go.Proofs.YtnlenappjjlbjaaGreatDoor
namespace Go.Proofs.YtnlenappjjlbjaaGreatDoor
open Go.ChangeShapes Go.WideShapes Go.ChangeAt Go.RowKit Go.Shelf
namespace Bu
theorem dKs_err {p : List Int → Except Int (Nd × List Int)} (hp : ∀ r er, p r = .error er → 0 < er) : ∀ (n : Nat) (r : List Int) (er : Int), dKs p n r = .error er → 0 < er
  | 0, _, _, h => by cases h
  | n + 1, r, er, h => by
    rw [dKs] at h
    cases h1 : dKs p n r with
    | error e =>
      rw [h1] at h
      injection h with h
      subst h
      exact dKs_err hp n r _ h1
    | ok q =>
      obtain ⟨ys, l1⟩ := q
      rw [h1] at h
      simp only at h
      cases h2 : p l1 with
      | error e =>
        rw [h2] at h
        injection h with h
        subst h
        exact hp _ _ h2
      | ok z =>
        obtain ⟨y, l2⟩ := z
        rw [h2] at h
        cases h
theorem dNd_err {en : Int} (hen : 0 < en) : ∀ (f : Nat) (r : List Int) (er : Int), dNd en f r = .error er → 0 < er
  | 0, _, _, h => by injection h with h; omega
  | f + 1, r, er, h => by
    rw [dNd] at h
    cases hv : vr en r with
    | error e =>
      rw [hv] at h
      injection h with h
      subst h
      rcases vr_err _ _ _ _ _ hv with h | h <;> omega
    | ok p =>
      obtain ⟨t, l1⟩ := p
      rw [hv] at h
      simp only at h
      unfold dTg at h
      split at h
      · injection h with h; omega
      · cases l1 with
        | nil => injection h with h; omega
        | cons k l2 =>
          simp only at h
          unfold dBd at h
          split at h
          · injection h with h; omega
          · cases hv2 : vr en l2 with
            | error e =>
              rw [hv2] at h
              injection h with h
              subst h
              rcases vr_err _ _ _ _ _ hv2 with h | h <;> omega
            | ok p2 =>
              obtain ⟨m, l3⟩ := p2
              rw [hv2] at h
              simp only at h
              split at h
              · cases h
              · split at h
                · unfold dSt at h
                  split at h
                  · injection h with h; omega
                  · split at h
                    · injection h with h; omega
                    · cases h
                · unfold dLs at h
                  split at h
                  · injection h with h; omega
                  · cases hk : dKs (dNd en f) m l3 with
                    | error e =>
                      rw [hk] at h
                      injection h with h
                      subst h
                      exact dKs_err (dNd_err hen f) m l3 _ hk
                    | ok q =>
                      obtain ⟨xs, l4⟩ := q
                      rw [hk] at h
                      cases h
end Bu
theorem wpList_append_k {P : Program} {w : World} {ops : Array Oper} {rest : List Oper} {o : Oper} {a : Act} {Q : Exit → Act → World → Prop} (hgd : o.guard = none) (s x : Operand) (t : TypeId)
    (ho : o.op = .call { callee := .builtin .append, args := #[s, x], argTypes := #[t, t] })
    (base : Nat) (e : TypeId) (i : TypeInfo) (z : Value) (size bytes : Nat) (ht : P.underlying t = some (.slice e)) (hi : P.info? e = some i) (hz : i.zero = some z)
    (hsize : i.size = size) (hby : i.bytes = bytes) (hzs : z.cells.size = size) (hsz : 0 < size)
    (v : Value) (n : Nat) (xs : List Value) (hs : a.eval s = v) (hown : w.ownsRow base e size v n xs)
    (A : Option Addr) (c m : Nat) (xss : List (List Value)) (hm : xss.length = m) (hx : a.eval x = .slice A m c) (hr : Sl w size A xss) (hk : ∀ c ∈ xss, c.length = size) (h1 : ∀ c ∈ xss, ∀ u ∈ c, u.oneCell' = true)
    (h63 : n + m ≤ maxLen) (hbytes : (n + m) * bytes ≤ 140737488355328) (hbase : base ≤ w.heap.size)
    (h : ∀ A' c' w', w'.ownsRow base e size (.slice A' (n + m) c') (n + m) (xs ++ xss.flatten) → w.grownBy w' v.ownBlock → ((Value.slice A' (n + m) c').ownBlock = v.ownBlock ∨ (Value.slice A' (n + m) c').ownBlock = some w.heap.size) → wpList P ops Q rest (a.put o.dst (.slice A' (n + m) c')) w') : wpList P ops Q (o :: rest) a w := by
  subst hm
  obtain ⟨v', w', hrun, hown', hgr, hat⟩ := run_append_sl w base t o.type e i z size bytes ht hi hz hsize hby hzs hsz v n xs hown A c xss hr hk h1 h63 hbytes hbase
  obtain ⟨A', c', rfl⟩ := own_form hown'
  refine wpList_plain hgd fun K hK => ?_
  unfold Oper.wp
  rw [exec_append ho hs hx hrun]
  exact hK _ _ (h A' c' w' hown' hgr hat)
end Go.Proofs.YtnlenappjjlbjaaGreatDoor
namespace Go.Proofs.YtnlenappjjlbjaaGreatDoor
namespace Bu
def SmT (x : Nd) : Prop := ∀ d, SzOk d x ∧ N64 d x
theorem smT_mk {t k n : Int} {s : ByteArray} {ks : List Nd} (hn : In64 n) (hs : s.size ≤ 2000) (hl : ks.length ≤ 1024) (hk : ∀ k ∈ ks, SmT k) : SmT (.mk t k n s ks) := fun d => by
  have h1 : (Nd.mk t k n s ks).s.size ≤ 140737488351232 ∧ (Nd.mk t k n s ks).kids.length ≤ 140737488351232 := ⟨show s.size ≤ _ by omega, show ks.length ≤ _ by omega⟩
  cases d with
  | zero => exact ⟨h1, hn⟩
  | succ d => exact ⟨⟨h1, fun y hy => (hk y hy d).1⟩, ⟨hn, fun y hy => (hk y hy d).2⟩⟩
theorem dKs_sm {p : List Int → Except Int (Nd × List Int)} (hp : ∀ r x l, p r = .ok (x, l) → SmT x) : ∀ (n : Nat) (r : List Int) (xs : List Nd) (l : List Int), dKs p n r = .ok (xs, l) → xs.length = n ∧ ∀ x ∈ xs, SmT x
  | 0, r, xs, l, h => by
    cases h
    exact ⟨rfl, fun x hx => by cases hx⟩
  | n + 1, r, xs, l, h => by
    rw [dKs] at h
    cases h1 : dKs p n r with
    | error e => rw [h1] at h; cases h
    | ok y =>
      obtain ⟨ys, l1⟩ := y
      rw [h1] at h
      simp only at h
      cases h2 : p l1 with
      | error e => rw [h2] at h; cases h
      | ok z =>
        obtain ⟨z, l2⟩ := z
        rw [h2] at h
        cases h
        obtain ⟨a, b⟩ := dKs_sm hp n r ys l1 h1
        refine ⟨by rw [List.length_append, a]; rfl, fun x hx => ?_⟩
        rcases List.mem_append.1 hx with g | g
        · exact b x g
        · rw [List.mem_singleton] at g
          subst g
          exact hp _ _ _ h2
theorem in64_0 : In64 0 := by unfold In64; omega
theorem dNd_sm (en : Int) : ∀ (f : Nat) (r : List Int) (x : Nd) (l : List Int), dNd en f r = .ok (x, l) → SmT x
  | 0, _, _, _, h => by cases h
  | f + 1, r, x, l, h => by
    rw [dNd] at h
    cases h1 : vr en r with
    | error e => rw [h1] at h; cases h
    | ok y =>
      obtain ⟨t, l1⟩ := y
      rw [h1] at h
      simp only [dTg] at h
      split at h
      · cases h
      · cases l1 with
        | nil => cases h
        | cons k l2 =>
          simp only [dBd] at h
          split at h
          · cases h
          · cases h2 : vr en l2 with
            | error e => rw [h2] at h; cases h
            | ok z =>
              obtain ⟨n, l3⟩ := z
              rw [h2] at h
              simp only at h
              split at h
              · cases h
                exact smT_mk (unf_64 (vr_u64 h2)) (by decide) (Nat.zero_le _) (fun y hy => by cases hy)
              · split at h
                · unfold dSt at h
                  split at h
                  · cases h
                  · split at h
                    · cases h
                    · cases h
                      refine smT_mk in64_0 ?_ (Nat.zero_le _) (fun y hy => by cases hy)
                      rw [toB_size, List.length_take]
                      omega
                · unfold dLs at h
                  split at h
                  · cases h
                  · cases h4 : dKs (dNd en f) n l3 with
                    | error e => rw [h4] at h; cases h
                    | ok q =>
                      obtain ⟨xs, l4⟩ := q
                      rw [h4] at h
                      cases h
                      obtain ⟨a, b⟩ := dKs_sm (dNd_sm en f) _ _ _ _ h4
                      exact smT_mk in64_0 (by decide) (by omega) b
def decI (cnt : Int) (p : List Int) : Int × List It.Item := match dNd 4 8 p with
  | .error e => (e, [])
  | .ok (x, l) => if treeE cnt x l ≠ 0 then (treeE cnt x l, []) else (0, kidsI x.kids)
theorem contE_dec (cnt root : Int) (p : List Int) : contE cnt root p = if (decI cnt p).1 ≠ 0 then ((decI cnt p).1, []) else if restE root (decI cnt p).2 ≠ 0 then (restE root (decI cnt p).2, []) else (0, (decI cnt p).2) := by
  unfold contE decI
  cases h : dNd 4 8 p with
  | error e =>
    have := dNd_err (en := 4) (by decide) 8 p e h
    simp only
    rw [if_pos (by omega)]
  | ok y =>
    obtain ⟨x, l⟩ := y
    simp only
    by_cases ht : treeE cnt x l ≠ 0
    · rw [if_pos ht, if_pos ht]
      simp only
      rw [if_pos ht]
    · rw [if_neg ht, if_neg ht]
      simp only [ne_eq, not_true_eq_false, if_false]
def opnS (key : Int) (b : List Int) : Int := if (opnR key b).1 = 0 then headS b else 0
end Bu
theorem KidsAt.few2 {B lo d : Nat} {w : World} {M : Option Addr × Nat} {x : Nd} (h : KidsAt B lo (d + 1) w M x.kids) : ∀ y ∈ x.kids, y.kids.length ≤ B := fun y hy => by
  obtain ⟨i, hi, rfl⟩ := List.mem_iff_getElem.1 hy
  obtain ⟨_, _, _, _, _, _, _, _, _, _, hk⟩ := h.at_ (List.getElem?_eq_getElem hi)
  exact hk.few
end Go.Proofs.YtnlenappjjlbjaaGreatDoor
namespace Go.Proofs.YtnlenappjjlbjaaGreatDoor
open Go.ChangeShapes Go.WideShapes Go.ChangeAt Go.RowKit Go.Shelf
theorem KidsAt.toP {B lo : Nat} : ∀ {d : Nat} {w : World} {L : Option Addr × Nat} {ks : List Nd}, KidsAt B lo d w L ks → KidsP B (fun b => lo ≤ b) d w L ks
  | 0, _, _, _, h => h
  | d + 1, w, L, ks, ⟨h1, h2, h3, h⟩ => by
    refine ⟨h1, h2, h3, ?_⟩
    rcases h with h | ⟨b, off, Ls, e, hl, hb, hL, hc⟩
    · exact Or.inl h
    · exact Or.inr ⟨b, off, Ls, e, hl, hb, hL, fun i x M hx hM => ⟨(hc i x M hx hM).1, (hc i x M hx hM).2.toP⟩⟩
def RCopyAt (B d : Nat) : Prop := ∀ (x : Nd) (M : Option Addr × Nat) (w : World), KidsAt B 0 d w M x.kids →
    Calls Tryz.prog 69 #[nda x M] w fun e w' => (∃ M', e = .returned (nda x M') ∧ KidsP B (fun b => w.heap.size ≤ b) d w' M' x.kids) ∧ Ext w w'
def cpR (B d p q : Nat) (CX : Array Value) (t kd nn : Int) (ss : ByteArray) (b off n c j : Nat) (v : Value) (xs : List NdM) (y : Nd) (My : Option Addr × Nat) (k : Nat) (u : Option Value) (w : World) : Prop :=
  match k with
  | 0 => u = some (.pointer (some ⟨q, 4, none⟩))
  | 1 => u = some v
  | 2 => u = some (.pointer (some ⟨p, 4, none⟩))
  | 3 => u = some (.slice (some ⟨b, off, none⟩) n c)
  | 4 => u = some (.int .i64 (j : Int))
  | 5 => u = some (.pointer (some ⟨b, off + j * 5, none⟩))
  | 6 => u = some (nda y My)
  | 7 => ∃ M : Option Addr × Nat, u = some (nda y M) ∧ KidsP B (fun b => q + 1 ≤ b ∧ some b ≠ v.ownBlock) d w M y.kids
  | 8 => ∃ (g : Nat) (M : Option Addr × Nat), u = some (.slice (some ⟨g, 0, none⟩) 1 1) ∧ Sl w 5 (some ⟨g, 0, none⟩) ([((y, M) : NdM)].map ncl) ∧ KidsP B (fun b => q + 1 ≤ b ∧ some b ≠ v.ownBlock) d w M y.kids
  | 9 => ∃ (v' : Value) (M : Option Addr × Nat), u = some v' ∧ RowK B d (q + 1) w v' (xs ++ [(y, M)])
  | 10 => u = some (.pointer (some ⟨q, 4, none⟩))
  | 11 => ∃ (v' : Value) (M : Option Addr × Nat), w.heap[q]? = some (.cells #[.int .i64 t, .int .i64 kd, .int .i64 nn, .string ss, v'] 52 (0, 0)) ∧ RowK B d (q + 1) w v' (xs ++ [(y, M)])
  | 12 => w.heap[q]? = some (.cells #[.int .i64 t, .int .i64 kd, .int .i64 nn, .string ss, v] 52 (0, 0))
  | 13 => RowK B d (q + 1) w v xs
  | _ => w.heap[p]? = some (.cells CX 52 (0, 0)) ∧ w.heap[p + 1]? = some (.cells #[.int .i64 0, .int .i64 0, .int .i64 0, .string ⟨#[]⟩, .slice none 0 0] 52 (0, 0))
def cpC : Nat → Option Nat
  | 7 => some 11
  | 8 => some 9
  | 9 => some 11
  | 12 => some 11
  | 13 => some 9
  | _ => none
def cpD : List Nat := [21, 22, 23, 24, 25, 26, 27, 28, 29, 30, 31, 1000, 1001, 1002, 1003]
def cpE (p q j : Nat) (t : Array Value) : Prop := t.getD 1 undef = .pointer (some ⟨p, 0, none⟩) ∧ t.getD 3 undef = .pointer (some ⟨q, 0, none⟩) ∧ t.getD 4 undef = .int .i64 (j : Int) ∧ t.size = 33
theorem cpR_ext (B d p q : Nat) (CX : Array Value) (t kd nn : Int) (ss : ByteArray) (b off n c j : Nat) (v : Value) (xs : List NdM) (y : Nd) (My : Option Addr × Nat) (k : Nat) (u : Option Value) (w w' : World) (he : Ext w w') (h : cpR B d p q CX t kd nn ss b off n c j v xs y My k u w) : cpR B d p q CX t kd nn ss b off n c j v xs y My k u w' :=
  match k, h with
  | 0, h => h
  | 1, h => h
  | 2, h => h
  | 3, h => h
  | 4, h => h
  | 5, h => h
  | 6, h => h
  | 7, ⟨M, h1, h2⟩ => ⟨M, h1, h2.ext he⟩
  | 8, ⟨g, M, h1, h2, h3⟩ => ⟨g, M, h1, h2.ext he, h3.ext he⟩
  | 9, ⟨v', M, h1, h2⟩ => ⟨v', M, h1, h2.ext he⟩
  | 10, h => h
  | 11, ⟨v', M, h1, h2⟩ => ⟨v', M, he.blockAt h1, h2.ext he⟩
  | 12, h => he.blockAt h
  | 13, h => h.ext he
  | _ + 14, ⟨h1, h2⟩ => ⟨he.blockAt h1, he.blockAt h2⟩
set_option maxRecDepth 100000 in
set_option maxHeartbeats 25600000 in
theorem copy_core (B d : Nat) (hB : B ≤ 1000000) (t kd nn : Int) (ss : ByteArray) (ks : List Nd) (A : Option Addr) (n c : Nat) (hn : ks.length = n) (hnB : n ≤ B) (w : World)
    (hIH : ∀ (j : Nat) (y : Nd), ks[j]? = some y → ∃ (b off : Nat) (My : Option Addr × Nat), A = some ⟨b, off, none⟩ ∧ (∀ i v, (ndc y My)[i]? = some v → w.cell? ⟨b, off + (j * 5 + i), none⟩ = some v) ∧ ∀ w', Ext w w' → Calls Tryz.prog 69 #[nda y My] w' fun e w2 => (∃ M', e = .returned (nda y M') ∧ KidsP B (fun b => w'.heap.size ≤ b) d w2 M' y.kids) ∧ Ext w' w2) :
    Calls Tryz.prog 69 #[.agg #[.int .i64 t, .int .i64 kd, .int .i64 nn, .string ss, .slice A n c]] w fun e w' => (∃ A' c', e = .returned (.agg #[.int .i64 t, .int .i64 kd, .int .i64 nn, .string ss, .slice A' n c']) ∧ KidsP B (fun b => w.heap.size ≤ b) (d + 1) w' (A', c') ks) ∧ Ext w w' := by
  have HI := Lib.hid hIH
  have HN := Lib.hid hn
  obtain ⟨W1, hW1⟩ : ∃ W, (w.alloc (.cells #[.int .i64 t, .int .i64 kd, .int .i64 nn, .string ss, .slice A n c] 52)).alloc (.cells #[.int .i64 0, .int .i64 0, .int .i64 0, .string ⟨#[]⟩, .slice none 0 0] 52) = W := ⟨_, rfl⟩
  have X1 : Hid (Ext w W1) := Lib.hid (by rw [← hW1]; exact ((Ext.refl _).alloc _).alloc _)
  have HBX : Hid (W1.heap[w.heap.size]? = some (.cells #[.int .i64 t, .int .i64 kd, .int .i64 nn, .string ss, .slice A n c] 52 (0, 0))) := Lib.hid (by rw [← hW1]; exact ((Ext.refl _).alloc _).blockAt (heap_alloc_new _ _))
  have HBR : Hid (W1.heap[w.heap.size + 1]? = some (.cells #[.int .i64 0, .int .i64 0, .int .i64 0, .string ⟨#[]⟩, .slice none 0 0] 52 (0, 0))) := Lib.hid (by rw [← hW1, ← sizeA w (.cells #[.int .i64 t, .int .i64 kd, .int .i64 nn, .string ss, .slice A n c] 52)]; exact heap_alloc_new _ _)
  have hs1 : W1.heap.size = w.heap.size + 1 + 1 := by rw [← hW1, sizeA, sizeA]
  obtain ⟨W2, hW2⟩ : ∃ W, W1.alloc (.cells #[.int .i64 t, .int .i64 kd, .int .i64 nn, .string ss, .slice none 0 0] 52) = W := ⟨_, rfl⟩
  have x12 : Ext W1 W2 := by rw [← hW2]; exact (Ext.refl _).alloc _
  have HJ0 : Hid (W2.heap[W1.heap.size]? = some (.cells #[.int .i64 t, .int .i64 kd, .int .i64 nn, .string ss, .slice none 0 0] 52 (0, 0)) ∧ RowK B d (W1.heap.size + 1) W2 (.slice none 0 0) [] ∧ Ext w W2 ∧ W2.heap[w.heap.size]? = some (.cells #[.int .i64 t, .int .i64 kd, .int .i64 nn, .string ss, .slice A n c] 52 (0, 0)) ∧ W2.heap[w.heap.size + 1]? = some (.cells #[.int .i64 0, .int .i64 0, .int .i64 0, .string ⟨#[]⟩, .slice none 0 0] 52 (0, 0))) :=
    Lib.hid ⟨by rw [← hW2]; exact heap_alloc_new _ _, RowK.nil _ _ _ _, X1.out.trans x12, x12.blockAt HBX.out, x12.blockAt HBR.out⟩
  have c0 : W1.cell? ⟨w.heap.size, 0, none⟩ = some (.int .i64 t) := by rw [cell_of_row _ _ 0 _ _ _ HBX.out]; rfl
  have c1 : W1.cell? ⟨w.heap.size, 1, none⟩ = some (.int .i64 kd) := by rw [cell_of_row _ _ 1 _ _ _ HBX.out]; rfl
  have c2 : W1.cell? ⟨w.heap.size, 2, none⟩ = some (.int .i64 nn) := by rw [cell_of_row _ _ 2 _ _ _ HBX.out]; rfl
  have c3 : W1.cell? ⟨w.heap.size, 3, none⟩ = some (.string ss) := by rw [cell_of_row _ _ 3 _ _ _ HBX.out]; rfl
  have HE1 := Lib.hid hW1
  have HE2 := Lib.hid hW2
  have EN := Lib.hid (enters_of Tryz.func69 (by kernel_rfl) rfl)
  obtain ⟨i0, hi0, hz0, hz1, hz2⟩ := info_parts Tryz.infoNd5
  have HS1 := Lib.hid hs1
  clear hIH hn hW1 hW2 x12 hs1
  go_enter Tryz.func69, Tryz.ntmps69
  go_wp2_with (first | (rw [HE1.out]) | (rw [HE2.out]))
  go_loopw [4] (fun i wr => ∃ (j : Nat) (v : Value) (xs : List NdM), j ≤ n ∧ i = .int .i64 (j : Int) ∧ Hid (xs.length = j) ∧ Hid (nds xs = ks.take j) ∧ Hid (wr.heap[W1.heap.size]? = some (.cells #[.int .i64 t, .int .i64 kd, .int .i64 nn, .string ss, v] 52 (0, 0)) ∧ RowK B d (W1.heap.size + 1) wr v xs ∧ Ext w wr ∧ wr.heap[w.heap.size]? = some (.cells #[.int .i64 t, .int .i64 kd, .int .i64 nn, .string ss, .slice A n c] 52 (0, 0)) ∧ wr.heap[w.heap.size + 1]? = some (.cells #[.int .i64 0, .int .i64 0, .int .i64 0, .string ⟨#[]⟩, .slice none 0 0] 52 (0, 0)))) (fun i _ => n - (intOf i).toNat)
  case atStart => exact ⟨0, .slice none 0 0, [], Nat.zero_le _, rfl, Lib.hid rfl, Lib.hid rfl, HJ0⟩
  case round =>
    clear HJ0
    obtain ⟨j, v, xs, hj, rfl, HXL, HNX, HJ⟩ := hrel
    have hc4 : wr.cell? ⟨w.heap.size, 4, none⟩ = some (.slice A n c) := by rw [cell_of_row _ _ 4 _ _ _ HJ.out.2.2.2.1]; rfl
    by_cases hlt : j < n
    · have hlti : (j : Int) < (n : Int) := by omega
      obtain ⟨y, hy⟩ : ∃ y, ks[j]? = some y := ⟨ks[j]'(by rw [HN.out]; exact hlt), List.getElem?_eq_getElem _⟩
      obtain ⟨b, off, My, rfl, hcell, hcal⟩ := HI.out j y hy
      have hjn : (0 : Int) ≤ (j : Int) ∧ (j : Int) < (n : Int) := by omega
      have HC : Hid (∀ i v, (ndc y My)[i]? = some v → w.cell? ⟨b, off + j * 5 + i, none⟩ = some v) := Lib.hid (fun i v hv => by rw [Nat.add_assoc]; exact hcell i v hv)
      have HIH := Lib.hid hcal
      have hxl : xs.length ≤ 1000000 := by have := HXL.out; omega
      have HNX2 : Hid (∀ M, nds (xs ++ [(y, M)]) = ks.take (j + 1)) := Lib.hid (fun M => by
        have := HNX.out
        unfold nds at *
        rw [List.map_append, List.take_add_one, hy, this]
        rfl)
      clear hcell hcal hy
      go_wp2_with fail
      have hs1 := HS1.out
      refine region_tb (by kernel_rfl) (by decide +kernel) (cpE w.heap.size W1.heap.size j) ⟨rfl, rfl, rfl, rfl⟩ 15 cpD cpC (cpR B d w.heap.size W1.heap.size #[.int .i64 t, .int .i64 kd, .int .i64 nn, .string ss, .slice (some ⟨b, off, none⟩) n c] t kd nn ss b off n c j v xs y My) w HJ.out.2.2.1 (fun i h1 h2 => by
        have h1' : 12 ≤ i := h1
        rcases (show i = 12 ∨ i = 13 ∨ i = 14 by omega) with rfl | rfl | rfl
        · exact HJ.out.1
        · exact HJ.out.2.1.ext ((Ext.refl _).drew)
        · exact HJ.out.2.2.2) ?_ ?_
      · intro T dd l' U wz i o hE ho hl hd hT
        obtain ⟨t1, t3, t4, tz⟩ := hE
        match i, ho, hl, hd with
        | 0, ho, hl, hd =>
          obtain rfl := Option.some.inj ho
          have v0 := eval_old (d := dd) (hT.out 3 (by decide)) (by omega) t3
          refine tb_pure (v := .pointer (some ⟨W1.heap.size, 4, none⟩)) hT ho hd rfl rfl (by decide) (by decide) ?_ rfl
          generalize Act.eval ⟨over T U, dd⟩ = ev at *
          simp [execOp, go_sem, v0]
        | 1, ho, hl, hd =>
          obtain rfl := Option.some.inj ho
          have l11 : l' 11 = false := by
            cases h11 : l' 11 with
            | false => rfl
            | true =>
              have h9 := dep (hT.shut 11 _ rfl h11) 9 (by kernel_rfl)
              have h1 := dep (hT.shut 9 _ rfl h9) 1 (by kernel_rfl)
              rw [hl] at h1; cases h1
          have hblk : wz.heap[W1.heap.size]? = some (.cells #[.int .i64 t, .int .i64 kd, .int .i64 nn, .string ss, v] 52 (0, 0)) := hT.facts 12 (by decide) (hT.past 12 (by decide)) (fun c e => by injection e with e; subst e; exact l11)
          have fv0 : U 21 = some (.pointer (some ⟨W1.heap.size, 4, none⟩)) := hT.facts 0 (by decide) (dep hd 0 (by kernel_rfl)) (fun c e => by cases e)
          have v0 : Act.eval ⟨over T U, dd⟩ (.tmp 21) = _ := eval_new (t := T) (d := dd) fv0 (by show 21 < T.size; omega)
          have hc : wz.cell? ⟨W1.heap.size, 4, none⟩ = some v := by rw [cell_of_row _ _ 4 _ _ _ hblk]; rfl
          refine tb_pure (v := v) hT ho hd rfl rfl (by decide) (by decide) ?_ rfl
          generalize Act.eval ⟨over T U, dd⟩ = ev at *
          simp [execOp, go_sem, v0, hc]
        | 2, ho, hl, hd =>
          obtain rfl := Option.some.inj ho
          have v0 := eval_old (d := dd) (hT.out 1 (by decide)) (by omega) t1
          refine tb_pure (v := .pointer (some ⟨w.heap.size, 4, none⟩)) hT ho hd rfl rfl (by decide) (by decide) ?_ rfl
          generalize Act.eval ⟨over T U, dd⟩ = ev at *
          simp [execOp, go_sem, v0]
        | 3, ho, hl, hd =>
          obtain rfl := Option.some.inj ho
          have hbx : wz.heap[w.heap.size]? = some (.cells #[.int .i64 t, .int .i64 kd, .int .i64 nn, .string ss, .slice (some ⟨b, off, none⟩) n c] 52 (0, 0)) ∧ _ := hT.facts 14 (by decide) (hT.past 14 (by decide)) (fun c e => by cases e)
          have fv0 : U 23 = some (.pointer (some ⟨w.heap.size, 4, none⟩)) := hT.facts 2 (by decide) (dep hd 2 (by kernel_rfl)) (fun c e => by cases e)
          have v0 : Act.eval ⟨over T U, dd⟩ (.tmp 23) = _ := eval_new (t := T) (d := dd) fv0 (by show 23 < T.size; omega)
          have hc : wz.cell? ⟨w.heap.size, 4, none⟩ = some (.slice (some ⟨b, off, none⟩) n c) := by rw [cell_of_row _ _ 4 _ _ _ hbx.1]; rfl
          refine tb_pure (v := .slice (some ⟨b, off, none⟩) n c) hT ho hd rfl rfl (by decide) (by decide) ?_ rfl
          generalize Act.eval ⟨over T U, dd⟩ = ev at *
          simp [execOp, go_sem, v0, hc]
        | 4, ho, hl, hd =>
          obtain rfl := Option.some.inj ho
          have v0 := eval_old (d := dd) (hT.out 4 (by decide)) (by omega) t4
          refine tb_pure (v := .int .i64 (j : Int)) hT ho hd rfl rfl (by decide) (by decide) ?_ rfl
          generalize Act.eval ⟨over T U, dd⟩ = ev at *
          simp [execOp, go_sem, v0]
        | 5, ho, hl, hd =>
          obtain rfl := Option.some.inj ho
          have fv0 : U 24 = some (.slice (some ⟨b, off, none⟩) n c) := hT.facts 3 (by decide) (dep hd 3 (by kernel_rfl)) (fun c e => by cases e)
          have v0 : Act.eval ⟨over T U, dd⟩ (.tmp 24) = _ := eval_new (t := T) (d := dd) fv0 (by show 24 < T.size; omega)
          have fv1 : U 25 = some (.int .i64 (j : Int)) := hT.facts 4 (by decide) (dep hd 4 (by kernel_rfl)) (fun c e => by cases e)
          have v1 : Act.eval ⟨over T U, dd⟩ (.tmp 25) = _ := eval_new (t := T) (d := dd) fv1 (by show 25 < T.size; omega)
          refine tb_pure (v := .pointer (some ⟨b, off + j * 5, none⟩)) hT ho hd rfl rfl (by decide) (by decide) ?_ rfl
          generalize Act.eval ⟨over T U, dd⟩ = ev at *
          simp [execOp, go_sem, v0, v1, hjn]
        | 6, ho, hl, hd =>
          obtain rfl := Option.some.inj ho
          have fv0 : U 26 = some (.pointer (some ⟨b, off + j * 5, none⟩)) := hT.facts 5 (by decide) (dep hd 5 (by kernel_rfl)) (fun c e => by cases e)
          have v0 : Act.eval ⟨over T U, dd⟩ (.tmp 26) = _ := eval_new (t := T) (d := dd) fv0 (by show 26 < T.size; omega)
          refine tb_pure (v := nda y My) hT ho hd rfl rfl (by decide) (by decide) (exec_load_mid _ _ rfl b (off + j * 5) v0 (ndc y My) _ (fun i u hu => hT.ext.keep (HC.out i u hu)) Tryz.underlying52 rfl (infoNd5 _ _)) rfl
        | 7, ho, hl, hd =>
          obtain rfl := Option.some.inj ho
          have l11 : l' 11 = false := by
            cases h11 : l' 11 with
            | false => rfl
            | true =>
              have h9 := dep (hT.shut 11 _ rfl h11) 9 (by kernel_rfl)
              have h8 := dep (hT.shut 9 _ rfl h9) 8 (by kernel_rfl)
              have h7 := dep (hT.shut 8 _ rfl h8) 7 (by kernel_rfl)
              rw [hl] at h7; cases h7
          have l9 : l' 9 = false := by
            cases h9 : l' 9 with
            | false => rfl
            | true =>
              have h8 := dep (hT.shut 9 _ rfl h9) 8 (by kernel_rfl)
              have h7 := dep (hT.shut 8 _ rfl h8) 7 (by kernel_rfl)
              rw [hl] at h7; cases h7
          have hblk : wz.heap[W1.heap.size]? = some (.cells #[.int .i64 t, .int .i64 kd, .int .i64 nn, .string ss, v] 52 (0, 0)) := hT.facts 12 (by decide) (hT.past 12 (by decide)) (fun c e => by injection e with e; subst e; exact l11)
          have hrow : RowK B d (W1.heap.size + 1) wz v xs := hT.facts 13 (by decide) (hT.past 13 (by decide)) (fun c e => by injection e with e; subst e; exact l9)
          have fv0 : U 27 = some (nda y My) := hT.facts 6 (by decide) (dep hd 6 (by kernel_rfl)) (fun c e => by cases e)
          have v0 : Act.eval ⟨over T U, dd⟩ (.tmp 27) = _ := eval_new (t := T) (d := dd) fv0 (by show 27 < T.size; omega)
          refine tb_callX (f := 69) (args := #[nda y My]) hT ho hd rfl rfl (by decide) (by decide) (exec_call1 rfl rfl v0 EN.out) ?_
          refine (HIH.out wz hT.ext).mono ?_
          rintro e w' ⟨⟨M', rfl, hM⟩, hx⟩
          have hsz := lt_size hblk
          refine ⟨_, rfl, hT.ext.trans hx, ⟨M', rfl, hM.mono fun b' hb' => ⟨Nat.le_trans hsz hb', fun e => by
            have := own_lt hrow.own b' e.symm
            have hb2 : wz.heap.size ≤ b' := hb'
            omega⟩⟩, fun k hk hki hlk hck hR => cpR_ext B d w.heap.size W1.heap.size #[.int .i64 t, .int .i64 kd, .int .i64 nn, .string ss, .slice (some ⟨b, off, none⟩) n c] t kd nn ss b off n c j v xs y My k _ _ _ hx hR⟩
        | 8, ho, hl, hd =>
          obtain rfl := Option.some.inj ho
          have l11 : l' 11 = false := by
            cases h11 : l' 11 with
            | false => rfl
            | true =>
              have h9 := dep (hT.shut 11 _ rfl h11) 9 (by kernel_rfl)
              have h8 := dep (hT.shut 9 _ rfl h9) 8 (by kernel_rfl)
              rw [hl] at h8; cases h8
          obtain ⟨M, f7, hM⟩ : ∃ M : Option Addr × Nat, U 28 = some (nda y M) ∧ KidsP B (fun b => W1.heap.size + 1 ≤ b ∧ some b ≠ v.ownBlock) d wz M y.kids := hT.facts 7 (by decide) (dep hd 7 (by kernel_rfl)) (fun c e => by injection e with e; subst e; exact l11)
          have v0 : Act.eval ⟨over T U, dd⟩ (.tmp 28) = _ := eval_new (t := T) (d := dd) f7 (by show 28 < T.size; omega)
          refine tb_ext (v := .slice (some ⟨wz.heap.size, 0, none⟩) 1 1) (w' := wz.alloc (.cells (ncl (y, M)).toArray 52)) (cpR_ext B d w.heap.size W1.heap.size #[.int .i64 t, .int .i64 kd, .int .i64 nn, .string ss, .slice (some ⟨b, off, none⟩) n c] t kd nn ss b off n c j v xs y My) hT ho hd rfl rfl (by decide) (by decide) ?_ ((Ext.refl _).alloc _) ⟨wz.heap.size, M, rfl, sl_oneN wz (y, M) 52, hM.ext ((Ext.refl _).alloc _)⟩
          generalize Act.eval ⟨over T U, dd⟩ = ev at *
          simp [execOp, v0, go_sem, nda, ncl, ndc]
        | 9, ho, hl, hd =>
          obtain rfl := Option.some.inj ho
          have fv0 : U 22 = some (v) := hT.facts 1 (by decide) (dep hd 1 (by kernel_rfl)) (fun c e => by cases e)
          have v0 : Act.eval ⟨over T U, dd⟩ (.tmp 22) = _ := eval_new (t := T) (d := dd) fv0 (by show 22 < T.size; omega)
          have l11 : l' 11 = false := by
            cases h11 : l' 11 with
            | false => rfl
            | true =>
              have h9 := dep (hT.shut 11 _ rfl h11) 9 (by kernel_rfl)
              rw [hl] at h9; cases h9
          obtain ⟨g', M, f8, hs2, hM⟩ : ∃ (g : Nat) (M : Option Addr × Nat), U 29 = some (.slice (some ⟨g, 0, none⟩) 1 1) ∧ Sl wz 5 (some ⟨g, 0, none⟩) ([((y, M) : NdM)].map ncl) ∧ KidsP B (fun b => W1.heap.size + 1 ≤ b ∧ some b ≠ v.ownBlock) d wz M y.kids := hT.facts 8 (by decide) (dep hd 8 (by kernel_rfl)) (fun c e => by injection e with e; subst e; exact hl)
          have v1 : Act.eval ⟨over T U, dd⟩ (.tmp 29) = _ := eval_new (t := T) (d := dd) f8 (by show 29 < T.size; omega)
          have hrow : RowK B d (W1.heap.size + 1) wz v xs := hT.facts 13 (by decide) (hT.past 13 (by decide)) (fun c e => by injection e with e; subst e; exact hl)
          have hblk : wz.heap[W1.heap.size]? = some (.cells #[.int .i64 t, .int .i64 kd, .int .i64 nn, .string ss, v] 52 (0, 0)) := hT.facts 12 (by decide) (hT.past 12 (by decide)) (fun c e => by injection e with e; subst e; exact l11)
          have hsz := lt_size hblk
          obtain ⟨v', w', hrun, hown, hgr, hat⟩ := run_append_sl (P := Tryz.prog) wz (W1.heap.size + 1) 50 50 52 i0 (.agg #[.int .i64 0, .int .i64 0, .int .i64 0, .string ⟨#[]⟩, .slice none 0 0]) 5 64 Tryz.underlying50 hi0 hz0 hz1 hz2 rfl (by decide) v _ _ hrow.own (some ⟨g', 0, none⟩) 1 ([((y, M) : NdM)].map ncl) hs2 (ncl_len _) (ncl_ones _) (by simp only [List.map_cons, List.map_nil, List.length_singleton]; unfold maxLen; omega) (by simp only [List.map_cons, List.map_nil, List.length_singleton]; omega) hsz
          rw [← List.flatten_append, ← List.map_append] at hown
          have hpush := hrow.push (y, M) hgr hat hown hM
          refine tb_yield (v := v') (w' := w') hT ho hd rfl rfl (by decide) (by decide) (exec_append rfl v0 v1 hrun) (hT.ext.grown hgr (fun k hk => Nat.le_trans (by omega) (own_ge hrow.own k hk))) ⟨v', M, rfl, hpush⟩ ?_
          have hne : ∀ b, b < W1.heap.size + 1 → some b ≠ v.ownBlock := fun b hb e => by
            have := own_ge hrow.own b e.symm
            omega
          intro k hk hki hlk hck hR
          match k, hk, hR with
          | 0, _, hR => exact hR
          | 1, _, hR => exact hR
          | 2, _, hR => exact hR
          | 3, _, hR => exact hR
          | 4, _, hR => exact hR
          | 5, _, hR => exact hR
          | 6, _, hR => exact hR
          | 7, _, ⟨M', h3, h4⟩ => exact ⟨M', h3, h4.keep hgr.size fun b hb hl => hgr.block b hl hb.2⟩
          | 8, _, _ => exact absurd rfl (hck 9 rfl).1
          | 9, _, _ => exact absurd rfl hki
          | 10, _, hR => exact hR
          | 11, _, _ => rw [l11] at hlk; cases hlk
          | 12, _, hR => exact (hgr.block _ (by omega) (hne _ (by omega))).trans hR
          | 13, _, _ => exact absurd rfl (hck 9 rfl).1
          | 14, _, hR => exact ⟨(hgr.block _ (by omega) (hne _ (by omega))).trans hR.1, (hgr.block _ (by omega) (hne _ (by omega))).trans hR.2⟩
          | k + 15, hk, _ => exact absurd hk (by omega)
        | 10, ho, hl, hd =>
          obtain rfl := Option.some.inj ho
          have v0 := eval_old (d := dd) (hT.out 3 (by decide)) (by omega) t3
          refine tb_pure (v := .pointer (some ⟨W1.heap.size, 4, none⟩)) hT ho hd rfl rfl (by decide) (by decide) ?_ rfl
          generalize Act.eval ⟨over T U, dd⟩ = ev at *
          simp [execOp, go_sem, v0]
        | 11, ho, hl, hd =>
          obtain rfl := Option.some.inj ho
          have fv0 : U 31 = some (.pointer (some ⟨W1.heap.size, 4, none⟩)) := hT.facts 10 (by decide) (dep hd 10 (by kernel_rfl)) (fun c e => by cases e)
          have v0 : Act.eval ⟨over T U, dd⟩ (.tmp 31) = _ := eval_new (t := T) (d := dd) fv0 (by show 31 < T.size; omega)
          obtain ⟨v', M, f9, hrow⟩ : ∃ (v' : Value) (M : Option Addr × Nat), U 30 = some v' ∧ RowK B d (W1.heap.size + 1) wz v' (xs ++ [(y, M)]) := hT.facts 9 (by decide) (dep hd 9 (by kernel_rfl)) (fun c e => by injection e with e; subst e; exact hl)
          have v1 : Act.eval ⟨over T U, dd⟩ (.tmp 30) = _ := eval_new (t := T) (d := dd) f9 (by show 30 < T.size; omega)
          have l11 : l' 11 = false := hl
          have hblk : wz.heap[W1.heap.size]? = some (.cells #[.int .i64 t, .int .i64 kd, .int .i64 nn, .string ss, v] 52 (0, 0)) := hT.facts 12 (by decide) (hT.past 12 (by decide)) (fun c e => by injection e with e; subst e; exact l11)
          have hc : wz.cell? ⟨W1.heap.size, 4, none⟩ = some v := by rw [cell_of_row _ _ 4 _ _ _ hblk]; rfl
          have hfz := frozen_row hblk 4
          obtain ⟨A', c', rfl⟩ := own_form hrow.own
          refine tb_store (w' := wz.setCell ⟨W1.heap.size, 4, none⟩ (.slice A' (xs ++ [((y, M) : NdM)]).length c')) hT ho hd rfl rfl ?_ (hT.ext.setCell (show w.heap.size ≤ (⟨W1.heap.size, 4, none⟩ : Addr).block from (by omega : w.heap.size ≤ W1.heap.size)) _) ⟨_, M, heap_set hblk 4 _, hrow.set (Nat.lt_succ_self _) _ _⟩ (fun k hk hki hlk hck hR => ?_)
          · generalize Act.eval ⟨over T U, dd⟩ = ev at *
            simp [execOp, v0, v1, go_sem, hc, hfz]
          · match k, hk, hR with
            | 0, _, hR => exact hR
            | 1, _, hR => exact hR
            | 2, _, hR => exact hR
            | 3, _, hR => exact hR
            | 4, _, hR => exact hR
            | 5, _, hR => exact hR
            | 6, _, hR => exact hR
            | 7, _, _ => exact absurd rfl (hck 11 rfl).1
            | 8, _, _ => exact absurd (dep hd 9 (by kernel_rfl)) (by rw [(hck 9 rfl).2]; decide)
            | 9, _, _ => exact absurd rfl (hck 11 rfl).1
            | 10, _, hR => exact hR
            | 11, _, _ => exact absurd rfl hki
            | 12, _, _ => exact absurd rfl (hck 11 rfl).1
            | 13, _, _ => exact absurd (dep hd 9 (by kernel_rfl)) (by rw [(hck 9 rfl).2]; decide)
            | 14, _, hR => exact ⟨by rw [Below.heap_setCell _ _ _ _ (show w.heap.size ≠ W1.heap.size by omega)]; exact hR.1, by rw [Below.heap_setCell _ _ _ _ (show w.heap.size + 1 ≠ W1.heap.size by omega)]; exact hR.2⟩
            | k + 15, hk, _ => exact absurd hk (by omega)
        | i + 12, ho, _, _ => exact absurd ho (by simp)
      · intro U wx hex hout hfin
        obtain ⟨v', M, hb, hrow⟩ : cpR B d w.heap.size W1.heap.size #[.int .i64 t, .int .i64 kd, .int .i64 nn, .string ss, .slice (some ⟨b, off, none⟩) n c] t kd nn ss b off n c j v xs y My 11 (U 1000) wx := hfin 11 (by decide) rfl
        obtain ⟨h14, h15⟩ : cpR B d w.heap.size W1.heap.size #[.int .i64 t, .int .i64 kd, .int .i64 nn, .string ss, .slice (some ⟨b, off, none⟩) n c] t kd nn ss b off n c j v xs y My 14 (U 1003) wx := hfin 14 (by decide) rfl
        have HJ2 := Lib.hid (And.intro hb (And.intro hrow (And.intro hex (And.intro h14 h15))))
        clear hb hrow h14 h15 hfin hex
        rw [over_list]
        simp (disch := decide) only [overL, Nat.reduceAdd, hout, Option.getD_none]
        clear hout hs1
        go_wp2
        go_roundw
        case rel => exact ⟨j + 1, v', xs ++ [(y, M)], by omega, by go_num, Lib.hid (by rw [List.length_append, HXL.out]; rfl), Lib.hid (HNX2.out M), HJ2⟩
        case measure => simp [intOf] <;> omega
    · have hjn : j = n := by omega
      have hlti : ¬ (j : Int) < (n : Int) := by omega
      obtain ⟨hb5, hrow5, X6, hbx, hbr5⟩ := HJ.out
      obtain ⟨Av, cv, rfl⟩ := own_form hrow5.own
      have HKD := Lib.hid (RowK.done hrow5 rfl (by have := HXL.out; omega))
      have HKS : Hid (nds xs = ks) := Lib.hid (by rw [HNX.out, List.take_of_length_le (by have := HN.out; omega)])
      have HBQ6 := Lib.hid hb5
      have HBR6 := Lib.hid hbr5
      have X6 := Lib.hid X6
      have HXN : Hid (xs.length = n) := Lib.hid (by rw [HXL.out, hjn])
      generalize xs.length = xl at *
      have hs1 := HS1.out
      clear hb5 hrow5 hbr5 HJ hbx hjn hs1
      go_wp2_with (first
        | refine wpList_load_row rfl _ _ rfl W1.heap.size rfl _ #[.int .i64 t, .int .i64 kd, .int .i64 nn, .string ss, .slice Av xl cv] _ _ HBQ6.out Tryz.underlying52 rfl (by kernel_rfl) ?_
        | refine wpList_store_row rfl _ _ _ rfl (w.heap.size + 1) #[.int .i64 t, .int .i64 kd, .int .i64 nn, .string ss, .slice Av xl cv] rfl rfl _ #[.int .i64 0, .int .i64 0, .int .i64 0, .string ⟨#[]⟩, .slice none 0 0] HBR6.out (by kernel_rfl) rfl (by simp [Value.oneCell']) ?_)
      refine bodyPost_ret (v := .agg #[.int .i64 t, .int .i64 kd, .int .i64 nn, .string ss, .slice Av xl cv]) (results_cell_row Tryz.results69 _ _ (w.heap.size + 1) _ _ _ _ rfl (setRow_at (cs' := #[.int .i64 t, .int .i64 kd, .int .i64 nn, .string ss, .slice Av xl cv]) HBR6.out) Tryz.underlying52 rfl (by kernel_rfl)) rfl ?_
      refine ⟨⟨Av, cv, by rw [HXN.out], ?_⟩, X6.out.setRow (by omega) _⟩
      have hs1 := HS1.out
      rw [← HKS.out]
      refine (HKD.out.keep (by simp [World.setRow]) fun b hb _ => setRow_other _ _ (show b ≠ w.heap.size + 1 by omega)).mono fun b hb => ?_
      show w.heap.size ≤ b
      omega
theorem refcopy_any (B : Nat) (hB : B ≤ 1000000) : ∀ d, RCopyAt B d
  | 0, .mk t kd nn ss ks, M, w, h => by
    obtain ⟨hk, hm⟩ := h
    have hk : ks = [] := hk
    subst hk
    have K := copy_core B 0 hB t kd nn ss [] M.1 0 M.2 rfl (Nat.zero_le _) w (fun j y hy => by cases hy)
    refine Calls.mono K ?_
    rintro e w' ⟨⟨A', c', rfl, hK⟩, hx⟩
    exact ⟨⟨(A', c'), rfl, rfl, hK.2.2.1⟩, hx⟩
  | d + 1, .mk t kd nn ss ks, M, w, h => by
    have K := copy_core B d hB t kd nn ss ks M.1 ks.length M.2 rfl h.1 w (fun j y hy => by
      rcases h.2.2.2 with h0 | ⟨b, off, Ls, hA, -, hb, hL, hc⟩
      · have h0 : ks = [] := h0
        rw [h0] at hy; cases hy
      · obtain ⟨My, hMy⟩ : ∃ My, Ls[j]? = some My := ⟨Ls[j]'(by rw [hL]; exact (List.getElem?_eq_some_iff.1 hy).1), List.getElem?_eq_getElem _⟩
        exact ⟨b, off, My, hA, fun i v hv => (hc j y My hy hMy).1 i v hv, fun w' he => refcopy_any B hB d y My w' ((hc j y My hy hMy).2.ext he)⟩)
    refine Calls.mono K ?_
    rintro e w' ⟨⟨A', c', rfl, hK⟩, hx⟩
    exact ⟨⟨(A', c'), rfl, hK⟩, hx⟩
set_option maxRecDepth 100000 in
set_option maxHeartbeats 25600000 in
theorem reflist_any (B : Nat) (hB : B ≤ 1000000) (d : Nat) (tag : Int) (L : Option Addr × Nat) (ks : List Nd) (n : Nat) (hn : ks.length = n) (w : World) (h : KidsAt B 0 d w L ks) :
    Calls Tryz.prog 31 #[.int .i64 tag, .slice L.1 n L.2] w fun e w' => RetNd B w.heap.size d (.mk tag 3 0 ⟨#[]⟩ ks) e w' ∧ Ext w w' := by
  subst hn
  obtain ⟨W1, hW1⟩ : ∃ W, w.alloc (.cells #[.int .i64 0, .int .i64 0, .int .i64 0, .string ⟨#[]⟩, .slice none 0 0] 52) = W := ⟨_, rfl⟩
  have X1 : Hid (Ext w W1) := Lib.hid (by rw [← hW1]; exact (Ext.refl _).alloc _)
  have HBR : Hid (W1.heap[w.heap.size]? = some (.cells #[.int .i64 0, .int .i64 0, .int .i64 0, .string ⟨#[]⟩, .slice none 0 0] 52 (0, 0))) := Lib.hid (by rw [← hW1]; exact heap_alloc_new _ _)
  have hs1 : Hid (W1.heap.size = w.heap.size + 1) := Lib.hid (by rw [← hW1, sizeA])
  have HK := Lib.hid (refcopy_any B hB d (.mk tag 3 0 ⟨#[]⟩ ks) L W1 (h.ext X1.out))
  have HE1 := Lib.hid hW1
  clear h hW1
  go_enter Tryz.func31, Tryz.ntmps31
  go_wp2_with (rw [HE1.out])
  refine HK.out.mono ?_
  rintro e w5 ⟨⟨M, he, hK⟩, hX5⟩
  have he : e = .returned (.agg #[.int .i64 tag, .int .i64 3, .int .i64 0, .string ⟨#[]⟩, .slice M.1 ks.length M.2]) := he
  subst he
  have HKK := Lib.hid hK
  have HBR6 := Lib.hid (hX5.blockAt HBR.out)
  have X6 := Lib.hid (X1.out.trans hX5)
  clear hK hX5 HK
  obtain ⟨Av, cv⟩ := M
  obtain ⟨kl, hkl⟩ : ∃ q, ks.length = q := ⟨_, rfl⟩
  have HKL := Lib.hid hkl
  dsimp only
  rw [hkl]
  clear hkl
  go_wp2_with (refine wpList_store_row rfl _ _ _ rfl w.heap.size #[.int .i64 tag, .int .i64 3, .int .i64 0, .string ⟨#[]⟩, .slice Av kl cv] rfl rfl _ #[.int .i64 0, .int .i64 0, .int .i64 0, .string ⟨#[]⟩, .slice none 0 0] HBR6.out (by kernel_rfl) rfl (by simp [Value.oneCell']) ?_)
  refine bodyPost_ret (v := .agg #[.int .i64 tag, .int .i64 3, .int .i64 0, .string ⟨#[]⟩, .slice Av kl cv]) (results_cell_row Tryz.results31 _ _ w.heap.size _ _ _ _ rfl (setRow_at (cs' := #[.int .i64 tag, .int .i64 3, .int .i64 0, .string ⟨#[]⟩, .slice Av kl cv]) HBR6.out) Tryz.underlying52 rfl (by kernel_rfl)) rfl ?_
  refine ⟨⟨(Av, cv), by rw [← HKL.out]; rfl, ?_⟩, X6.out.setRow (Nat.le_refl _) _⟩
  have hs := hs1.out
  exact (HKK.out.keep (by simp [World.setRow]) fun b hb _ => setRow_other _ _ (show b ≠ w.heap.size by omega)).to fun b hb => by omega
end Go.Proofs.YtnlenappjjlbjaaGreatDoor
