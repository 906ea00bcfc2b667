/- Copies of grids and of banks: contracts. Conditions: those of each theorem. -/
import Derived.Test.YtfnmgcblhebdbaaGreatDoorBkH
namespace Go.Proofs.YtfnmgcblhebdbaaGreatDoor
open Go.RowKit
namespace Bk
theorem infoGr {CS : Array Value} (h : CS.size = 2) : (Tryz.prog.info? 24).map (·.size) = some CS.size := by rw [h]; kernel_rfl
/-- A copy of a grid. -/
def RetGr (w : World) (p q : IL) (n m : Nat) (e : Ending) (w' : World) : Prop := ∃ (A D : Option Addr) (c d : Nat), e = .returned (.agg #[.slice A n c, .slice D m d]) ∧ Got eI w' w.heap.size A p.xs c ∧ Got eI w' w.heap.size D q.xs d
/-- What each operation of the region leaves. -/
def cgrL (n0 n m c d : Nat) (A D : Option Addr) (xs ys : List Int) : List (Option Value → World → Prop) := [fun u _ => u = some (.pointer (some ⟨n0, 0, none⟩)),
  fun u _ => u = some (.slice A n c),
  fun u w => ∃ W : Option Addr × Nat, u = some (.slice W.1 n W.2) ∧ Got eI w n0 W.1 xs W.2,
  fun u _ => u = some (.pointer (some ⟨n0, 1, none⟩)),
  fun u _ => u = some (.slice D m d),
  fun u w => ∃ W : Option Addr × Nat, u = some (.slice W.1 m W.2) ∧ Got eI w n0 W.1 ys W.2,
  fun u w => ∃ W : (Option Addr × Nat) × Option Addr × Nat, u = some (.agg #[.slice W.1.1 n W.1.2, .slice W.2.1 m W.2.2]) ∧ Got eI w n0 W.1.1 xs W.1.2 ∧ Got eI w n0 W.2.1 ys W.2.2,
  fun _ w => ∃ W : (Option Addr × Nat) × Option Addr × Nat, w.heap[n0 + 1]? = some (.cells #[.slice W.1.1 n W.1.2, .slice W.2.1 m W.2.2] 24 (0, 0)) ∧ Got eI w n0 W.1.1 xs W.1.2 ∧ Got eI w n0 W.2.1 ys W.2.2,
  fun _ w => w.heap[n0 + 1]? = some (.cells #[.slice none 0 0, .slice none 0 0] 24 (0, 0))]
theorem cgrL_mono (n0 n m c d : Nat) (A D : Option Addr) (xs ys : List Int) : AllMono (cgrL n0 n m c d A D xs ys) := ⟨mono_val _, mono_val _, (fun _ _ _ he h => h.elim fun W h => ⟨W, h.1, h.2.ext he⟩), mono_val _, mono_val _, (fun _ _ _ he h => h.elim fun W h => ⟨W, h.1, h.2.ext he⟩), (fun _ _ _ he h => h.elim fun W h => ⟨W, h.1, h.2.1.ext he, h.2.2.ext he⟩), (fun _ _ _ he h => h.elim fun W h => ⟨W, he.blockAt h.1, h.2.1.ext he, h.2.2.ext he⟩), (fun _ _ _ he h => he.blockAt h), trivial⟩
def cgrR (n0 n m c d : Nat) (A D : Option Addr) (xs ys : List Int) (j : Nat) (u : Option Value) (w : World) : Prop := (cgrL n0 n m c d A D xs ys).getD j (fun _ _ => True) u w
theorem cgrR_ext (n0 n m c d : Nat) (A D : Option Addr) (xs ys : List Int) (j : Nat) (u : Option Value) (w w' : World) (he : Ext w w') (hR : cgrR n0 n m c d A D xs ys j u w) : cgrR n0 n m c d A D xs ys j u w' := ((cgrL_mono n0 n m c d A D xs ys).at_ j) u w w' he hR
def cgrD : List Nat := [3, 4, 5, 6, 7, 8, 9, 900, 901]
def cgrC (j : Nat) : Option Nat := if j = 2 then some 6 else if j = 5 then some 6 else if j = 6 then some 7 else if j = 8 then some 7 else none
def cgrE (n0 : Nat) (t : Array Value) : Prop := t.getD 1 undef = .pointer (some ⟨n0, 0, none⟩) ∧ t.getD 2 undef = .pointer (some ⟨n0 + 1, 0, none⟩) ∧ t.size = 10

set_option maxRecDepth 100000 in
set_option maxHeartbeats 25600000 in
theorem bcopyGrid_any (p q : IL) {n m : Nat} (hn : p.xs.length = n) (hm : q.xs.length = m) (w : World) (hp : p.In w) (hq : q.In w) (hz1 : n * 8 ≤ 140737488355328) (hz2 : m * 8 ≤ 140737488355328) :
    Calls Tryz.prog 28 #[.agg #[.slice p.A n p.c, .slice q.A m q.c]] w fun e w' => RetGr w p q n m e w' ∧ Ext w w' := by
  have HN := Lib.hid hn
  have HM := Lib.hid hm
  obtain ⟨B, hB⟩ : ∃ B, w.alloc (.cells #[.slice p.A n p.c, .slice q.A m q.c] 24) = B := ⟨_, rfl⟩
  have HBX : Hid (Ext w B) := Lib.hid (by rw [← hB]; exact (Ext.refl _).alloc _)
  have HBS : Hid (B.heap.size = w.heap.size + 1) := Lib.hid (by rw [← hB]; simp)
  have HBA : Hid (B.heap[w.heap.size]? = some (.cells #[.slice p.A n p.c, .slice q.A m q.c] 24 (0, 0))) := Lib.hid (by rw [← hB]; exact heap_alloc_new _ _)
  have HBH := Lib.hid hB
  have CP : Hid (B.cell? ⟨w.heap.size, 0, none⟩ = some (.slice p.A n p.c)) := Lib.hid (cell_of_row _ _ 0 _ _ _ HBA.out)
  have CQ : Hid (B.cell? ⟨w.heap.size, 1, none⟩ = some (.slice q.A m q.c)) := Lib.hid (cell_of_row _ _ 1 _ _ _ HBA.out)
  have HSP : Hid (SlX eI B p.A p.xs) := Lib.hid (SlX.ofI (hp.1.ext HBX.out) hp.2.2.2)
  have HSQ : Hid (SlX eI B q.A q.xs) := Lib.hid (SlX.ofI (hq.1.ext HBX.out) hq.2.2.2)
  have EN := Lib.hid (enters_of Tryz.func58 (by kernel_rfl) rfl)
  have IG2 : Hid ((Tryz.prog.info? 24).map (·.size) = some 2) := Lib.hid (infoGr (CS := #[.slice none 0 0, .slice none 0 0]) rfl)
  have HZ0 : Hid ((B.alloc (.cells #[.slice none 0 0, .slice none 0 0] 24)).heap[w.heap.size + 1]? = some (.cells #[.slice none 0 0, .slice none 0 0] 24 (0, 0))) := Lib.hid (heap_new_at _ _ _ HBS.out.symm)
  clear hn hm hp hq hB
  go_enter Tryz.func28, Tryz.ntmps28
  go_wp2_with fail
  refine region_tb (by kernel_rfl) (by decide +kernel) (cgrE w.heap.size) ⟨rfl, rfl, rfl⟩ 9 cgrD cgrC (cgrR w.heap.size n m p.c q.c p.A q.A p.xs q.xs) B (by rw [HBH.out]; exact (Ext.refl _).alloc _) (fun i h1 h2 => by
      have h3 : 8 ≤ i := h1
      have h4 : i < 9 := h2
      obtain rfl : i = 8 := by omega
      show (World.heap _)[w.heap.size + 1]? = _
      rw [HBH.out]
      exact ((Ext.refl _).drew).blockAt HZ0.out) ?_ ?_
  · intro Tv dd lv U wz i o hE ho hlv hd hT
    obtain ⟨t1, t2, tz⟩ := hE
    have hx := hT.ext
    match i, ho, hlv, hd with
    | 0, ho, hlv, hd =>
      obtain rfl := Option.some.inj ho
      have v0 := eval_old (d := dd) (hT.out 1 (by decide)) (by omega) t1
      refine tbw_yield (v := .pointer (some ⟨w.heap.size, 0, none⟩)) (cgrR_ext w.heap.size n m p.c q.c p.A q.A p.xs q.xs) hT ho hd (wanted_plain rfl) rfl (by decide) (by decide) ?_ (Ext.refl _) rfl
      generalize Act.eval ⟨over Tv U, dd⟩ = ev at *
      simp [execOp, go_sem, v0]
    | 1, ho, hlv, hd =>
      obtain rfl := Option.some.inj ho
      have f0 : U 3 = some (.pointer (some ⟨w.heap.size, 0, none⟩)) := hT.facts 0 (by decide) (dep hd 0 (by kernel_rfl)) (fun c e => by cases e)
      have v0 : Act.eval ⟨over Tv U, dd⟩ (.tmp 3) = _ := eval_new (t := Tv) (d := dd) f0 (by show 3 < Tv.size; omega)
      have hc := hx.keep CP.out
      refine tbw_yield (v := .slice p.A n p.c) (cgrR_ext w.heap.size n m p.c q.c p.A q.A p.xs q.xs) hT ho hd (wanted_plain rfl) rfl (by decide) (by decide) ?_ (Ext.refl _) rfl
      generalize Act.eval ⟨over Tv U, dd⟩ = ev at *
      simp [execOp, go_sem, v0, hc]
    | 2, ho, hlv, hd =>
      obtain rfl := Option.some.inj ho
      have f0 : U 4 = some (.slice p.A n p.c) := hT.facts 1 (by decide) (dep hd 1 (by kernel_rfl)) (fun c e => by cases e)
      have v0 : Act.eval ⟨over Tv U, dd⟩ (.tmp 4) = _ := eval_new (t := Tv) (d := dd) f0 (by show 4 < Tv.size; omega)
      refine tbw_call (f := 58) (args := #[.slice p.A n p.c]) (cgrR_ext w.heap.size n m p.c q.c p.A q.A p.xs q.xs) hT ho hd (wanted_plain rfl) rfl (by decide) (by decide) (exec_call1 rfl rfl v0 EN.out) ?_
      refine (cloneI _ _ _ HN.out wz (HSP.out.ext hx) hz1).mono ?_
      rintro e w' hr
      obtain ⟨A1, c1, rfl, hg, hb⟩ := hr.got HN.out (fun _ _ => trivial)
      exact ⟨_, rfl, hb, (A1, c1), rfl, hg.low (Nat.le_trans (by rw [HBS.out]; omega) hx.size)⟩
    | 3, ho, hlv, hd =>
      obtain rfl := Option.some.inj ho
      have v0 := eval_old (d := dd) (hT.out 1 (by decide)) (by omega) t1
      refine tbw_yield (v := .pointer (some ⟨w.heap.size, 1, none⟩)) (cgrR_ext w.heap.size n m p.c q.c p.A q.A p.xs q.xs) hT ho hd (wanted_plain rfl) rfl (by decide) (by decide) ?_ (Ext.refl _) rfl
      generalize Act.eval ⟨over Tv U, dd⟩ = ev at *
      simp [execOp, go_sem, v0]
    | 4, ho, hlv, hd =>
      obtain rfl := Option.some.inj ho
      have f0 : U 6 = some (.pointer (some ⟨w.heap.size, 1, none⟩)) := hT.facts 3 (by decide) (dep hd 3 (by kernel_rfl)) (fun c e => by cases e)
      have v0 : Act.eval ⟨over Tv U, dd⟩ (.tmp 6) = _ := eval_new (t := Tv) (d := dd) f0 (by show 6 < Tv.size; omega)
      have hc := hx.keep CQ.out
      refine tbw_yield (v := .slice q.A m q.c) (cgrR_ext w.heap.size n m p.c q.c p.A q.A p.xs q.xs) hT ho hd (wanted_plain rfl) rfl (by decide) (by decide) ?_ (Ext.refl _) rfl
      generalize Act.eval ⟨over Tv U, dd⟩ = ev at *
      simp [execOp, go_sem, v0, hc]
    | 5, ho, hlv, hd =>
      obtain rfl := Option.some.inj ho
      have f0 : U 7 = some (.slice q.A m q.c) := hT.facts 4 (by decide) (dep hd 4 (by kernel_rfl)) (fun c e => by cases e)
      have v0 : Act.eval ⟨over Tv U, dd⟩ (.tmp 7) = _ := eval_new (t := Tv) (d := dd) f0 (by show 7 < Tv.size; omega)
      refine tbw_call (f := 58) (args := #[.slice q.A m q.c]) (cgrR_ext w.heap.size n m p.c q.c p.A q.A p.xs q.xs) hT ho hd (wanted_plain rfl) rfl (by decide) (by decide) (exec_call1 rfl rfl v0 EN.out) ?_
      refine (cloneI _ _ _ HM.out wz (HSQ.out.ext hx) hz2).mono ?_
      rintro e w' hr
      obtain ⟨A1, c1, rfl, hg, hb⟩ := hr.got HM.out (fun _ _ => trivial)
      exact ⟨_, rfl, hb, (A1, c1), rfl, hg.low (Nat.le_trans (by rw [HBS.out]; omega) hx.size)⟩
    | 6, ho, hlv, hd =>
      obtain rfl := Option.some.inj ho
      obtain ⟨W, e0, h1⟩ : ∃ W : Option Addr × Nat, U 5 = some (.slice W.1 n W.2) ∧ Got eI wz w.heap.size W.1 p.xs W.2 := hT.facts 2 (by decide) (dep hd 2 (by kernel_rfl)) (fun c e => by injection e with e; subst e; exact hlv)
      have v0 : Act.eval ⟨over Tv U, dd⟩ (.tmp 5) = _ := eval_new (t := Tv) (d := dd) e0 (by show 5 < Tv.size; omega)
      obtain ⟨V, e1, h2⟩ : ∃ W : Option Addr × Nat, U 8 = some (.slice W.1 m W.2) ∧ Got eI wz w.heap.size W.1 q.xs W.2 := hT.facts 5 (by decide) (dep hd 5 (by kernel_rfl)) (fun c e => by injection e with e; subst e; exact hlv)
      have v1 : Act.eval ⟨over Tv U, dd⟩ (.tmp 8) = _ := eval_new (t := Tv) (d := dd) e1 (by show 8 < Tv.size; omega)
      refine tbw_yield (v := .agg #[.slice W.1 n W.2, .slice V.1 m V.2]) (cgrR_ext w.heap.size n m p.c q.c p.A q.A p.xs q.xs) hT ho hd (wanted_plain rfl) rfl (by decide) (by decide) (exec_buildL 24 _ rfl [(0, .slice W.1 n W.2), (1, .slice V.1 m V.2)] (by simp [v0, v1]) _ (by kernel_rfl)) (Ext.refl _) ⟨(W, V), rfl, h1, h2⟩
    | 7, ho, hlv, hd =>
      obtain rfl := Option.some.inj ho
      obtain ⟨W, e1, h1, h2⟩ : ∃ W : (Option Addr × Nat) × Option Addr × Nat, U 9 = some (.agg #[.slice W.1.1 n W.1.2, .slice W.2.1 m W.2.2]) ∧ Got eI wz w.heap.size W.1.1 p.xs W.1.2 ∧ Got eI wz w.heap.size W.2.1 q.xs W.2.2 := hT.facts 6 (by decide) (dep hd 6 (by kernel_rfl)) (fun c e => by injection e with e; subst e; exact hlv)
      have v1 : Act.eval ⟨over Tv U, dd⟩ (.tmp 9) = _ := eval_new (t := Tv) (d := dd) e1 (by show 9 < Tv.size; omega)
      have v0 := eval_old (d := dd) (hT.out 2 (by decide)) (by omega) t2
      have hblk : wz.heap[w.heap.size + 1]? = some (.cells #[.slice none 0 0, .slice none 0 0] 24 (0, 0)) := hT.facts 8 (by decide) (hT.past 8 (by decide)) (fun c e => by injection e with e; subst e; exact hlv)
      have hb9 := But.setRow (w.heap.size + 1) wz #[.slice W.1.1 n W.1.2, .slice W.2.1 m W.2.2]
      refine tb_store (w' := wz.setRow (w.heap.size + 1) #[.slice W.1.1 n W.1.2, .slice W.2.1 m W.2.2]) hT ho hd rfl rfl (exec_store_row 24 (.tmp 2) (.tmp 9) rfl (w.heap.size + 1) _ v0 v1 24 _ hblk IG2.out rfl (by simp [Value.oneCell'])) (hx.rowSet (by rw [HBS.out]; omega) _) ⟨W, setRow_heap _ _ _ _ _ _ hblk, h1.keepT hblk (by decide) (fun _ _ => trivial) hb9, h2.keepT hblk (by decide) (fun _ _ => trivial) hb9⟩ ?_
      intro j hj hji hlj hcj hR
      match j, hj, hR with
      | 0, _, hR => exact hR
      | 1, _, hR => exact hR
      | 2, _, _ => exact absurd (dep hd 6 (by kernel_rfl)) (by rw [(hcj 6 rfl).2]; decide)
      | 3, _, hR => exact hR
      | 4, _, hR => exact hR
      | 5, _, _ => exact absurd (dep hd 6 (by kernel_rfl)) (by rw [(hcj 6 rfl).2]; decide)
      | 6, _, _ => exact absurd rfl (hcj 7 rfl).1
      | 7, _, _ => exact absurd rfl hji
      | 8, _, _ => exact absurd rfl (hcj 7 rfl).1
      | j + 9, hj, _ => exact absurd hj (by omega)
    | i + 8, ho, _, _ => exact absurd ho (by simp)
  intro U wz hex hout hfin
  obtain ⟨W, hblk, h1, h2⟩ := hfin 7 (by decide) rfl
  have XE := Lib.hid hex
  clear hex hfin
  rw [over_list]
  simp (disch := decide) only [overL, Nat.reduceAdd, hout, Option.getD_none]
  clear hout
  go_wp2
  refine bodyPost_ret (v := .agg #[.slice W.1.1 n W.1.2, .slice W.2.1 m W.2.2]) (results_oneR Tryz.results28 _ _ (w.heap.size + 1) _ _ _ _ rfl hblk Tryz.underlying24 rfl (infoGr rfl)) rfl ?_
  exact ⟨⟨W.1.1, W.2.1, W.1.2, W.2.2, rfl, h1, h2⟩, HBX.out.trans XE.out⟩
/-- What is kept of a copied bank while its entries are copied. -/
structure KBk (b : BankL) (N g : Nat) (P Q O S E : Option Addr × Nat) (w : World) : Prop where
  p : Got eI w N P.1 b.gp.xs P.2
  q : Got eI w N Q.1 b.gq.xs Q.2
  o : Got eTpc w N O.1 b.outl O.2
  s : Got eAst w N S.1 b.assets S.2
  e : Got ePar w N E.1 b.enem E.2
  po : OffX eI g P.1 b.gp.xs
  qo : OffX eI g Q.1 b.gq.xs
  oo : OffX eTpc g O.1 b.outl
  so : OffX eAst g S.1 b.assets
  eo : OffX ePar g E.1 b.enem
theorem KBk.ext {b : BankL} {N g : Nat} {P Q O S E : Option Addr × Nat} {w w' : World} (h : KBk b N g P Q O S E w) (he : Ext w w') : KBk b N g P Q O S E w' := ⟨h.p.ext he, h.q.ext he, h.o.ext he, h.s.ext he, h.e.ext he, h.po, h.qo, h.oo, h.so, h.eo⟩
theorem KBk.kt {b : BankL} {N g : Nat} {P Q O S E : Option Addr × Nat} {w w' : World} {q : Nat} {cur : Array Value} {T : TypeId} {fr : Nat × Nat} (hq : w.heap[q]? = some (.cells cur T fr)) (h1 : 3 ≠ T) (h2 : 41 ≠ T) (h3 : 43 ≠ T) (h4 : 80 ≠ T) (hb : But q w w') (h : KBk b N g P Q O S E w) : KBk b N g P Q O S E w' :=
  ⟨h.p.keepT hq h1 (fun _ _ => trivial) hb, h.q.keepT hq h1 (fun _ _ => trivial) hb, h.o.keepT hq h2 (fun _ _ => trivial) hb, h.s.keepT hq h3 (fun _ _ => trivial) hb, h.e.keepT hq h4 (fun _ _ => trivial) hb, h.po, h.qo, h.oo, h.so, h.eo⟩
theorem KBk.kg {b : BankL} {N g : Nat} {P Q O S E : Option Addr × Nat} (w w' : World) (hb : But g w w') (h : KBk b N g P Q O S E w) : KBk b N g P Q O S E w' :=
  ⟨h.p.butO hb h.po, h.q.butO hb h.qo, h.o.butO hb h.oo, h.s.butO hb h.so, h.e.butO hb h.eo, h.po, h.qo, h.oo, h.so, h.eo⟩
def KBk.kp (b : BankL) (N g : Nat) (P Q O S E : Option Addr × Nat) : Kp := ⟨KBk b N g P Q O S E, fun h he => h.ext he⟩
def ents (xs : List EntL) : List Ent := xs.map (·.ent)
theorem ents_next {xs ys : List EntL} {k : Nat} {x y : EntL} (h : ents ys = ents (xs.take k)) (hx : xs[k]? = some x) (hy : y.ent = x.ent) : ents (ys ++ [y]) = ents (xs.take (k + 1)) := by
  unfold ents at *
  rw [List.map_append, h, List.take_add_one, hx]
  simp [hy]
/-- A copy of a bank. -/
def RetBk (_ : World) (b : BankL) (e : Ending) (w' : World) : Prop := ∃ b' : BankL, e = .returned b'.agg ∧ b'.bank = b.bank ∧ b'.In w' ∧ (b.oA = none → b'.oA = none ∧ b'.oc = 0)
/-- What each operation of the region leaves. -/
def cbkL (n0 np nq no ns ne : Nat) (now : Int) (bb : BankL) : List (Option Value → World → Prop) := [fun u _ => u = some (.pointer (some ⟨n0, 0, none⟩)),
  fun u _ => u = some (.int .i64 now),
  fun u _ => u = some (.pointer (some ⟨n0, 1, none⟩)),
  fun u _ => u = some (.agg #[.slice bb.gp.A np bb.gp.c, .slice bb.gq.A nq bb.gq.c]),
  fun u w => ∃ W : (Option Addr × Nat) × (Option Addr × Nat), u = some (.agg #[.slice W.1.1 np W.1.2, .slice W.2.1 nq W.2.2]) ∧ Got eI w n0 W.1.1 bb.gp.xs W.1.2 ∧ Got eI w n0 W.2.1 bb.gq.xs W.2.2,
  fun u _ => u = some (.pointer (some ⟨n0, 3, none⟩)),
  fun u _ => u = some (.slice bb.oA no bb.oc),
  fun u w => ∃ W : Option Addr × Nat, u = some (.slice W.1 no W.2) ∧ Got eTpc w n0 W.1 bb.outl W.2 ∧ (bb.oA = none → W.1 = none ∧ W.2 = 0),
  fun u _ => u = some (.pointer (some ⟨n0, 4, none⟩)),
  fun u _ => u = some (.slice bb.aA ns bb.ac),
  fun u w => ∃ W : Option Addr × Nat, u = some (.slice W.1 ns W.2) ∧ Got eAst w n0 W.1 bb.assets W.2,
  fun u _ => u = some (.pointer (some ⟨n0, 6, none⟩)),
  fun u _ => u = some (.slice bb.nA ne bb.nc),
  fun u w => ∃ W : Option Addr × Nat, u = some (.slice W.1 ne W.2) ∧ Got ePar w n0 W.1 bb.enem W.2,
  fun u w => ∃ W : (Option Addr × Nat) × (Option Addr × Nat) × (Option Addr × Nat) × (Option Addr × Nat) × (Option Addr × Nat), u = some (.agg #[.int .i64 now, .slice W.1.1 np W.1.2, .slice W.2.1.1 nq W.2.1.2, .slice W.2.2.1.1 no W.2.2.1.2, .slice W.2.2.2.1.1 ns W.2.2.2.1.2, .slice none 0 0, .slice W.2.2.2.2.1 ne W.2.2.2.2.2]) ∧ Got eI w n0 W.1.1 bb.gp.xs W.1.2 ∧ Got eI w n0 W.2.1.1 bb.gq.xs W.2.1.2 ∧ Got eTpc w n0 W.2.2.1.1 bb.outl W.2.2.1.2 ∧ Got eAst w n0 W.2.2.2.1.1 bb.assets W.2.2.2.1.2 ∧ Got ePar w n0 W.2.2.2.2.1 bb.enem W.2.2.2.2.2 ∧ (bb.oA = none → W.2.2.1.1 = none ∧ W.2.2.1.2 = 0),
  fun u w => ∃ g : Nat, u = some (.pointer (some ⟨g, 0, none⟩)) ∧ n0 + 1 + 1 ≤ g ∧ w.heap[g]? = some (.cells #[.int .i64 0, .slice none 0 0, .slice none 0 0, .slice none 0 0, .slice none 0 0, .slice none 0 0, .slice none 0 0] 31 (0, 0)),
  fun u w => ∃ V : Nat × (Option Addr × Nat) × (Option Addr × Nat) × (Option Addr × Nat) × (Option Addr × Nat) × (Option Addr × Nat), u = some (.pointer (some ⟨V.1, 0, none⟩)) ∧ n0 + 1 + 1 ≤ V.1 ∧ w.heap[V.1]? = some (.cells #[.int .i64 now, .slice V.2.1.1 np V.2.1.2, .slice V.2.2.1.1 nq V.2.2.1.2, .slice V.2.2.2.1.1 no V.2.2.2.1.2, .slice V.2.2.2.2.1.1 ns V.2.2.2.2.1.2, .slice none 0 0, .slice V.2.2.2.2.2.1 ne V.2.2.2.2.2.2] 31 (0, 0)) ∧ Got eI w n0 V.2.1.1 bb.gp.xs V.2.1.2 ∧ Got eI w n0 V.2.2.1.1 bb.gq.xs V.2.2.1.2 ∧ Got eTpc w n0 V.2.2.2.1.1 bb.outl V.2.2.2.1.2 ∧ Got eAst w n0 V.2.2.2.2.1.1 bb.assets V.2.2.2.2.1.2 ∧ Got ePar w n0 V.2.2.2.2.2.1 bb.enem V.2.2.2.2.2.2 ∧ (bb.oA = none → V.2.2.2.1.1 = none ∧ V.2.2.2.1.2 = 0)]
theorem cbkL_mono (n0 np nq no ns ne : Nat) (now : Int) (bb : BankL) : AllMono (cbkL n0 np nq no ns ne now bb) := ⟨mono_val _, mono_val _, mono_val _, mono_val _, (fun _ _ _ he h => h.elim fun W h => ⟨W, h.1, h.2.1.ext he, h.2.2.ext he⟩), mono_val _, mono_val _, (fun _ _ _ he h => h.elim fun W h => ⟨W, h.1, h.2.1.ext he, h.2.2⟩), mono_val _, mono_val _, (fun _ _ _ he h => h.elim fun W h => ⟨W, h.1, h.2.ext he⟩), mono_val _, mono_val _, (fun _ _ _ he h => h.elim fun W h => ⟨W, h.1, h.2.ext he⟩), (fun _ _ _ he h => h.elim fun W h => ⟨W, h.1, h.2.1.ext he, h.2.2.1.ext he, h.2.2.2.1.ext he, h.2.2.2.2.1.ext he, h.2.2.2.2.2.1.ext he, h.2.2.2.2.2.2⟩), (fun _ _ _ he h => h.elim fun W h => ⟨W, h.1, h.2.1, he.blockAt h.2.2⟩), (fun _ _ _ he h => h.elim fun W h => ⟨W, h.1, h.2.1, he.blockAt h.2.2.1, h.2.2.2.1.ext he, h.2.2.2.2.1.ext he, h.2.2.2.2.2.1.ext he, h.2.2.2.2.2.2.1.ext he, h.2.2.2.2.2.2.2.1.ext he, h.2.2.2.2.2.2.2.2⟩), trivial⟩
def cbkR (n0 np nq no ns ne : Nat) (now : Int) (bb : BankL) (j : Nat) (u : Option Value) (w : World) : Prop := (cbkL n0 np nq no ns ne now bb).getD j (fun _ _ => True) u w
theorem cbkR_ext (n0 np nq no ns ne : Nat) (now : Int) (bb : BankL) (j : Nat) (u : Option Value) (w w' : World) (he : Ext w w') (hR : cbkR n0 np nq no ns ne now bb j u w) : cbkR n0 np nq no ns ne now bb j u w' := ((cbkL_mono n0 np nq no ns ne now bb).at_ j) u w w' he hR
def cbkD : List Nat := [6, 7, 8, 9, 10, 11, 12, 13, 14, 15, 16, 17, 18, 19, 20, 3, 3]
def cbkC (j : Nat) : Option Nat := if j = 4 then some 14 else if j = 7 then some 14 else if j = 10 then some 14 else if j = 13 then some 14 else if j = 14 then some 16 else if j = 15 then some 16 else none
def cbkE (n0 : Nat) (t : Array Value) : Prop := t.getD 1 undef = .pointer (some ⟨n0, 0, none⟩) ∧ t.size = 37

/-- What each operation of the region leaves. -/
def cbeL (g N k cr q5 : Nat) (Ar : Option Addr) (ys : List EntL) (CI CK : Array Value) (it : Ent) (K : Kp) : List (Option Value → World → Prop) := [fun u _ => u = some (.pointer (some ⟨g, 5, none⟩)),
  fun u _ => u = some (.slice Ar k cr),
  fun u _ => u = some (.agg CI),
  fun u w => PNew eEnt (N) (fun y : EntL => y.ent = it) (EntL.agg) u w,
  fun u w => POne eEnt (N) (fun y : EntL => y.ent = it) u w,
  fun u w => PApp eEnt (fun y : EntL => y.ent = it) 56 (g + 1) ys (g) (CK) 31 (K) u w,
  fun u _ => u = some (.pointer (some ⟨g, 5, none⟩)),
  fun _ w => PSto eEnt (fun y : EntL => y.ent = it) 56 (g + 1) ys (g) 5 (CK) 31 (K) w,
  fun _ w => PRow eEnt 56 (N) (g + 1) (.slice Ar k cr) ys (g) (CK) 31 (K) (Kp.blk q5 CI 56) w]
theorem cbeL_mono (g N k cr q5 : Nat) (Ar : Option Addr) (ys : List EntL) (CI CK : Array Value) (it : Ent) (K : Kp) : AllMono (cbeL g N k cr q5 Ar ys CI CK it K) := ⟨mono_val _, mono_val _, mono_val _, (fun _ _ _ he h => PNew.mono he h), (fun _ _ _ he h => POne.mono he h), (fun _ _ _ he h => PApp.mono he h), mono_val _, (fun _ _ _ he h => PSto.mono he h), (fun _ _ _ he h => PRow.mono he h), trivial⟩
def cbeR (g N k cr q5 : Nat) (Ar : Option Addr) (ys : List EntL) (CI CK : Array Value) (it : Ent) (K : Kp) (j : Nat) (u : Option Value) (w : World) : Prop := (cbeL g N k cr q5 Ar ys CI CK it K).getD j (fun _ _ => True) u w
theorem cbeR_ext (g N k cr q5 : Nat) (Ar : Option Addr) (ys : List EntL) (CI CK : Array Value) (it : Ent) (K : Kp) (j : Nat) (u : Option Value) (w w' : World) (he : Ext w w') (hR : cbeR g N k cr q5 Ar ys CI CK it K j u w) : cbeR g N k cr q5 Ar ys CI CK it K j u w' := ((cbeL_mono g N k cr q5 Ar ys CI CK it K).at_ j) u w w' he hR
def cbeD : List Nat := [28, 29, 30, 31, 32, 33, 34, 900, 901]
def cbeC (j : Nat) : Option Nat := if j = 3 then some 4 else if j = 4 then some 5 else if j = 5 then some 7 else if j = 8 then some 5 else none
def cbeE (g q5 : Nat) (t : Array Value) : Prop := t.getD 3 undef = .pointer (some ⟨g, 0, none⟩) ∧ t.getD 5 undef = .pointer (some ⟨q5, 0, none⟩) ∧ t.size = 37

set_option maxRecDepth 100000 in
set_option maxHeartbeats 25600000 in
theorem bcopyBank_any (b : BankL) (w : World) (h : b.In w) (hz : BankSz b.bank) :
    Calls Tryz.prog 29 #[b.agg] w fun e w' => RetBk w b e w' ∧ Ext w w' := by
  obtain ⟨CBK, hcb, hnb, h1b, hkb⟩ := b.packed
  rw [hcb]
  obtain ⟨B, hB⟩ : ∃ B, (w.alloc (.cells CBK 31)).alloc (.cells #[.int .i64 0, .slice none 0 0, .slice none 0 0, .slice none 0 0, .slice none 0 0, .slice none 0 0, .slice none 0 0] 31) = B := ⟨_, rfl⟩
  have HBX : Hid (Ext w B) := Lib.hid (by rw [← hB]; exact ((Ext.refl _).alloc _).alloc _)
  have HBS : Hid (B.heap.size = w.heap.size + 1 + 1) := Lib.hid (by rw [← hB]; simp)
  have HBA : Hid (B.heap[w.heap.size]? = some (.cells CBK 31 (0, 0))) := Lib.hid (by rw [← hB]; exact two_fst' _ _ _)
  have HBZ : Hid (B.heap[w.heap.size + 1]? = some (.cells #[.int .i64 0, .slice none 0 0, .slice none 0 0, .slice none 0 0, .slice none 0 0, .slice none 0 0, .slice none 0 0] 31 (0, 0))) := Lib.hid (by rw [← hB]; exact heap_new_at _ _ _ (by simp))
  have HBH := Lib.hid hB
  have H := Lib.hid h
  obtain ⟨np, hnp⟩ : ∃ n, b.gp.xs.length = n := ⟨_, rfl⟩
  obtain ⟨nq, hnq⟩ : ∃ n, b.gq.xs.length = n := ⟨_, rfl⟩
  obtain ⟨no, hno⟩ : ∃ n, b.outl.length = n := ⟨_, rfl⟩
  obtain ⟨ns, hns⟩ : ∃ n, b.assets.length = n := ⟨_, rfl⟩
  obtain ⟨ne, hne⟩ : ∃ n, b.enem.length = n := ⟨_, rfl⟩
  obtain ⟨nv, hnv⟩ : ∃ n, b.ents.length = n := ⟨_, rfl⟩
  have HNP := Lib.hid hnp
  have HNQ := Lib.hid hnq
  have HNO := Lib.hid hno
  have HNS := Lib.hid hns
  have HNE := Lib.hid hne
  have HNV := Lib.hid hnv
  have hz1 : np * 8 ≤ 140737488355328 := by rw [← hnp]; exact hz.pts
  have hz2 : nq * 8 ≤ 140737488355328 := by rw [← hnq]; exact hz.prior
  have hz3 : no * 32 ≤ 140737488355328 := by rw [← hno]; exact hz.outl
  have hz4 : ns * 48 ≤ 140737488355328 := by rw [← hns]; exact hz.assets
  have hz5 : ne * 16 ≤ 140737488355328 := by rw [← hne]; exact hz.enem
  have HZV : Hid (nv * 136 ≤ 140737488355328) := Lib.hid (by have := hz.ents; unfold BankL.bank at this; simp only [List.length_map, hnv] at this; exact this)
  have HZI : Hid (∀ x ∈ b.ents, EntSz x.ent) := Lib.hid (fun x hx => hz.ent x.ent (List.mem_map.2 ⟨x, hx, rfl⟩))
  have CN0 : Hid (B.cell? ⟨w.heap.size, 0, none⟩ = some (.int .i64 b.now)) := Lib.hid ((cell_of_row _ _ 0 _ _ _ HBA.out).trans (by rw [← hkb]; rfl))
  have CO0 : Hid (B.cell? ⟨w.heap.size, 3, none⟩ = some (.slice b.oA no b.oc)) := Lib.hid ((cell_of_row _ _ 3 _ _ _ HBA.out).trans (by rw [← hkb, ← hno]; rfl))
  have CS0 : Hid (B.cell? ⟨w.heap.size, 4, none⟩ = some (.slice b.aA ns b.ac)) := Lib.hid ((cell_of_row _ _ 4 _ _ _ HBA.out).trans (by rw [← hkb, ← hns]; rfl))
  have CE0 : Hid (B.cell? ⟨w.heap.size, 6, none⟩ = some (.slice b.nA ne b.nc)) := Lib.hid ((cell_of_row _ _ 6 _ _ _ HBA.out).trans (by rw [← hkb, ← hne]; rfl))
  obtain ⟨VA, hVA⟩ : ∃ A, b.eA = A := ⟨_, rfl⟩
  have J5 : Hid (CBK[5]? = some (.slice VA nv b.ec)) := Lib.hid (by rw [← hkb, ← hnv, ← hVA]; rfl)
  have HVS : Hid (SlX eEnt B VA b.ents) := Lib.hid (by rw [← hVA]; exact h.ents.ext HBX.out)
  have HRG : Hid (B.rangeAt w.heap.size 1 (#[.slice b.gp.A np b.gp.c, .slice b.gq.A nq b.gq.c] : Array Value).toList) := Lib.hid (fun j v hv => by
    rw [cell_of_row _ _ (1 + j) _ _ _ HBA.out, ← hkb]
    rw [← hnp, ← hnq] at hv
    match j, hv with
    | 0, hv => exact hv
    | 1, hv => exact hv
    | j + 2, hv => simp at hv)
  have IGR : Hid ((Tryz.prog.info? 24).map (·.size) = some (#[.slice b.gp.A np b.gp.c, .slice b.gq.A nq b.gq.c] : Array Value).size) := Lib.hid (infoGr rfl)
  have IB7 : Hid ((Tryz.prog.info? 31).map (·.size) = some 7) := Lib.hid ((infoBk hnb).trans (by rw [hnb]))
  have EN1 := Lib.hid (enters_of Tryz.func28 (by kernel_rfl) rfl)
  have EN2 := Lib.hid (enters_of Tryz.func39 (by kernel_rfl) rfl)
  have ENTpc := Lib.hid (enters_of Tryz.func59 (by kernel_rfl) rfl)
  have ENAst := Lib.hid (enters_of Tryz.func60 (by kernel_rfl) rfl)
  have ENPar := Lib.hid (enters_of Tryz.func61 (by kernel_rfl) rfl)
  clear hB h hz hnp hnq hno hns hne hnv hVA hcb h1b
  go_enter Tryz.func29, Tryz.ntmps29
  go_wp2_with fail
  refine region_tb (by kernel_rfl) (by decide +kernel) (cbkE w.heap.size) ⟨rfl, rfl⟩ 17 cbkD cbkC (cbkR w.heap.size np nq no ns ne b.now b) B (by rw [HBH.out]; exact Ext.refl _) (fun i h1 h2 => absurd h2 (Nat.not_lt.2 h1)) ?_ ?_
  · intro Tv dd lv U wz i o hE ho hlv hd hT
    obtain ⟨t1, tz⟩ := hE
    have hx := hT.ext
    match i, ho, hlv, hd with
    | 0, ho, hlv, hd =>
      obtain rfl := Option.some.inj ho
      have v0 := eval_old (d := dd) (hT.out 1 (by decide)) (by omega) t1
      refine tbw_yield (v := .pointer (some ⟨w.heap.size, 0, none⟩)) (cbkR_ext w.heap.size np nq no ns ne b.now b) hT ho hd (wanted_plain rfl) rfl (by decide) (by decide) ?_ (Ext.refl _) rfl
      generalize Act.eval ⟨over Tv U, dd⟩ = ev at *
      simp [execOp, go_sem, v0]
    | 1, ho, hlv, hd =>
      obtain rfl := Option.some.inj ho
      have f0 : U 6 = some (.pointer (some ⟨w.heap.size, 0, none⟩)) := hT.facts 0 (by decide) (dep hd 0 (by kernel_rfl)) (fun c e => by cases e)
      have v0 : Act.eval ⟨over Tv U, dd⟩ (.tmp 6) = _ := eval_new (t := Tv) (d := dd) f0 (by show 6 < Tv.size; omega)
      have hc := hx.keep CN0.out
      refine tbw_yield (v := .int .i64 b.now) (cbkR_ext w.heap.size np nq no ns ne b.now b) hT ho hd (wanted_plain rfl) rfl (by decide) (by decide) ?_ (Ext.refl _) rfl
      generalize Act.eval ⟨over Tv U, dd⟩ = ev at *
      simp [execOp, go_sem, v0, hc]
    | 2, ho, hlv, hd =>
      obtain rfl := Option.some.inj ho
      have v0 := eval_old (d := dd) (hT.out 1 (by decide)) (by omega) t1
      refine tbw_yield (v := .pointer (some ⟨w.heap.size, 1, none⟩)) (cbkR_ext w.heap.size np nq no ns ne b.now b) hT ho hd (wanted_plain rfl) rfl (by decide) (by decide) ?_ (Ext.refl _) rfl
      generalize Act.eval ⟨over Tv U, dd⟩ = ev at *
      simp [execOp, go_sem, v0]
    | 3, ho, hlv, hd =>
      obtain rfl := Option.some.inj ho
      have f0 : U 8 = some (.pointer (some ⟨w.heap.size, 1, none⟩)) := hT.facts 2 (by decide) (dep hd 2 (by kernel_rfl)) (fun c e => by cases e)
      have v0 : Act.eval ⟨over Tv U, dd⟩ (.tmp 8) = _ := eval_new (t := Tv) (d := dd) f0 (by show 8 < Tv.size; omega)
      refine tbw_yield (v := .agg #[.slice b.gp.A np b.gp.c, .slice b.gq.A nq b.gq.c]) (cbkR_ext w.heap.size np nq no ns ne b.now b) hT ho hd (wanted_plain rfl) rfl (by decide) (by decide) (exec_load_arr _ _ rfl w.heap.size (1) v0 #[.slice b.gp.A np b.gp.c, .slice b.gq.A nq b.gq.c] _ (hx.range HRG.out) Tryz.underlying24 rfl IGR.out) (Ext.refl _) rfl
    | 4, ho, hlv, hd =>
      obtain rfl := Option.some.inj ho
      have f0 : U 9 = some (.agg #[.slice b.gp.A np b.gp.c, .slice b.gq.A nq b.gq.c]) := hT.facts 3 (by decide) (dep hd 3 (by kernel_rfl)) (fun c e => by cases e)
      have v0 : Act.eval ⟨over Tv U, dd⟩ (.tmp 9) = _ := eval_new (t := Tv) (d := dd) f0 (by show 9 < Tv.size; omega)
      refine tbw_call (f := 28) (args := #[.agg #[.slice b.gp.A np b.gp.c, .slice b.gq.A nq b.gq.c]]) (cbkR_ext w.heap.size np nq no ns ne b.now b) hT ho hd (wanted_plain rfl) rfl (by decide) (by decide) (exec_call1 rfl rfl v0 EN1.out) ?_
      refine (bcopyGrid_any b.gp b.gq HNP.out HNQ.out wz ((H.out.ext HBX.out).gp.ext hx) ((H.out.ext HBX.out).gq.ext hx) hz1 hz2).mono ?_
      rintro e w' ⟨⟨A, D, c, d, rfl, h1, h2⟩, hb⟩
      have hle : w.heap.size ≤ wz.heap.size := Nat.le_trans (by rw [HBS.out]; omega) hx.size
      exact ⟨_, rfl, hb, ((A, c), (D, d)), rfl, h1.low hle, h2.low hle⟩
    | 5, ho, hlv, hd =>
      obtain rfl := Option.some.inj ho
      have v0 := eval_old (d := dd) (hT.out 1 (by decide)) (by omega) t1
      refine tbw_yield (v := .pointer (some ⟨w.heap.size, 3, none⟩)) (cbkR_ext w.heap.size np nq no ns ne b.now b) hT ho hd (wanted_plain rfl) rfl (by decide) (by decide) ?_ (Ext.refl _) rfl
      generalize Act.eval ⟨over Tv U, dd⟩ = ev at *
      simp [execOp, go_sem, v0]
    | 6, ho, hlv, hd =>
      obtain rfl := Option.some.inj ho
      have f0 : U 11 = some (.pointer (some ⟨w.heap.size, 3, none⟩)) := hT.facts 5 (by decide) (dep hd 5 (by kernel_rfl)) (fun c e => by cases e)
      have v0 : Act.eval ⟨over Tv U, dd⟩ (.tmp 11) = _ := eval_new (t := Tv) (d := dd) f0 (by show 11 < Tv.size; omega)
      have hc := hx.keep CO0.out
      refine tbw_yield (v := .slice b.oA no b.oc) (cbkR_ext w.heap.size np nq no ns ne b.now b) hT ho hd (wanted_plain rfl) rfl (by decide) (by decide) ?_ (Ext.refl _) rfl
      generalize Act.eval ⟨over Tv U, dd⟩ = ev at *
      simp [execOp, go_sem, v0, hc]
    | 7, ho, hlv, hd =>
      obtain rfl := Option.some.inj ho
      have f0 : U 12 = some (.slice b.oA no b.oc) := hT.facts 6 (by decide) (dep hd 6 (by kernel_rfl)) (fun c e => by cases e)
      have v0 : Act.eval ⟨over Tv U, dd⟩ (.tmp 12) = _ := eval_new (t := Tv) (d := dd) f0 (by show 12 < Tv.size; omega)
      refine tbw_call (f := 59) (args := #[.slice b.oA no b.oc]) (cbkR_ext w.heap.size np nq no ns ne b.now b) hT ho hd (wanted_plain rfl) rfl (by decide) (by decide) (exec_call1 rfl rfl v0 ENTpc.out) ?_
      refine (cloneTpc b.oA b.oc b.outl HNO.out wz (((H.out.ext HBX.out).outl).ext hx) hz3).mono ?_
      rintro e w' hr
      obtain ⟨A1, c1, rfl, hg, hb, hnil⟩ := hr.got' HNO.out (fun _ _ => trivial)
      exact ⟨_, rfl, hb, (A1, c1), rfl, hg.low (Nat.le_trans (by rw [HBS.out]; omega) hx.size), hnil⟩
    | 8, ho, hlv, hd =>
      obtain rfl := Option.some.inj ho
      have v0 := eval_old (d := dd) (hT.out 1 (by decide)) (by omega) t1
      refine tbw_yield (v := .pointer (some ⟨w.heap.size, 4, none⟩)) (cbkR_ext w.heap.size np nq no ns ne b.now b) hT ho hd (wanted_plain rfl) rfl (by decide) (by decide) ?_ (Ext.refl _) rfl
      generalize Act.eval ⟨over Tv U, dd⟩ = ev at *
      simp [execOp, go_sem, v0]
    | 9, ho, hlv, hd =>
      obtain rfl := Option.some.inj ho
      have f0 : U 14 = some (.pointer (some ⟨w.heap.size, 4, none⟩)) := hT.facts 8 (by decide) (dep hd 8 (by kernel_rfl)) (fun c e => by cases e)
      have v0 : Act.eval ⟨over Tv U, dd⟩ (.tmp 14) = _ := eval_new (t := Tv) (d := dd) f0 (by show 14 < Tv.size; omega)
      have hc := hx.keep CS0.out
      refine tbw_yield (v := .slice b.aA ns b.ac) (cbkR_ext w.heap.size np nq no ns ne b.now b) hT ho hd (wanted_plain rfl) rfl (by decide) (by decide) ?_ (Ext.refl _) rfl
      generalize Act.eval ⟨over Tv U, dd⟩ = ev at *
      simp [execOp, go_sem, v0, hc]
    | 10, ho, hlv, hd =>
      obtain rfl := Option.some.inj ho
      have f0 : U 15 = some (.slice b.aA ns b.ac) := hT.facts 9 (by decide) (dep hd 9 (by kernel_rfl)) (fun c e => by cases e)
      have v0 : Act.eval ⟨over Tv U, dd⟩ (.tmp 15) = _ := eval_new (t := Tv) (d := dd) f0 (by show 15 < Tv.size; omega)
      refine tbw_call (f := 60) (args := #[.slice b.aA ns b.ac]) (cbkR_ext w.heap.size np nq no ns ne b.now b) hT ho hd (wanted_plain rfl) rfl (by decide) (by decide) (exec_call1 rfl rfl v0 ENAst.out) ?_
      refine (cloneAst b.aA b.ac b.assets HNS.out wz (((H.out.ext HBX.out).assets).ext hx) hz4).mono ?_
      rintro e w' hr
      obtain ⟨A1, c1, rfl, hg, hb, hnil⟩ := hr.got' HNS.out (fun _ _ => trivial)
      exact ⟨_, rfl, hb, (A1, c1), rfl, hg.low (Nat.le_trans (by rw [HBS.out]; omega) hx.size)⟩
    | 11, ho, hlv, hd =>
      obtain rfl := Option.some.inj ho
      have v0 := eval_old (d := dd) (hT.out 1 (by decide)) (by omega) t1
      refine tbw_yield (v := .pointer (some ⟨w.heap.size, 6, none⟩)) (cbkR_ext w.heap.size np nq no ns ne b.now b) hT ho hd (wanted_plain rfl) rfl (by decide) (by decide) ?_ (Ext.refl _) rfl
      generalize Act.eval ⟨over Tv U, dd⟩ = ev at *
      simp [execOp, go_sem, v0]
    | 12, ho, hlv, hd =>
      obtain rfl := Option.some.inj ho
      have f0 : U 17 = some (.pointer (some ⟨w.heap.size, 6, none⟩)) := hT.facts 11 (by decide) (dep hd 11 (by kernel_rfl)) (fun c e => by cases e)
      have v0 : Act.eval ⟨over Tv U, dd⟩ (.tmp 17) = _ := eval_new (t := Tv) (d := dd) f0 (by show 17 < Tv.size; omega)
      have hc := hx.keep CE0.out
      refine tbw_yield (v := .slice b.nA ne b.nc) (cbkR_ext w.heap.size np nq no ns ne b.now b) hT ho hd (wanted_plain rfl) rfl (by decide) (by decide) ?_ (Ext.refl _) rfl
      generalize Act.eval ⟨over Tv U, dd⟩ = ev at *
      simp [execOp, go_sem, v0, hc]
    | 13, ho, hlv, hd =>
      obtain rfl := Option.some.inj ho
      have f0 : U 18 = some (.slice b.nA ne b.nc) := hT.facts 12 (by decide) (dep hd 12 (by kernel_rfl)) (fun c e => by cases e)
      have v0 : Act.eval ⟨over Tv U, dd⟩ (.tmp 18) = _ := eval_new (t := Tv) (d := dd) f0 (by show 18 < Tv.size; omega)
      refine tbw_call (f := 61) (args := #[.slice b.nA ne b.nc]) (cbkR_ext w.heap.size np nq no ns ne b.now b) hT ho hd (wanted_plain rfl) rfl (by decide) (by decide) (exec_call1 rfl rfl v0 ENPar.out) ?_
      refine (clonePar b.nA b.nc b.enem HNE.out wz (((H.out.ext HBX.out).enem).ext hx) hz5).mono ?_
      rintro e w' hr
      obtain ⟨A1, c1, rfl, hg, hb, hnil⟩ := hr.got' HNE.out (fun _ _ => trivial)
      exact ⟨_, rfl, hb, (A1, c1), rfl, hg.low (Nat.le_trans (by rw [HBS.out]; omega) hx.size)⟩
    | 14, ho, hlv, hd =>
      obtain rfl := Option.some.inj ho
      have f7 : U 7 = some (.int .i64 b.now) := hT.facts 1 (by decide) (dep hd 1 (by kernel_rfl)) (fun c e => by cases e)
      have v7 : Act.eval ⟨over Tv U, dd⟩ (.tmp 7) = _ := eval_new (t := Tv) (d := dd) f7 (by show 7 < Tv.size; omega)
      obtain ⟨W1, e10, h1, h2⟩ : ∃ W : (Option Addr × Nat) × (Option Addr × Nat), U 10 = some (.agg #[.slice W.1.1 np W.1.2, .slice W.2.1 nq W.2.2]) ∧ Got eI wz w.heap.size W.1.1 b.gp.xs W.1.2 ∧ Got eI wz w.heap.size W.2.1 b.gq.xs W.2.2 := hT.facts 4 (by decide) (dep hd 4 (by kernel_rfl)) (fun c e => by injection e with e; subst e; exact hlv)
      have v10 : Act.eval ⟨over Tv U, dd⟩ (.tmp 10) = _ := eval_new (t := Tv) (d := dd) e10 (by show 10 < Tv.size; omega)
      obtain ⟨W3, e13, h3, h3n⟩ : ∃ W : Option Addr × Nat, U 13 = some (.slice W.1 no W.2) ∧ Got eTpc wz w.heap.size W.1 b.outl W.2 ∧ (b.oA = none → W.1 = none ∧ W.2 = 0) := hT.facts 7 (by decide) (dep hd 7 (by kernel_rfl)) (fun c e => by injection e with e; subst e; exact hlv)
      have v13 : Act.eval ⟨over Tv U, dd⟩ (.tmp 13) = _ := eval_new (t := Tv) (d := dd) e13 (by show 13 < Tv.size; omega)
      obtain ⟨W4, e16, h4⟩ : ∃ W : Option Addr × Nat, U 16 = some (.slice W.1 ns W.2) ∧ Got eAst wz w.heap.size W.1 b.assets W.2 := hT.facts 10 (by decide) (dep hd 10 (by kernel_rfl)) (fun c e => by injection e with e; subst e; exact hlv)
      have v16 : Act.eval ⟨over Tv U, dd⟩ (.tmp 16) = _ := eval_new (t := Tv) (d := dd) e16 (by show 16 < Tv.size; omega)
      obtain ⟨W5, e19, h5⟩ : ∃ W : Option Addr × Nat, U 19 = some (.slice W.1 ne W.2) ∧ Got ePar wz w.heap.size W.1 b.enem W.2 := hT.facts 13 (by decide) (dep hd 13 (by kernel_rfl)) (fun c e => by injection e with e; subst e; exact hlv)
      have v19 : Act.eval ⟨over Tv U, dd⟩ (.tmp 19) = _ := eval_new (t := Tv) (d := dd) e19 (by show 19 < Tv.size; omega)
      refine tbw_yield (v := .agg #[.int .i64 b.now, .slice W1.1.1 np W1.1.2, .slice W1.2.1 nq W1.2.2, .slice W3.1 no W3.2, .slice W4.1 ns W4.2, .slice none 0 0, .slice W5.1 ne W5.2]) (cbkR_ext w.heap.size np nq no ns ne b.now b) hT ho hd (wanted_plain rfl) rfl (by decide) (by decide) (exec_buildL 31 _ rfl [(0, .int .i64 b.now), (1, .agg #[.slice W1.1.1 np W1.1.2, .slice W1.2.1 nq W1.2.2]), (2, .slice W3.1 no W3.2), (3, .slice W4.1 ns W4.2), (5, .slice W5.1 ne W5.2)] (by simp [v7, v10, v13, v16, v19]) _ (by kernel_rfl)) (Ext.refl _) ⟨(W1.1, W1.2, W3, W4, W5), rfl, h1, h2, h3, h4, h5, h3n⟩
    | 15, ho, hlv, hd =>
      obtain rfl := Option.some.inj ho
      refine tb_extW (v := .pointer (some ⟨wz.heap.size, 0, none⟩)) (w' := wz.alloc (.cells #[.int .i64 0, .slice none 0 0, .slice none 0 0, .slice none 0 0, .slice none 0 0, .slice none 0 0, .slice none 0 0] 31)) (cbkR_ext w.heap.size np nq no ns ne b.now b) hT ho hd rfl rfl (by decide) ?_ ?_ ((Ext.refl _).alloc _) ⟨wz.heap.size, rfl, by have := hx.size; rw [HBS.out] at this; exact this, heap_alloc_new _ _⟩
      · intro j hj hji hlj
        match j, hj, hlj with
        | 0, _, _ => decide
        | 1, _, _ => decide
        | 2, _, _ => decide
        | 3, _, _ => decide
        | 4, _, _ => decide
        | 5, _, _ => decide
        | 6, _, _ => decide
        | 7, _, _ => decide
        | 8, _, _ => decide
        | 9, _, _ => decide
        | 10, _, _ => decide
        | 11, _, _ => decide
        | 12, _, _ => decide
        | 13, _, _ => decide
        | 14, _, _ => decide
        | 15, _, _ => exact absurd rfl hji
        | 16, _, hlj => exact absurd (dep (hT.shut 16 _ rfl hlj) 15 (by kernel_rfl)) (by rw [hlv]; decide)
        | j + 17, hj, _ => exact absurd hj (by omega)
      · generalize Act.eval ⟨over Tv U, dd⟩ = ev at *
        simp [execOp, go_sem]
    | 16, ho, hlv, hd =>
      obtain rfl := Option.some.inj ho
      obtain ⟨W, e20, h1, h2, h3, h4, h5, h6⟩ : ∃ W : (Option Addr × Nat) × (Option Addr × Nat) × (Option Addr × Nat) × (Option Addr × Nat) × (Option Addr × Nat), U 20 = some (.agg #[.int .i64 b.now, .slice W.1.1 np W.1.2, .slice W.2.1.1 nq W.2.1.2, .slice W.2.2.1.1 no W.2.2.1.2, .slice W.2.2.2.1.1 ns W.2.2.2.1.2, .slice none 0 0, .slice W.2.2.2.2.1 ne W.2.2.2.2.2]) ∧ Got eI wz w.heap.size W.1.1 b.gp.xs W.1.2 ∧ Got eI wz w.heap.size W.2.1.1 b.gq.xs W.2.1.2 ∧ Got eTpc wz w.heap.size W.2.2.1.1 b.outl W.2.2.1.2 ∧ Got eAst wz w.heap.size W.2.2.2.1.1 b.assets W.2.2.2.1.2 ∧ Got ePar wz w.heap.size W.2.2.2.2.1 b.enem W.2.2.2.2.2 ∧ (b.oA = none → W.2.2.1.1 = none ∧ W.2.2.1.2 = 0) := hT.facts 14 (by decide) (dep hd 14 (by kernel_rfl)) (fun c e => by injection e with e; subst e; exact hlv)
      have v20 : Act.eval ⟨over Tv U, dd⟩ (.tmp 20) = _ := eval_new (t := Tv) (d := dd) e20 (by show 20 < Tv.size; omega)
      obtain ⟨g, e0, hg, hblk⟩ : ∃ g : Nat, U 3 = some (.pointer (some ⟨g, 0, none⟩)) ∧ w.heap.size + 1 + 1 ≤ g ∧ wz.heap[g]? = some (.cells #[.int .i64 0, .slice none 0 0, .slice none 0 0, .slice none 0 0, .slice none 0 0, .slice none 0 0, .slice none 0 0] 31 (0, 0)) := hT.facts 15 (by decide) (dep hd 15 (by kernel_rfl)) (fun c e => by injection e with e; subst e; exact hlv)
      have v0 : Act.eval ⟨over Tv U, dd⟩ (.tmp 3) = _ := eval_new (t := Tv) (d := dd) e0 (by show 3 < Tv.size; omega)
      have hb9 := But.setRow g wz #[.int .i64 b.now, .slice W.1.1 np W.1.2, .slice W.2.1.1 nq W.2.1.2, .slice W.2.2.1.1 no W.2.2.1.2, .slice W.2.2.2.1.1 ns W.2.2.2.1.2, .slice none 0 0, .slice W.2.2.2.2.1 ne W.2.2.2.2.2]
      refine tb_store (w' := wz.setRow g #[.int .i64 b.now, .slice W.1.1 np W.1.2, .slice W.2.1.1 nq W.2.1.2, .slice W.2.2.1.1 no W.2.2.1.2, .slice W.2.2.2.1.1 ns W.2.2.2.1.2, .slice none 0 0, .slice W.2.2.2.2.1 ne W.2.2.2.2.2]) hT ho hd rfl rfl (exec_store_row 31 (.tmp 3) (.tmp 20) rfl g _ v0 v20 31 _ hblk IB7.out rfl (by simp [Value.oneCell'])) (hx.rowSet (by rw [HBS.out]; exact hg) _) ⟨(g, W), e0, hg, setRow_heap _ _ _ _ _ _ hblk, h1.keepT hblk (by decide) (fun _ _ => trivial) hb9, h2.keepT hblk (by decide) (fun _ _ => trivial) hb9, h3.keepT hblk (by decide) (fun _ _ => trivial) hb9, h4.keepT hblk (by decide) (fun _ _ => trivial) hb9, h5.keepT hblk (by decide) (fun _ _ => trivial) hb9, h6⟩ ?_
      intro j hj hji hlj hcj hR
      match j, hj, hR with
      | 0, _, hR => exact hR
      | 1, _, hR => exact hR
      | 2, _, hR => exact hR
      | 3, _, hR => exact hR
      | 4, _, _ => exact absurd (dep hd 14 (by kernel_rfl)) (by rw [(hcj 14 rfl).2]; decide)
      | 5, _, hR => exact hR
      | 6, _, hR => exact hR
      | 7, _, _ => exact absurd (dep hd 14 (by kernel_rfl)) (by rw [(hcj 14 rfl).2]; decide)
      | 8, _, hR => exact hR
      | 9, _, hR => exact hR
      | 10, _, _ => exact absurd (dep hd 14 (by kernel_rfl)) (by rw [(hcj 14 rfl).2]; decide)
      | 11, _, hR => exact hR
      | 12, _, hR => exact hR
      | 13, _, _ => exact absurd (dep hd 14 (by kernel_rfl)) (by rw [(hcj 14 rfl).2]; decide)
      | 14, _, _ => exact absurd rfl (hcj 16 rfl).1
      | 15, _, _ => exact absurd rfl (hcj 16 rfl).1
      | 16, _, _ => exact absurd rfl hji
      | j + 17, hj, _ => exact absurd hj (by omega)
    | i + 17, ho, _, _ => exact absurd ho (by simp)
  intro U wz hex hout hfin
  obtain ⟨W3, f3, hW3⟩ := hfin 16 (by decide) rfl
  change U 3 = _ at f3
  have XE := Lib.hid hex
  clear hex hfin
  rw [over_list]
  simp (disch := decide) only [overL, Nat.reduceAdd, hout, Option.getD_none]
  rw [f3]
  simp only [Option.getD_some]
  clear hout f3
  obtain ⟨g, P0, Q0, O0, S0, E0⟩ := W3
  obtain ⟨hg, hblk, h1, h2, h3, h4, h5, h6⟩ := hW3
  dsimp only at hg hblk h1 h2 h3 h4 h5 h6 ⊢
  obtain ⟨C3, hca⟩ : ∃ C, (#[.int .i64 b.now, .slice P0.1 np P0.2, .slice Q0.1 nq Q0.2, .slice O0.1 no O0.2, .slice S0.1 ns S0.2, .slice none 0 0, .slice E0.1 ne E0.2] : Array Value) = C := ⟨_, rfl⟩
  rw [hca] at hblk
  have HK0 : Hid (KBk b w.heap.size g P0 Q0 O0 S0 E0 wz) := Lib.hid ⟨h1, h2, h3, h4, h5, ⟨h1.ty.off hblk (by decide), fun _ _ => trivial⟩, ⟨h2.ty.off hblk (by decide), fun _ _ => trivial⟩, ⟨h3.ty.off hblk (by decide), fun _ _ => trivial⟩, ⟨h4.ty.off hblk (by decide), fun _ _ => trivial⟩, ⟨h5.ty.off hblk (by decide), fun _ _ => trivial⟩⟩
  have HNIL := Lib.hid h6
  have HCA3 := Lib.hid hca
  have HC3 := Lib.hid hblk
  have HB3 := XE
  have HBG : Hid (B.heap.size ≤ g) := Lib.hid (by rw [HBS.out]; exact hg)
  have hv63 : nv ≤ 9223372036854775807 := by have := HZV.out; omega
  have HSZ : Hid (C3.size = 7) := Lib.hid (by rw [← hca]; rfl)
  have HS0 : Hid (C3[5]? = some (.slice none 0 0)) := Lib.hid (by rw [← hca]; rfl)
  have cv : wz.cell? ⟨w.heap.size, 5, none⟩ = some (.slice VA nv b.ec) := (cell_of_row _ _ 5 _ _ _ (XE.out.blockAt HBA.out)).trans J5.out
  clear hblk h1 h2 h3 h4 h5 h6 hca XE hnb hkb HRG IGR
  obtain ⟨iI, hi, hz, hs, hb⟩ := info_parts infoEnt
  go_wp2
  go_loopw [24] (fun i wr => ∃ (k : Nat) (ys : List EntL) (Ar : Option Addr) (cr : Nat), k ≤ nv ∧ i = .int .i64 k ∧ Hid (ents ys = ents (b.ents.take k)) ∧ Hid (ys.length = k) ∧ Hid (RowX eEnt 56 wr (g + 1) (.slice Ar k cr) ys) ∧ Hid (∀ y ∈ ys, eEnt.From (g + 1) y) ∧ Hid (wr.heap[g]? = some (.cells (C3.setIfInBounds 5 (.slice Ar k cr)) 31 (0, 0))) ∧ Hid (Ext B wr) ∧ Hid (KBk b w.heap.size g P0 Q0 O0 S0 E0 wr)) (fun i _ => nv - (intOf i).toNat)
  case atStart => exact ⟨0, [], none, 0, by omega, rfl, Lib.hid rfl, Lib.hid rfl, Lib.hid (RowX.nil _ _ _), Lib.hid (fun y hy => by simp at hy), Lib.hid (by rw [set_self HS0.out]; exact HC3.out), HB3, HK0⟩
  case round =>
    obtain ⟨k, ys, Ar, cr, hk, rfl, HY, HYL, HROW, HYF, HG, HXB, HK⟩ := hrel
    clear cv
    by_cases hlt : k < nv
    · obtain ⟨x, hx⟩ : ∃ x, b.ents[k]? = some x := ⟨b.ents[k]'(by rw [HNV.out]; exact hlt), List.getElem?_eq_getElem _⟩
      obtain ⟨bb, off, rfl, hbl, hc, hin⟩ := HVS.out.at_ hx
      obtain ⟨CI, hci, hni, h1i, hki⟩ := x.packed
      have HC : Hid (wr.rangeAt bb (off + k * 7) CI.toList) := Lib.hid (HXB.out.range (by rw [← hki]; exact hc))
      have II := Lib.hid (infoEn hni)
      have NI := Lib.hid hni
      have OI := Lib.hid h1i
      have HIN : Hid (x.In B) := Lib.hid hin
      have HX := Lib.hid hx
      have HCI := Lib.hid (fun w h => bcopyEntry_any x w h (HZI.out x (List.mem_of_getElem? hx)))
      rw [hci] at HCI
      have ki0 : (0 : Int) ≤ (k : Int) := by omega
      have ki1 : (k : Int) < (nv : Int) := by omega
      clear hx hc hin hci hni h1i hki
      have XW : Hid (Ext wr (wr.alloc (.cells CI 56))) := Lib.hid ((Ext.refl _).alloc _)
      have HCO : Hid ((C3.setIfInBounds 5 (.slice Ar k cr))[5]? = some (.slice Ar k cr)) := Lib.hid (by rw [Array.getElem?_setIfInBounds, if_pos rfl, if_pos (by rw [HSZ.out]; omega)])
      have HOB : Hid (∀ q, (Value.slice Ar k cr).ownBlock = some q → q < (wr.alloc (.cells CI 56)).heap.size) := Lib.hid (fun q hq => Nat.lt_of_lt_of_le (own_lt HROW.out.own q hq) XW.out.size)
      have HBN : Hid (g + 1 ≤ (wr.alloc (.cells CI 56)).heap.size) := Lib.hid (blk_lt (XW.out.blockAt HG.out))
      have HBB : Hid (B.heap.size ≤ g + 1) := Lib.hid (Nat.le_succ_of_le HBG.out)
      have HGB : Hid (g < g + 1) := Lib.hid (Nat.lt_succ_self _)
      have HLM : Hid (ys.length + 1 ≤ maxLen) := Lib.hid (by rw [HYL.out]; unfold maxLen; omega)
      have HLB : Hid ((ys.length + 1) * 136 ≤ 140737488355328) := Lib.hid (by rw [HYL.out]; have := HZV.out; omega)
      have HFR := HYF
      have HKO : Hid (∀ (u1 u2 : World) (q : Nat) (cur : Array Value) (fr : Nat × Nat), u1.heap[q]? = some (.cells cur 56 fr) → But q u1 u2 → (KBk.kp b w.heap.size g P0 Q0 O0 S0 E0).K u1 → (KBk.kp b w.heap.size g P0 Q0 O0 S0 E0).K u2) := Lib.hid (fun w w' q cur fr h1 h2 h3 => KBk.kt h1 (by decide) (by decide) (by decide) (by decide) h2 h3)
      have HKG : Hid (∀ (u1 u2 : World), But g u1 u2 → (KBk.kp b w.heap.size g P0 Q0 O0 S0 E0).K u1 → (KBk.kp b w.heap.size g P0 Q0 O0 S0 E0).K u2) := Lib.hid (fun w w' h1 h2 => KBk.kg w w' h1 h2)
      have HROW0 : Hid (PRow eEnt 56 (wr.alloc (.cells CI 56)).heap.size (g + 1) (.slice Ar k cr) ys g (C3.setIfInBounds 5 (.slice Ar k cr)) 31 (KBk.kp b w.heap.size g P0 Q0 O0 S0 E0) (Kp.blk wr.heap.size CI 56) (wr.alloc (.cells CI 56))) := Lib.hid ⟨HROW.out.ext XW.out, XW.out.blockAt HG.out, Nat.le_refl _, HK.out.ext XW.out, heap_alloc_new _ _⟩
      go_wp2_with (first
        | (with_reducible refine wpList_load_arr rfl 56 (.tmp 26) rfl bb (off + k * 7) (by with_unfolding_all rfl) CI _ HC.out Tryz.underlying56 rfl II.out ?_)
        | (with_reducible refine wpList_store_new rfl 56 (.tmp 5) (.tmp 27) rfl _ CI 56 (by with_unfolding_all rfl) (by with_unfolding_all rfl) II.out (by with_unfolding_all exact NI.out.symm) OI.out ?_))
      simp only [Act.put]
      refine region_tb (by kernel_rfl) (by decide +kernel) (cbeE g wr.heap.size) ⟨rfl, rfl, rfl⟩ 9 cbeD cbeC (cbeR g ((wr.alloc (.cells CI 56)).heap.size) k cr wr.heap.size Ar ys CI ((C3.setIfInBounds 5 (.slice Ar k cr))) x.ent ((KBk.kp b w.heap.size g P0 Q0 O0 S0 E0))) B (HXB.out.trans XW.out) (fun i h1 h2 => by
      have h3 : 8 ≤ i := h1
      have h4 : i < 9 := h2
      obtain rfl : i = 8 := by omega
      exact PRow.mono ((Ext.refl _).drew) HROW0.out) ?_ ?_
      · intro Tv dd lv U wz i o hE ho hlv hd hT
        obtain ⟨t3, t5, tz⟩ := hE
        have hx := hT.ext
        match i, ho, hlv, hd with
        | 0, ho, hlv, hd =>
          obtain rfl := Option.some.inj ho
          have v0 := eval_old (d := dd) (hT.out 3 (by decide)) (by omega) t3
          refine tbw_yield (v := .pointer (some ⟨g, 5, none⟩)) (cbeR_ext g ((wr.alloc (.cells CI 56)).heap.size) k cr wr.heap.size Ar ys CI ((C3.setIfInBounds 5 (.slice Ar k cr))) x.ent ((KBk.kp b w.heap.size g P0 Q0 O0 S0 E0))) hT ho hd (wanted_plain rfl) rfl (by decide) (by decide) ?_ (Ext.refl _) rfl
          generalize Act.eval ⟨over Tv U, dd⟩ = ev at *
          simp [execOp, go_sem, v0]
        | 1, ho, hlv, hd =>
          obtain rfl := Option.some.inj ho
          have f0 : U 28 = some (.pointer (some ⟨g, 5, none⟩)) := hT.facts 0 (by decide) (dep hd 0 (by kernel_rfl)) (fun c e => by cases e)
          have v0 : Act.eval ⟨over Tv U, dd⟩ (.tmp 28) = _ := eval_new (t := Tv) (d := dd) f0 (by show 28 < Tv.size; omega)
          have hnA : lv 5 = false := by
            cases hA : lv 5 with
            | false => rfl
            | true => exact absurd (dep (hT.shut 5 _ rfl hA) 1 (by kernel_rfl)) (by rw [hlv]; decide)
          have hrow : PRow eEnt 56 ((wr.alloc (.cells CI 56)).heap.size) (g + 1) (.slice Ar k cr) ys (g) ((C3.setIfInBounds 5 (.slice Ar k cr))) 31 ((KBk.kp b w.heap.size g P0 Q0 O0 S0 E0)) (Kp.blk wr.heap.size CI 56) wz := hT.facts 8 (by decide) (hT.past 8 (by decide)) (fun c e => by injection e with e; subst e; exact hnA)
          have hc := (cell_of_row _ _ 5 _ _ _ hrow.2.1).trans HCO.out
          refine tbw_yield (v := .slice Ar k cr) (cbeR_ext g ((wr.alloc (.cells CI 56)).heap.size) k cr wr.heap.size Ar ys CI ((C3.setIfInBounds 5 (.slice Ar k cr))) x.ent ((KBk.kp b w.heap.size g P0 Q0 O0 S0 E0))) hT ho hd (wanted_plain rfl) rfl (by decide) (by decide) ?_ (Ext.refl _) rfl
          generalize Act.eval ⟨over Tv U, dd⟩ = ev at *
          simp [execOp, go_sem, v0, hc]
        | 2, ho, hlv, hd =>
          obtain rfl := Option.some.inj ho
          have v0 := eval_old (d := dd) (hT.out 5 (by decide)) (by omega) t5
          have hnA : lv 5 = false := by
            cases hA : lv 5 with
            | false => rfl
            | true => exact absurd (dep (hT.shut 3 _ rfl (dep (hT.shut 4 _ rfl (dep (hT.shut 5 _ rfl hA) 4 (by kernel_rfl))) 3 (by kernel_rfl))) 2 (by kernel_rfl)) (by rw [hlv]; decide)
          have hrow : PRow eEnt 56 ((wr.alloc (.cells CI 56)).heap.size) (g + 1) (.slice Ar k cr) ys (g) ((C3.setIfInBounds 5 (.slice Ar k cr))) 31 ((KBk.kp b w.heap.size g P0 Q0 O0 S0 E0)) (Kp.blk wr.heap.size CI 56) wz := hT.facts 8 (by decide) (hT.past 8 (by decide)) (fun c e => by injection e with e; subst e; exact hnA)
          refine tbw_yield (v := .agg CI) (cbeR_ext g ((wr.alloc (.cells CI 56)).heap.size) k cr wr.heap.size Ar ys CI ((C3.setIfInBounds 5 (.slice Ar k cr))) x.ent ((KBk.kp b w.heap.size g P0 Q0 O0 S0 E0))) hT ho hd (wanted_plain rfl) rfl (by decide) (by decide) (exec_load_row _ _ rfl wr.heap.size v0 _ _ _ _ hrow.2.2.2.2 Tryz.underlying56 rfl II.out) (Ext.refl _) rfl
        | 3, ho, hlv, hd =>
          obtain rfl := Option.some.inj ho
          have f0 : U 30 = some (.agg CI) := hT.facts 2 (by decide) (dep hd 2 (by kernel_rfl)) (fun c e => by cases e)
          have v0 : Act.eval ⟨over Tv U, dd⟩ (.tmp 30) = _ := eval_new (t := Tv) (d := dd) f0 (by show 30 < Tv.size; omega)
          have hnA : lv 5 = false := by
            cases hA : lv 5 with
            | false => rfl
            | true => exact absurd (dep (hT.shut 4 _ rfl (dep (hT.shut 5 _ rfl hA) 4 (by kernel_rfl))) 3 (by kernel_rfl)) (by rw [hlv]; decide)
          have hrow : PRow eEnt 56 ((wr.alloc (.cells CI 56)).heap.size) (g + 1) (.slice Ar k cr) ys (g) ((C3.setIfInBounds 5 (.slice Ar k cr))) 31 ((KBk.kp b w.heap.size g P0 Q0 O0 S0 E0)) (Kp.blk wr.heap.size CI 56) wz := hT.facts 8 (by decide) (hT.past 8 (by decide)) (fun c e => by injection e with e; subst e; exact hnA)
          refine tbw_call (f := 39) (args := #[.agg CI]) (cbeR_ext g ((wr.alloc (.cells CI 56)).heap.size) k cr wr.heap.size Ar ys CI ((C3.setIfInBounds 5 (.slice Ar k cr))) x.ent ((KBk.kp b w.heap.size g P0 Q0 O0 S0 E0))) hT ho hd (wanted_plain rfl) rfl (by decide) (by decide) (exec_call1 rfl rfl v0 EN2.out) ?_
          refine (HCI.out wz (HIN.out.ext hx)).mono ?_
          rintro r w' ⟨⟨e', rfl, h1, h2, h3, h4⟩, hb⟩
          exact ⟨_, rfl, hb, ⟨e', rfl, h2, eEnt.mono h3 hrow.2.2.1, h1⟩⟩
        | 4, ho, hlv, hd =>
          obtain rfl := Option.some.inj ho
          obtain ⟨y0, e0, h2, h3, h4⟩ : PNew eEnt ((wr.alloc (.cells CI 56)).heap.size) (fun y : EntL => y.ent = x.ent) (EntL.agg) (U 31) wz := hT.facts 3 (by decide) (dep hd 3 (by kernel_rfl)) (fun c e => by injection e with e; subst e; exact hlv)
          have v0 : Act.eval ⟨over Tv U, dd⟩ (.tmp 31) = _ := eval_new (t := Tv) (d := dd) e0 (by show 31 < Tv.size; omega)
          refine tbw_yield (v := .slice (some ⟨wz.heap.size, 0, none⟩) 1 1) (cbeR_ext g ((wr.alloc (.cells CI 56)).heap.size) k cr wr.heap.size Ar ys CI ((C3.setIfInBounds 5 (.slice Ar k cr))) x.ent ((KBk.kp b w.heap.size g P0 Q0 O0 S0 E0))) hT ho hd (wanted_plain rfl) rfl (by decide) (by decide) (exec_buildOne 28 56 (.tmp 31) rfl v0 Tryz.underlying28 hi hz hs (by decide) (by decide) (by simp [EntL.agg, Value.cells])) ((Ext.refl _).alloc _) (PNew.one (E := eEnt) (val := EntL.agg) 56 (by simp [EntL.agg, Value.cells, eEnt, EntL.cells]) h2 h3 h4)
        | 5, ho, hlv, hd =>
          obtain rfl := Option.some.inj ho
          have f0 : U 29 = some (.slice Ar k cr) := hT.facts 1 (by decide) (dep hd 1 (by kernel_rfl)) (fun c e => by cases e)
          have v0 : Act.eval ⟨over Tv U, dd⟩ (.tmp 29) = _ := eval_new (t := Tv) (d := dd) f0 (by show 29 < Tv.size; omega)
          have hnA : lv 5 = false := hlv
          have hrow : PRow eEnt 56 ((wr.alloc (.cells CI 56)).heap.size) (g + 1) (.slice Ar k cr) ys (g) ((C3.setIfInBounds 5 (.slice Ar k cr))) 31 ((KBk.kp b w.heap.size g P0 Q0 O0 S0 E0)) (Kp.blk wr.heap.size CI 56) wz := hT.facts 8 (by decide) (hT.past 8 (by decide)) (fun c e => by injection e with e; subst e; exact hnA)
          have h1 : POne eEnt ((wr.alloc (.cells CI 56)).heap.size) (fun y : EntL => y.ent = x.ent) (U 32) wz := hT.facts 4 (by decide) (dep hd 4 (by kernel_rfl)) (fun c e => by injection e with e; subst e; exact hlv)
          obtain ⟨y, u', w', hU, hrun, hx2, hP⟩ := hrow.app (P := Tryz.prog) (t := 28) (ty := 28) Tryz.underlying28 hi hz hs hb rfl (by decide) HKO.out h1 HOB.out HBN.out hx HBB.out HLM.out HLB.out
          have v1 : Act.eval ⟨over Tv U, dd⟩ (.tmp 32) = _ := eval_new (t := Tv) (d := dd) hU (by show 32 < Tv.size; omega)
          refine tb_yield (v := u') (w' := w') hT ho hd rfl rfl (by decide) (by decide) (exec_append rfl v0 v1 hrun) hx2 hP ?_
          intro j hj hji hlj hcj hR
          match j, hj, hR with
          | 0, _, hR => exact hR
          | 1, _, hR => exact hR
          | 2, _, hR => exact hR
          | 3, _, _ => exact absurd (dep hd 4 (by kernel_rfl)) (by rw [(hcj 4 rfl).2]; decide)
          | 4, _, _ => exact absurd rfl (hcj 5 rfl).1
          | 5, _, _ => exact absurd rfl hji
          | 6, _, hR => exact hR
          | 7, _, _ => exact absurd (dep (hT.shut 7 _ rfl hlj) 5 (by kernel_rfl)) (by rw [hlv]; decide)
          | 8, _, _ => exact absurd rfl (hcj 5 rfl).1
          | j + 9, hj, _ => exact absurd hj (by omega)
        | 6, ho, hlv, hd =>
          obtain rfl := Option.some.inj ho
          have v0 := eval_old (d := dd) (hT.out 3 (by decide)) (by omega) t3
          refine tbw_yield (v := .pointer (some ⟨g, 5, none⟩)) (cbeR_ext g ((wr.alloc (.cells CI 56)).heap.size) k cr wr.heap.size Ar ys CI ((C3.setIfInBounds 5 (.slice Ar k cr))) x.ent ((KBk.kp b w.heap.size g P0 Q0 O0 S0 E0))) hT ho hd (wanted_plain rfl) rfl (by decide) (by decide) ?_ (Ext.refl _) rfl
          generalize Act.eval ⟨over Tv U, dd⟩ = ev at *
          simp [execOp, go_sem, v0]
        | 7, ho, hlv, hd =>
          obtain rfl := Option.some.inj ho
          have f0 : U 34 = some (.pointer (some ⟨g, 5, none⟩)) := hT.facts 6 (by decide) (dep hd 6 (by kernel_rfl)) (fun c e => by cases e)
          have v0 : Act.eval ⟨over Tv U, dd⟩ (.tmp 34) = _ := eval_new (t := Tv) (d := dd) f0 (by show 34 < Tv.size; omega)
          obtain ⟨y0, A', c', hU, h2, h3, h4, h5, h6⟩ : PApp eEnt (fun y : EntL => y.ent = x.ent) 56 (g + 1) ys (g) ((C3.setIfInBounds 5 (.slice Ar k cr))) 31 ((KBk.kp b w.heap.size g P0 Q0 O0 S0 E0)) (U 33) wz := hT.facts 5 (by decide) (dep hd 5 (by kernel_rfl)) (fun c e => by injection e with e; subst e; exact hlv)
          have v1 : Act.eval ⟨over Tv U, dd⟩ (.tmp 33) = _ := eval_new (t := Tv) (d := dd) hU (by show 33 < Tv.size; omega)
          have hc := (cell_of_row _ _ 5 _ _ _ h5).trans HCO.out
          have hfz := frozen_of_row _ _ 5 _ _ h5
          refine tb_store (w' := wz.setCell ⟨g, 5, none⟩ (.slice A' (ys.length + 1) c')) hT ho hd rfl rfl ?_ (hx.setCell HBG.out _) (PApp.sto rfl h2 h3 h4 h5 h6 HKG.out (by decide) HGB.out HFR.out) ?_
          · generalize Act.eval ⟨over Tv U, dd⟩ = ev at *
            simp [execOp, v0, v1, go_sem, hc, hfz]
          · intro j hj hji hlj hcj hR
            match j, hj, hR with
            | 0, _, hR => exact hR
            | 1, _, hR => exact hR
            | 2, _, hR => exact hR
            | 3, _, _ => exact absurd (dep (hT.shut 5 _ rfl (dep hd 5 (by kernel_rfl))) 4 (by kernel_rfl)) (by rw [(hcj 4 rfl).2]; decide)
            | 4, _, _ => exact absurd (dep hd 5 (by kernel_rfl)) (by rw [(hcj 5 rfl).2]; decide)
            | 5, _, _ => exact absurd rfl (hcj 7 rfl).1
            | 6, _, hR => exact hR
            | 7, _, _ => exact absurd rfl hji
            | 8, _, _ => exact absurd (dep hd 5 (by kernel_rfl)) (by rw [(hcj 5 rfl).2]; decide)
            | j + 9, hj, _ => exact absurd hj (by omega)
        | i + 8, ho, _, _ => exact absurd ho (by simp)
      intro U wz hex hout hfin
      have PS : PSto eEnt (fun y : EntL => y.ent = x.ent) 56 (g + 1) ys (g) 5 ((C3.setIfInBounds 5 (.slice Ar k cr))) 31 ((KBk.kp b w.heap.size g P0 Q0 O0 S0 E0)) wz := hfin 7 (by decide) rfl
      have XE := Lib.hid hex
      clear hex hfin
      rw [over_list]
      simp (disch := decide) only [overL, Nat.reduceAdd, hout, Option.getD_none]
      clear hout
      obtain ⟨y, A', c', hrow, hfr, hD, hblk, hK⟩ := PS
      rw [HYL.out] at hrow hblk
      rw [set_set] at hblk
      have HY2 : Hid (ents (ys ++ [y]) = ents (b.ents.take (k + 1))) := Lib.hid (ents_next HY.out HX.out hD)
      have HYL2 : Hid ((ys ++ [y]).length = k + 1) := Lib.hid (by rw [List.length_append, HYL.out]; rfl)
      have HR2 := Lib.hid hrow
      have HF2 : Hid (∀ z ∈ ys ++ [y], eEnt.From (g + 1) z) := Lib.hid (fun z hz => by
        rcases List.mem_append.1 hz with hz | hz
        · exact HYF.out z hz
        · rw [List.mem_singleton] at hz; rw [hz]; exact hfr)
      have HB2 := Lib.hid hblk
      have HK2 := Lib.hid hK
      clear hrow hfr hD hblk hK
      go_wp2
      go_roundw
      case rel => exact ⟨k + 1, ys ++ [y], A', c', by omega, by go_num, HY2, HYL2, HR2, HF2, HB2, XE, HK2⟩
      case measure => simp [intOf]; omega
    · obtain rfl : k = nv := by omega
      have HZB := Lib.hid (HXB.out.blockAt HBZ.out)
      obtain ⟨CF, hcf⟩ : ∃ C, C3.setIfInBounds 5 (.slice Ar k cr) = C := ⟨_, rfl⟩
      rw [hcf] at HG
      have HSF : Hid (CF.size = 7) := Lib.hid (by rw [← hcf, Array.size_setIfInBounds]; exact HSZ.out)
      have HFIN : Hid (CF = (BankL.cells ⟨b.now, ⟨P0.1, P0.2, b.gp.xs⟩, ⟨Q0.1, Q0.2, b.gq.xs⟩, O0.1, O0.2, b.outl, S0.1, S0.2, b.assets, Ar, cr, ys, E0.1, E0.2, b.enem⟩).toArray) := Lib.hid (by
        rw [← hcf, ← HCA3.out, ← HNP.out, ← HNQ.out, ← HNO.out, ← HNS.out, ← HNE.out, ← HYL.out]
        rfl)
      have H1C : Hid (CF.all (·.oneCell') = true) := Lib.hid (by rw [HFIN.out]; simp [BankL.cells, IL.val, Value.oneCell'])
      have INF := Lib.hid (infoBk HSF.out)
      have IZ : Hid ((#[.int .i64 0, .slice none 0 0, .slice none 0 0, .slice none 0 0, .slice none 0 0, .slice none 0 0, .slice none 0 0] : Array Value).size = CF.size) := Lib.hid HSF.out.symm
      clear hcf
      go_wp2_with (first
        | (with_reducible refine wpList_load_row rfl 31 (.tmp 3) rfl (g) (by with_unfolding_all rfl) _ CF _ _ HG.out Tryz.underlying31 rfl INF.out ?_)
        | (with_reducible refine wpList_store_row rfl 31 (.tmp 2) (.tmp 36) rfl (w.heap.size + 1) CF (by with_unfolding_all rfl) (by with_unfolding_all rfl) _ _ HZB.out INF.out IZ.out H1C.out ?_))
      refine bodyPost_ret (v := .agg CF) (results_oneR Tryz.results29 _ _ (w.heap.size + 1) _ CF _ _ rfl (setRow_heap _ _ _ _ _ _ HZB.out) Tryz.underlying31 rfl INF.out) rfl ?_
      have hb1 := But.setRow (w.heap.size + 1) wr CF
      have hrow2 : RowX eEnt 56 (wr.setRow (w.heap.size + 1) CF) (g + 1) (.slice Ar k cr) ys := HROW.out.but hb1 (fun q => by have := own_ge HROW.out.own _ q; omega) (fun x hx => eEnt.frm (HYF.out x hx) (by omega))
      have hk2 : KBk b w.heap.size g P0 Q0 O0 S0 E0 (wr.setRow (w.heap.size + 1) CF) := HK.out.kt HZB.out (by decide) (by decide) (by decide) (by decide) hb1
      have g5 := hrow2.got rfl HYL.out HYF.out
      refine ⟨⟨⟨b.now, ⟨P0.1, P0.2, b.gp.xs⟩, ⟨Q0.1, Q0.2, b.gq.xs⟩, O0.1, O0.2, b.outl, S0.1, S0.2, b.assets, Ar, cr, ys, E0.1, E0.2, b.enem⟩, by rw [HFIN.out]; rfl, ?_, ⟨H.out.now, hk2.p.il, hk2.q.il, hk2.o.sl, ⟨hk2.o.le, hk2.o.mx⟩, hk2.s.sl, ⟨hk2.s.le, hk2.s.mx⟩, g5.sl, ⟨g5.le, g5.mx⟩, hk2.e.sl, ⟨hk2.e.le, hk2.e.mx⟩⟩, HNIL.out⟩, (HBX.out.trans HXB.out).rowSet (by omega) _⟩
      have e1 : ents ys = ents b.ents := by rw [HY.out, List.take_of_length_le (by rw [HNV.out]; exact Nat.le_refl _)]
      unfold BankL.bank
      unfold ents at e1
      simp only
      rw [e1]
end Bk
end Go.Proofs.YtfnmgcblhebdbaaGreatDoor
