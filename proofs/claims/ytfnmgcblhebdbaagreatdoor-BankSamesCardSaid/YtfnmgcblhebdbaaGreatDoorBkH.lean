/- Copies of entries, in the package and in the reference: contracts. Conditions: those of each theorem. -/
import Derived.Test.YtfnmgcblhebdbaaGreatDoorBkG
namespace Go.Proofs.YtfnmgcblhebdbaaGreatDoor
open Go.RowKit
namespace Bk
theorem Got.keepT {X : Type} {E : Elt X} {W W' : World} {N q : Nat} {A : Option Addr} {xs : List X} {c : Nat} {cur : Array Value} {T : TypeId} {fr : Nat × Nat} (h : Got E W N A xs c) (hq : W.heap[q]? = some (.cells cur T fr)) (hne : E.T ≠ T) (ho : ∀ x ∈ xs, E.Off q x) (hb : But q W W') : Got E W' N A xs c :=
  h.butO hb ⟨h.ty.off hq hne, ho⟩
theorem Got.offT {W : World} {N g : Nat} {A : Option Addr} {ys : List IL} {c : Nat} {cs : Array Value} {TG : TypeId} {fr : Nat × Nat} (h : Got eILt W N A ys c) (hg : W.heap[g]? = some (.cells cs TG fr)) (h1 : 22 ≠ TG) (h2 : 3 ≠ TG) : OffX eILt g A ys :=
  ⟨h.ty.off hg h1, fun y hy => (h.sl.ins y hy).2.off hg h2⟩
theorem Got.plain {W : World} {N : Nat} {A : Option Addr} {ys : List IL} {c : Nat} (h : Got eILt W N A ys c) : SlX eIL W A ys ∧ FromX eIL N A ys := ⟨⟨h.sl.sl, fun y hy => (h.sl.ins y hy).1⟩, ⟨h.frm.a, h.frm.ins⟩⟩
def its (xs : List ItL) : List It.Item := xs.map (·.1)
theorem its_next {xs ys : List ItL} {k : Nat} {x y : ItL} (h : its ys = its (xs.take k)) (hx : xs[k]? = some x) (hy : y.1 = x.1) : its (ys ++ [y]) = its (xs.take (k + 1)) := by
  unfold its at *
  rw [List.map_append, h, List.take_add_one, hx]
  simp [hy]
/-- A copy of an entry. -/
def RetEn (w : World) (e : EntL) (r : Ending) (w' : World) : Prop :=
  ∃ e' : EntL, r = .returned e'.agg ∧ e'.ent = e.ent ∧ e'.In w' ∧ e'.From w.heap.size ∧ RowX eIt 39 w' w.heap.size (.slice e'.vA e'.vs.length e'.vc) e'.vs
/-- What is kept of a copied entry while its versions are copied. -/
structure KEn (e : EntL) (N g : Nat) (A1 A2 A3 A4 : Option Addr) (c1 c2 c3 c4 : Nat) (rs : List IL) (w : World) : Prop where
  k1 : Got eI w N A1 e.ap.xs c1
  k2 : Got eI w N A2 e.fa.xs c2
  k3 : Got eAct w N A3 e.log c3
  k4 : Got eILt w N A4 rs c4
  o1 : OffX eI g A1 e.ap.xs
  o2 : OffX eI g A2 e.fa.xs
  o3 : OffX eAct g A3 e.log
  o4 : OffX eILt g A4 rs
theorem KEn.ext {e : EntL} {N g : Nat} {A1 A2 A3 A4 : Option Addr} {c1 c2 c3 c4 : Nat} {rs : List IL} {w w' : World} (h : KEn e N g A1 A2 A3 A4 c1 c2 c3 c4 rs w) (he : Ext w w') : KEn e N g A1 A2 A3 A4 c1 c2 c3 c4 rs w' := ⟨h.k1.ext he, h.k2.ext he, h.k3.ext he, h.k4.ext he, h.o1, h.o2, h.o3, h.o4⟩
theorem KEn.kt {e : EntL} {N g : Nat} {A1 A2 A3 A4 : Option Addr} {c1 c2 c3 c4 : Nat} {rs : List IL} {w w' : World} {q : Nat} {cur : Array Value} {T : TypeId} {fr : Nat × Nat} (hq : w.heap[q]? = some (.cells cur T fr)) (h1 : 3 ≠ T) (h2 : 116 ≠ T) (h3 : 22 ≠ T) (hb : But q w w') (h : KEn e N g A1 A2 A3 A4 c1 c2 c3 c4 rs w) : KEn e N g A1 A2 A3 A4 c1 c2 c3 c4 rs w' :=
  ⟨h.k1.keepT hq h1 (fun _ _ => trivial) hb, h.k2.keepT hq h1 (fun _ _ => trivial) hb, h.k3.keepT hq h2 (fun _ _ => trivial) hb, h.k4.keepT hq h3 (fun x hx => (h.k4.sl.ins x hx).2.off hq h1) hb, h.o1, h.o2, h.o3, h.o4⟩
theorem KEn.ko {e : EntL} {N g : Nat} {A1 A2 A3 A4 : Option Addr} {c1 c2 c3 c4 : Nat} {rs : List IL} (w w' : World) (q : Nat) (cur : Array Value) (fr : Nat × Nat) (hq : w.heap[q]? = some (.cells cur 39 fr)) (hb : But q w w') (h : KEn e N g A1 A2 A3 A4 c1 c2 c3 c4 rs w) : KEn e N g A1 A2 A3 A4 c1 c2 c3 c4 rs w' := h.kt hq (by decide) (by decide) (by decide) hb
theorem KEn.kg {e : EntL} {N g : Nat} {A1 A2 A3 A4 : Option Addr} {c1 c2 c3 c4 : Nat} {rs : List IL} (w w' : World) (hb : But g w w') (h : KEn e N g A1 A2 A3 A4 c1 c2 c3 c4 rs w) : KEn e N g A1 A2 A3 A4 c1 c2 c3 c4 rs w' :=
  ⟨h.k1.butO hb h.o1, h.k2.butO hb h.o2, h.k3.butO hb h.o3, h.k4.butO hb h.o4, h.o1, h.o2, h.o3, h.o4⟩
def KEn.kp (e : EntL) (N g : Nat) (A1 A2 A3 A4 : Option Addr) (c1 c2 c3 c4 : Nat) (rs : List IL) : Kp := ⟨KEn e N g A1 A2 A3 A4 c1 c2 c3 c4 rs, fun h he => h.ext he⟩
/-- A block that stands up to the append. -/
def Kp.blk (q : Nat) (cs : Array Value) (T : TypeId) : Kp := ⟨fun w => w.heap[q]? = some (.cells cs T (0, 0)), fun h he => he.blockAt h⟩
theorem KEn.done {e : EntL} {N g : Nat} {A1 A2 A3 A4 A5 : Option Addr} {c1 c2 c3 c4 c5 : Nat} {rs : List IL} {ys : List ItL} {w : World} (h : KEn e N g A1 A2 A3 A4 c1 c2 c3 c4 rs w) (hN : N ≤ g + 1) (hst : In64 e.st) (hau : In64 e.au)
    (hrow : RowX eIt 39 w (g + 1) (.slice A5 ys.length c5) ys) (hf : ∀ y ∈ ys, eIt.From (g + 1) y) (hy : its ys = its e.vs) (hr : rxs rs = rxs e.rows) :
    (⟨A5, c5, ys, e.st, e.au, ⟨A1, c1, e.ap.xs⟩, ⟨A2, c2, e.fa.xs⟩, A3, c3, e.log, A4, c4, rs⟩ : EntL).ent = e.ent ∧ (⟨A5, c5, ys, e.st, e.au, ⟨A1, c1, e.ap.xs⟩, ⟨A2, c2, e.fa.xs⟩, A3, c3, e.log, A4, c4, rs⟩ : EntL).In w ∧
      (⟨A5, c5, ys, e.st, e.au, ⟨A1, c1, e.ap.xs⟩, ⟨A2, c2, e.fa.xs⟩, A3, c3, e.log, A4, c4, rs⟩ : EntL).From N := by
  have g5 := hrow.got rfl rfl hf
  have hl := g5.low hN
  refine ⟨?_, ⟨g5.sl, ⟨g5.le, g5.mx⟩, hst, hau, h.k1.il, h.k2.il, h.k3.sl, ⟨h.k3.le, h.k3.mx⟩, h.k4.plain.1, ⟨h.k4.le, h.k4.mx⟩⟩, ⟨hl.frm, h.k1.frm.a, h.k2.frm.a, h.k3.frm, h.k4.plain.2⟩⟩
  unfold EntL.ent
  congr 1
/-- What each operation of the region leaves. -/
def cenL (n0 nr rc : Nat) (rA : Option Addr) (a1 a2 a3 a4 a5 : Value) (rows : List IL) : List (Option Value → World → Prop) := [fun u _ => u = some (.pointer (some ⟨n0, 1, none⟩)),
  fun u _ => u = some (.agg #[a1, a2, a3, a4, a5]),
  fun u _ => u = some (.pointer (some ⟨n0, 6, none⟩)),
  fun u _ => u = some (.agg #[.slice rA nr rc]),
  fun u w => ∃ W : Option Addr × Nat × List IL, u = some (.agg #[.slice W.1 nr W.2.1]) ∧ rxs W.2.2 = rxs rows ∧ Got eILt w n0 W.1 W.2.2 W.2.1,
  fun u w => ∃ W : Option Addr × Nat × List IL, u = some (.agg #[.slice none 0 0, a1, a2, a3, a4, a5, .slice W.1 nr W.2.1]) ∧ rxs W.2.2 = rxs rows ∧ Got eILt w n0 W.1 W.2.2 W.2.1,
  fun u w => ∃ g : Nat, u = some (.pointer (some ⟨g, 0, none⟩)) ∧ n0 + 1 + 1 ≤ g ∧ w.heap[g]? = some (.cells #[.slice none 0 0, .int .i64 0, .int .i64 0, .slice none 0 0, .slice none 0 0, .slice none 0 0, .slice none 0 0] 56 (0, 0)),
  fun u w => ∃ W : Nat × Option Addr × Nat × List IL, u = some (.pointer (some ⟨W.1, 0, none⟩)) ∧ n0 + 1 + 1 ≤ W.1 ∧ w.heap[W.1]? = some (.cells #[.slice none 0 0, a1, a2, a3, a4, a5, .slice W.2.1 nr W.2.2.1] 56 (0, 0)) ∧ rxs W.2.2.2 = rxs rows ∧ Got eILt w n0 W.2.1 W.2.2.2 W.2.2.1 ∧ OffX eILt W.1 W.2.1 W.2.2.2]
theorem cenL_mono (n0 nr rc : Nat) (rA : Option Addr) (a1 a2 a3 a4 a5 : Value) (rows : List IL) : AllMono (cenL n0 nr rc rA a1 a2 a3 a4 a5 rows) := ⟨mono_val _, mono_val _, mono_val _, mono_val _, (fun _ _ _ he h => h.elim fun W h => ⟨W, h.1, h.2.1, h.2.2.ext he⟩), (fun _ _ _ he h => h.elim fun W h => ⟨W, h.1, h.2.1, h.2.2.ext he⟩), (fun _ _ _ he h => h.elim fun W h => ⟨W, h.1, h.2.1, he.blockAt h.2.2⟩), (fun _ _ _ he h => h.elim fun W h => ⟨W, h.1, h.2.1, he.blockAt h.2.2.1, h.2.2.2.1, h.2.2.2.2.1.ext he, h.2.2.2.2.2⟩), trivial⟩
def cenR (n0 nr rc : Nat) (rA : Option Addr) (a1 a2 a3 a4 a5 : Value) (rows : List IL) (j : Nat) (u : Option Value) (w : World) : Prop := (cenL n0 nr rc rA a1 a2 a3 a4 a5 rows).getD j (fun _ _ => True) u w
theorem cenR_ext (n0 nr rc : Nat) (rA : Option Addr) (a1 a2 a3 a4 a5 : Value) (rows : List IL) (j : Nat) (u : Option Value) (w w' : World) (he : Ext w w') (hR : cenR n0 nr rc rA a1 a2 a3 a4 a5 rows j u w) : cenR n0 nr rc rA a1 a2 a3 a4 a5 rows j u w' := ((cenL_mono n0 nr rc rA a1 a2 a3 a4 a5 rows).at_ j) u w w' he hR
def cenD : List Nat := [6, 7, 8, 9, 10, 11, 3, 3]
def cenC (j : Nat) : Option Nat := if j = 4 then some 5 else if j = 5 then some 7 else if j = 6 then some 7 else none
def cenE (n0 : Nat) (t : Array Value) : Prop := t.getD 1 undef = .pointer (some ⟨n0, 0, none⟩) ∧ t.size = 46

/-- What each operation of the region leaves. -/
def cevL (g N k cr q5 : Nat) (Ar : Option Addr) (ys : List ItL) (CI CK : Array Value) (it : It.Item) (K : Kp) : List (Option Value → World → Prop) := [fun u _ => u = some (.pointer (some ⟨g, 0, none⟩)),
  fun u _ => u = some (.slice Ar k cr),
  fun u _ => u = some (.agg CI),
  fun u w => PNew eIt (N) (fun y : ItL => y.1 = it) ((fun y : ItL => It.agg y.1 y.2)) u w,
  fun u w => POne eIt (N) (fun y : ItL => y.1 = it) u w,
  fun u w => PApp eIt (fun y : ItL => y.1 = it) 39 (g + 1) ys (g) (CK) 56 (K) u w,
  fun u _ => u = some (.pointer (some ⟨g, 0, none⟩)),
  fun _ w => PSto eIt (fun y : ItL => y.1 = it) 39 (g + 1) ys (g) 0 (CK) 56 (K) w,
  fun _ w => PRow eIt 39 (N) (g + 1) (.slice Ar k cr) ys (g) (CK) 56 (K) (Kp.blk q5 CI 39) w]
theorem cevL_mono (g N k cr q5 : Nat) (Ar : Option Addr) (ys : List ItL) (CI CK : Array Value) (it : It.Item) (K : Kp) : AllMono (cevL g N k cr q5 Ar ys CI CK it K) := ⟨mono_val _, mono_val _, mono_val _, (fun _ _ _ he h => PNew.mono he h), (fun _ _ _ he h => POne.mono he h), (fun _ _ _ he h => PApp.mono he h), mono_val _, (fun _ _ _ he h => PSto.mono he h), (fun _ _ _ he h => PRow.mono he h), trivial⟩
def cevR (g N k cr q5 : Nat) (Ar : Option Addr) (ys : List ItL) (CI CK : Array Value) (it : It.Item) (K : Kp) (j : Nat) (u : Option Value) (w : World) : Prop := (cevL g N k cr q5 Ar ys CI CK it K).getD j (fun _ _ => True) u w
theorem cevR_ext (g N k cr q5 : Nat) (Ar : Option Addr) (ys : List ItL) (CI CK : Array Value) (it : It.Item) (K : Kp) (j : Nat) (u : Option Value) (w w' : World) (he : Ext w w') (hR : cevR g N k cr q5 Ar ys CI CK it K j u w) : cevR g N k cr q5 Ar ys CI CK it K j u w' := ((cevL_mono g N k cr q5 Ar ys CI CK it K).at_ j) u w w' he hR
def cevD : List Nat := [37, 38, 39, 40, 41, 42, 43, 900, 901]
def cevC (j : Nat) : Option Nat := if j = 3 then some 4 else if j = 4 then some 5 else if j = 5 then some 7 else if j = 8 then some 5 else none
def cevE (g q5 : Nat) (t : Array Value) : Prop := t.getD 3 undef = .pointer (some ⟨g, 0, none⟩) ∧ t.getD 5 undef = .pointer (some ⟨q5, 0, none⟩) ∧ t.size = 46

set_option maxRecDepth 100000 in
set_option maxHeartbeats 25600000 in
theorem bcopyEntry_any (e : EntL) (w : World) (h : e.In w) (hz : EntSz e.ent) :
    Calls Tryz.prog 39 #[e.agg] w fun r w' => RetEn w e r w' ∧ Ext w w' := by
  obtain ⟨CE, hce, hne, h1e, hke⟩ := e.packed
  rw [hce]
  obtain ⟨B, hB⟩ : ∃ B, (w.alloc (.cells CE 56)).alloc (.cells #[.slice none 0 0, .int .i64 0, .int .i64 0, .slice none 0 0, .slice none 0 0, .slice none 0 0, .slice none 0 0] 56) = B := ⟨_, rfl⟩
  have HBX : Hid (Ext w B) := Lib.hid (by rw [← hB]; exact ((Ext.refl _).alloc _).alloc _)
  have HBS : Hid (B.heap.size = w.heap.size + 1 + 1) := Lib.hid (by rw [← hB]; simp)
  have HBA : Hid (B.heap[w.heap.size]? = some (.cells CE 56 (0, 0))) := Lib.hid (by rw [← hB]; exact two_fst' _ _ _)
  have HBZ : Hid (B.heap[w.heap.size + 1]? = some (.cells #[.slice none 0 0, .int .i64 0, .int .i64 0, .slice none 0 0, .slice none 0 0, .slice none 0 0, .slice none 0 0] 56 (0, 0))) := Lib.hid (by rw [← hB]; exact heap_new_at _ _ _ (by simp))
  have HBH := Lib.hid hB
  have H := Lib.hid h
  obtain ⟨nr, hnr⟩ : ∃ n, e.rows.length = n := ⟨_, rfl⟩
  obtain ⟨nv, hnv⟩ : ∃ n, e.vs.length = n := ⟨_, rfl⟩
  have HNR := Lib.hid hnr
  have HNV := Lib.hid hnv
  have HRW : Hid (SlX eIL B e.rA e.rows) := Lib.hid (h.rows.ext HBX.out)
  have HZR : Hid (nr * 24 ≤ 140737488355328) := Lib.hid (by have := hz.rows; simp only [EntL.ent, List.length_map, hnr] at this; exact this)
  have HZ1 : Hid (∀ r ∈ e.rows, r.xs.length * 8 ≤ 140737488355328) := Lib.hid (fun r hr => hz.row r.xs (List.mem_map.2 ⟨r, hr, rfl⟩))
  have HZV : Hid (nv * 216 ≤ 140737488355328) := Lib.hid (by have := hz.vs; simp only [EntL.ent, List.length_map, hnv] at this; exact this)
  have HZI : Hid (∀ x ∈ e.vs, ItSz x.1) := Lib.hid (fun x hx => hz.its x.1 (List.mem_map.2 ⟨x, hx, rfl⟩))
  have sm1 : e.ap.xs.length * 8 ≤ 140737488355328 := hz.ap
  have sm2 : e.fa.xs.length * 8 ≤ 140737488355328 := hz.fa
  have sm3 : e.log.length * 32 ≤ 140737488355328 := hz.log
  have HR1 : Hid (B.rangeAt w.heap.size 1 (#[.int .i64 e.st, .int .i64 e.au, e.ap.val, e.fa.val, .slice e.lA e.log.length e.lc] : Array Value).toList) := Lib.hid (fun j v hv => by
    rw [cell_of_row _ _ (1 + j) _ _ _ HBA.out, ← hke]
    match j, hv with
    | 0, hv => exact hv
    | 1, hv => exact hv
    | 2, hv => exact hv
    | 3, hv => exact hv
    | 4, hv => exact hv
    | j + 5, hv => simp at hv)
  have HR2 : Hid (B.rangeAt w.heap.size 6 (#[.slice e.rA nr e.rc] : Array Value).toList) := Lib.hid (fun j v hv => by
    rw [cell_of_row _ _ (6 + j) _ _ _ HBA.out, ← hke]
    match j, hv with
    | 0, hv => rw [← hnr] at hv; exact hv
    | j + 1, hv => simp at hv)
  have IRV : Hid ((Tryz.prog.info? 54).map (·.size) = some (#[.int .i64 e.st, .int .i64 e.au, e.ap.val, e.fa.val, .slice e.lA e.log.length e.lc] : Array Value).size) := Lib.hid (infoRev rfl)
  have IMD : Hid ((Tryz.prog.info? 46).map (·.size) = some (#[.slice e.rA nr e.rc] : Array Value).size) := Lib.hid (infoMd rfl)
  have IE7 : Hid ((Tryz.prog.info? 56).map (·.size) = some 7) := Lib.hid ((infoEn hne).trans (by rw [hne]))
  have EN1 := Lib.hid (enters_of Tryz.func80 (by kernel_rfl) rfl)
  clear hB h hz hnr hnv
  go_enter Tryz.func39, Tryz.ntmps39
  go_wp2_with fail
  refine region_tb (by kernel_rfl) (by decide +kernel) (cenE w.heap.size) ⟨rfl, rfl⟩ 8 cenD cenC (cenR w.heap.size nr e.rc e.rA ((.int .i64 e.st)) ((.int .i64 e.au)) e.ap.val e.fa.val ((.slice e.lA e.log.length e.lc)) e.rows) B (by rw [HBH.out]; exact Ext.refl _) (fun i h1 h2 => absurd h2 (Nat.not_lt.2 h1)) ?_ ?_
  · intro Tv dd lv U wz i o hE ho hlv hd hT
    obtain ⟨t1, tz⟩ := hE
    have hx := hT.ext
    match i, ho, hlv, hd with
    | 0, ho, hlv, hd =>
      obtain rfl := Option.some.inj ho
      have v0 := eval_old (d := dd) (hT.out 1 (by decide)) (by omega) t1
      refine tbw_yield (v := .pointer (some ⟨w.heap.size, 1, none⟩)) (cenR_ext w.heap.size nr e.rc e.rA ((.int .i64 e.st)) ((.int .i64 e.au)) e.ap.val e.fa.val ((.slice e.lA e.log.length e.lc)) e.rows) hT ho hd (wanted_plain rfl) rfl (by decide) (by decide) ?_ (Ext.refl _) rfl
      generalize Act.eval ⟨over Tv U, dd⟩ = ev at *
      simp [execOp, go_sem, v0]
    | 1, ho, hlv, hd =>
      obtain rfl := Option.some.inj ho
      have f0 : U 6 = some (.pointer (some ⟨w.heap.size, 1, none⟩)) := hT.facts 0 (by decide) (dep hd 0 (by kernel_rfl)) (fun c e => by cases e)
      have v0 : Act.eval ⟨over Tv U, dd⟩ (.tmp 6) = _ := eval_new (t := Tv) (d := dd) f0 (by show 6 < Tv.size; omega)
      refine tbw_yield (v := .agg #[(.int .i64 e.st), (.int .i64 e.au), e.ap.val, e.fa.val, (.slice e.lA e.log.length e.lc)]) (cenR_ext w.heap.size nr e.rc e.rA ((.int .i64 e.st)) ((.int .i64 e.au)) e.ap.val e.fa.val ((.slice e.lA e.log.length e.lc)) e.rows) hT ho hd (wanted_plain rfl) rfl (by decide) (by decide) (exec_load_arr _ _ rfl w.heap.size (1) v0 #[.int .i64 e.st, .int .i64 e.au, e.ap.val, e.fa.val, .slice e.lA e.log.length e.lc] _ (hx.range HR1.out) Tryz.underlying54 rfl IRV.out) (Ext.refl _) rfl
    | 2, ho, hlv, hd =>
      obtain rfl := Option.some.inj ho
      have v0 := eval_old (d := dd) (hT.out 1 (by decide)) (by omega) t1
      refine tbw_yield (v := .pointer (some ⟨w.heap.size, 6, none⟩)) (cenR_ext w.heap.size nr e.rc e.rA ((.int .i64 e.st)) ((.int .i64 e.au)) e.ap.val e.fa.val ((.slice e.lA e.log.length e.lc)) e.rows) hT ho hd (wanted_plain rfl) rfl (by decide) (by decide) ?_ (Ext.refl _) rfl
      generalize Act.eval ⟨over Tv U, dd⟩ = ev at *
      simp [execOp, go_sem, v0]
    | 3, ho, hlv, hd =>
      obtain rfl := Option.some.inj ho
      have f0 : U 8 = some (.pointer (some ⟨w.heap.size, 6, none⟩)) := hT.facts 2 (by decide) (dep hd 2 (by kernel_rfl)) (fun c e => by cases e)
      have v0 : Act.eval ⟨over Tv U, dd⟩ (.tmp 8) = _ := eval_new (t := Tv) (d := dd) f0 (by show 8 < Tv.size; omega)
      refine tbw_yield (v := .agg #[.slice e.rA nr e.rc]) (cenR_ext w.heap.size nr e.rc e.rA ((.int .i64 e.st)) ((.int .i64 e.au)) e.ap.val e.fa.val ((.slice e.lA e.log.length e.lc)) e.rows) hT ho hd (wanted_plain rfl) rfl (by decide) (by decide) (exec_load_arr _ _ rfl w.heap.size (6) v0 #[.slice e.rA nr e.rc] _ (hx.range HR2.out) Tryz.underlying46 rfl IMD.out) (Ext.refl _) rfl
    | 4, ho, hlv, hd =>
      obtain rfl := Option.some.inj ho
      have f0 : U 9 = some (.agg #[.slice e.rA nr e.rc]) := hT.facts 3 (by decide) (dep hd 3 (by kernel_rfl)) (fun c e => by cases e)
      have v0 : Act.eval ⟨over Tv U, dd⟩ (.tmp 9) = _ := eval_new (t := Tv) (d := dd) f0 (by show 9 < Tv.size; omega)
      refine tbw_call (f := 80) (args := #[.agg #[.slice e.rA nr e.rc]]) (cenR_ext w.heap.size nr e.rc e.rA ((.int .i64 e.st)) ((.int .i64 e.au)) e.ap.val e.fa.val ((.slice e.lA e.log.length e.lc)) e.rows) hT ho hd (wanted_plain rfl) rfl (by decide) (by decide) (exec_call1 rfl rfl v0 EN1.out) ?_
      refine (bcopyModel_any e.rA e.rc e.rows HNR.out wz (HRW.out.ext hx) HZR.out HZ1.out).mono ?_
      rintro r w' ⟨⟨A, c, ys, rfl, h1, h2⟩, hb⟩
      rw [HNR.out]
      exact ⟨_, rfl, hb, (A, c, ys), rfl, h1, h2.low (Nat.le_trans (by rw [HBS.out]; omega) hx.size)⟩
    | 5, ho, hlv, hd =>
      obtain rfl := Option.some.inj ho
      have f0 : U 7 = some (.agg #[(.int .i64 e.st), (.int .i64 e.au), e.ap.val, e.fa.val, (.slice e.lA e.log.length e.lc)]) := hT.facts 1 (by decide) (dep hd 1 (by kernel_rfl)) (fun c e => by cases e)
      have v0 : Act.eval ⟨over Tv U, dd⟩ (.tmp 7) = _ := eval_new (t := Tv) (d := dd) f0 (by show 7 < Tv.size; omega)
      obtain ⟨W, e0, h1, h2⟩ : ∃ W : Option Addr × Nat × List IL, U 10 = some (.agg #[.slice W.1 nr W.2.1]) ∧ rxs W.2.2 = rxs e.rows ∧ Got eILt wz w.heap.size W.1 W.2.2 W.2.1 := hT.facts 4 (by decide) (dep hd 4 (by kernel_rfl)) (fun c e => by injection e with e; subst e; exact hlv)
      have v1 : Act.eval ⟨over Tv U, dd⟩ (.tmp 10) = _ := eval_new (t := Tv) (d := dd) e0 (by show 10 < Tv.size; omega)
      refine tbw_yield (v := .agg #[.slice none 0 0, (.int .i64 e.st), (.int .i64 e.au), e.ap.val, e.fa.val, (.slice e.lA e.log.length e.lc), .slice W.1 nr W.2.1]) (cenR_ext w.heap.size nr e.rc e.rA ((.int .i64 e.st)) ((.int .i64 e.au)) e.ap.val e.fa.val ((.slice e.lA e.log.length e.lc)) e.rows) hT ho hd (wanted_plain rfl) rfl (by decide) (by decide) (exec_buildL 56 _ rfl [(1, .agg #[.int .i64 e.st, .int .i64 e.au, e.ap.val, e.fa.val, .slice e.lA e.log.length e.lc]), (2, .agg #[.slice W.1 nr W.2.1])] (by simp [v0, v1]) _ (by kernel_rfl)) (Ext.refl _) ⟨W, rfl, h1, h2⟩
    | 6, ho, hlv, hd =>
      obtain rfl := Option.some.inj ho
      refine tb_extW (v := .pointer (some ⟨wz.heap.size, 0, none⟩)) (w' := wz.alloc (.cells #[.slice none 0 0, .int .i64 0, .int .i64 0, .slice none 0 0, .slice none 0 0, .slice none 0 0, .slice none 0 0] 56)) (cenR_ext w.heap.size nr e.rc e.rA ((.int .i64 e.st)) ((.int .i64 e.au)) e.ap.val e.fa.val ((.slice e.lA e.log.length e.lc)) e.rows) hT ho hd rfl rfl (by decide) ?_ ?_ ((Ext.refl _).alloc _) ⟨wz.heap.size, rfl, by have := hx.size; rw [HBS.out] at this; exact this, heap_alloc_new _ _⟩
      · intro j hj hji hlj
        match j, hj, hlj with
        | 0, _, _ => decide
        | 1, _, _ => decide
        | 2, _, _ => decide
        | 3, _, _ => decide
        | 4, _, _ => decide
        | 5, _, _ => decide
        | 6, _, _ => exact absurd rfl hji
        | 7, _, hlj => exact absurd (dep (hT.shut 7 _ rfl hlj) 6 (by kernel_rfl)) (by rw [hlv]; decide)
        | j + 8, hj, _ => exact absurd hj (by omega)
      · generalize Act.eval ⟨over Tv U, dd⟩ = ev at *
        simp [execOp, go_sem]
    | 7, ho, hlv, hd =>
      obtain rfl := Option.some.inj ho
      obtain ⟨W, e1, h1, h2⟩ : ∃ W : Option Addr × Nat × List IL, U 11 = some (.agg #[.slice none 0 0, (.int .i64 e.st), (.int .i64 e.au), e.ap.val, e.fa.val, (.slice e.lA e.log.length e.lc), .slice W.1 nr W.2.1]) ∧ rxs W.2.2 = rxs e.rows ∧ Got eILt wz w.heap.size W.1 W.2.2 W.2.1 := hT.facts 5 (by decide) (dep hd 5 (by kernel_rfl)) (fun c e => by injection e with e; subst e; exact hlv)
      have v1 : Act.eval ⟨over Tv U, dd⟩ (.tmp 11) = _ := eval_new (t := Tv) (d := dd) e1 (by show 11 < Tv.size; omega)
      obtain ⟨g, e0, hg, hblk⟩ : ∃ g : Nat, U 3 = some (.pointer (some ⟨g, 0, none⟩)) ∧ w.heap.size + 1 + 1 ≤ g ∧ wz.heap[g]? = some (.cells #[.slice none 0 0, .int .i64 0, .int .i64 0, .slice none 0 0, .slice none 0 0, .slice none 0 0, .slice none 0 0] 56 (0, 0)) := hT.facts 6 (by decide) (dep hd 6 (by kernel_rfl)) (fun c e => by injection e with e; subst e; exact hlv)
      have v0 : Act.eval ⟨over Tv U, dd⟩ (.tmp 3) = _ := eval_new (t := Tv) (d := dd) e0 (by show 3 < Tv.size; omega)
      have hoff := h2.offT hblk (by decide) (by decide)
      refine tb_store (w' := wz.setRow g #[.slice none 0 0, (.int .i64 e.st), (.int .i64 e.au), e.ap.val, e.fa.val, (.slice e.lA e.log.length e.lc), .slice W.1 nr W.2.1]) hT ho hd rfl rfl (exec_store_row 56 (.tmp 3) (.tmp 11) rfl g _ v0 v1 56 _ hblk IE7.out rfl (by simp [IL.val, Value.oneCell'])) (hx.rowSet (by rw [HBS.out]; exact hg) _) ⟨(g, W), e0, hg, setRow_heap _ _ _ _ _ _ hblk, h1, h2.butO (But.setRow g wz _) hoff, hoff⟩ ?_
      intro j hj hji hlj hcj hR
      match j, hj, hR with
      | 0, _, hR => exact hR
      | 1, _, hR => exact hR
      | 2, _, hR => exact hR
      | 3, _, hR => exact hR
      | 4, _, _ => exact absurd (dep hd 5 (by kernel_rfl)) (by rw [(hcj 5 rfl).2]; decide)
      | 5, _, _ => exact absurd rfl (hcj 7 rfl).1
      | 6, _, _ => exact absurd rfl (hcj 7 rfl).1
      | 7, _, _ => exact absurd rfl hji
      | j + 8, hj, _ => exact absurd hj (by omega)
    | i + 8, ho, _, _ => exact absurd ho (by simp)
  intro U wz hex hout hfin
  obtain ⟨W3, f3, hW3⟩ := hfin 7 (by decide) rfl
  change U 3 = _ at f3
  have XE := Lib.hid hex
  clear hex hfin
  rw [over_list]
  simp (disch := decide) only [overL, Nat.reduceAdd, hout, Option.getD_none]
  rw [f3]
  simp only [Option.getD_some]
  clear hout f3
  obtain ⟨g, A4, c4, rs⟩ := W3
  obtain ⟨hg, hblk, hrx, hgot, hoff⟩ := hW3
  dsimp only at hg hblk hrx hgot hoff ⊢
  obtain ⟨CA, hca⟩ : ∃ C, (#[.slice none 0 0, .int .i64 e.st, .int .i64 e.au, e.ap.val, e.fa.val, .slice e.lA e.log.length e.lc, .slice A4 nr c4] : Array Value) = C := ⟨_, rfl⟩
  rw [hca] at hblk
  have HCA := Lib.hid hca
  have HC0 := Lib.hid hblk
  have HA0 := Lib.hid (XE.out.blockAt HBA.out)
  have HZ0 := Lib.hid (XE.out.blockAt HBZ.out)
  have HX0 := Lib.hid (HBX.out.trans XE.out)
  have HB0 := XE
  have MO0 := Lib.hid hgot
  have HOFF := Lib.hid hoff
  have HRX := Lib.hid hrx
  have HBG : Hid (B.heap.size ≤ g) := Lib.hid (by rw [HBS.out]; exact hg)
  have HRL : Hid (rs.length = nr) := Lib.hid (by have := congrArg List.length hrx; unfold rxs at this; rw [List.length_map, List.length_map] at this; exact this.trans HNR.out)
  have J0 : Hid (CE[0]? = some (.slice e.vA nv e.vc)) := Lib.hid (by rw [← hke, ← HNV.out]; rfl)
  have J3 : Hid (CE[3]? = some (.slice e.ap.A e.ap.xs.length e.ap.c)) := Lib.hid (by rw [← hke]; rfl)
  have J4 : Hid (CE[4]? = some (.slice e.fa.A e.fa.xs.length e.fa.c)) := Lib.hid (by rw [← hke]; rfl)
  have J5 : Hid (CE[5]? = some (.slice e.lA e.log.length e.lc)) := Lib.hid (by rw [← hke]; rfl)
  have K3_0 : Hid (CA[3]? = some (.slice e.ap.A e.ap.xs.length e.ap.c)) := Lib.hid (by rw [← hca]; rfl)
  have K4_0 : Hid (CA[4]? = some (.slice e.fa.A e.fa.xs.length e.fa.c)) := Lib.hid (by rw [← hca]; rfl)
  have K5_0 : Hid (CA[5]? = some (.slice e.lA e.log.length e.lc)) := Lib.hid (by rw [← hca]; rfl)
  obtain ⟨n1, hn1⟩ : ∃ n, e.ap.xs.length = n := ⟨_, rfl⟩
  obtain ⟨n2, hn2⟩ : ∃ n, e.fa.xs.length = n := ⟨_, rfl⟩
  obtain ⟨n3, hn3⟩ : ∃ n, e.log.length = n := ⟨_, rfl⟩
  rw [hn1] at J3 K3_0 sm1
  rw [hn2] at J4 K4_0 sm2
  rw [hn3] at J5 K5_0 sm3
  have HL1 := Lib.hid hn1
  have HL2 := Lib.hid hn2
  have HL3 := Lib.hid hn3
  obtain ⟨VA, hVA⟩ : ∃ A, e.vA = A := ⟨_, rfl⟩
  rw [hVA] at J0
  have HVS : Hid (SlX eIt B VA e.vs) := Lib.hid (by rw [← hVA]; exact H.out.vs.ext HBX.out)
  have hv63 : nv ≤ 9223372036854775807 := by have := HZV.out; omega
  clear hblk hrx hgot hoff hca hn1 hn2 hn3 hVA XE hce hne h1e hke HR1 HR2 IRV IMD
  have cf : wz.cell? ⟨w.heap.size, 3, none⟩ = some (.slice e.ap.A n1 e.ap.c) := (cell_of_row _ _ 3 _ _ _ HA0.out).trans J3.out
  have SL1 := Lib.hid (SlX.ofI (H.out.ext HX0.out).ap.1 H.out.ap.2.2.2)
  go_wp2_with fail
  with_reducible refine (cloneI e.ap.A e.ap.c e.ap.xs HL1.out _ SL1.out sm1).mono ?_
  rintro e0 w1 hr
  obtain ⟨A1, c1, rfl, hg0, hb⟩ := hr.got HL1.out (fun _ _ => trivial)
  clear hr cf
  have HZ1w := Lib.hid (hb.blockAt HZ0.out)
  have HC1w := Lib.hid (hb.blockAt HC0.out)
  have HA1w := Lib.hid (hb.blockAt HA0.out)
  have G1 := Lib.hid (hg0.low (show g + 1 ≤ _ from blk_lt HC0.out))
  have kf : w1.cell? ⟨g, 3, none⟩ = some (.slice e.ap.A n1 e.ap.c) := (cell_of_row _ _ 3 _ _ _ HC1w.out).trans K3_0.out
  have ff : w1.frozen? ⟨g, 3, none⟩ = false := frozen_of_row _ _ _ _ _ HC1w.out
  have HX1w := Lib.hid (HX0.out.trans hb)
  obtain ⟨C1, hC1⟩ : ∃ C, CA.setIfInBounds 3 (.slice A1 n1 c1) = C := ⟨_, rfl⟩
  have HA1 : Hid ((w1.setCell ⟨g, 3, none⟩ (.slice A1 n1 c1)).heap[w.heap.size]? = some (.cells CE 56 (0, 0))) := Lib.hid ((heap_setCell_other _ _ _ _ (by simp; try omega)).trans HA1w.out)
  have HZ1 : Hid ((w1.setCell ⟨g, 3, none⟩ (.slice A1 n1 c1)).heap[w.heap.size + 1]? = some (.cells #[.slice none 0 0, .int .i64 0, .int .i64 0, .slice none 0 0, .slice none 0 0, .slice none 0 0, .slice none 0 0] 56 (0, 0))) := Lib.hid ((heap_setCell_other _ _ _ _ (by simp; try omega)).trans HZ1w.out)
  have HC1 : Hid ((w1.setCell ⟨g, 3, none⟩ (.slice A1 n1 c1)).heap[g]? = some (.cells C1 56 (0, 0))) := Lib.hid (by rw [← hC1]; exact heap_setCell_same _ _ _ _ _ _ HC1w.out)
  have HX1 : Hid (Ext w (w1.setCell ⟨g, 3, none⟩ (.slice A1 n1 c1))) := Lib.hid (HX1w.out.setCell (show w.heap.size ≤ g by omega) _)
  have G1 : Hid (Got eI (w1.setCell ⟨g, 3, none⟩ (.slice A1 n1 c1)) (g + 1) A1 e.ap.xs c1) := Lib.hid (G1.out.put (by omega) _ _)
  have K4_1 := Lib.hid ((by rw [← hC1, Array.getElem?_setIfInBounds_ne (by decide)] : C1[4]? = CA[4]?).trans K4_0.out)
  have K5_1 := Lib.hid ((by rw [← hC1, Array.getElem?_setIfInBounds_ne (by decide)] : C1[5]? = CA[5]?).trans K5_0.out)
  have HB1 : Hid (Ext B (w1.setCell ⟨g, 3, none⟩ (.slice A1 n1 c1))) := Lib.hid ((HB0.out.trans hb).setCell HBG.out _)
  have MO1 : Hid (Got eILt (w1.setCell ⟨g, 3, none⟩ (.slice A1 n1 c1)) w.heap.size A4 rs c4) := Lib.hid ((MO0.out.ext hb).butO (But.setCell w1 ⟨g, 3, none⟩ _) HOFF.out)
  have HS1 := Lib.hid hC1
  clear hC1 hg0 hb
  have cf : (w1.setCell ⟨g, 3, none⟩ (.slice A1 n1 c1)).cell? ⟨w.heap.size, 4, none⟩ = some (.slice e.fa.A n2 e.fa.c) := (cell_of_row _ _ 4 _ _ _ HA1.out).trans J4.out
  have SL2 := Lib.hid (SlX.ofI (H.out.ext HX1.out).fa.1 H.out.fa.2.2.2)
  go_wp2_with fail
  with_reducible refine (cloneI e.fa.A e.fa.c e.fa.xs HL2.out _ SL2.out sm2).mono ?_
  rintro e0 w2 hr
  obtain ⟨A2, c2, rfl, hg0, hb⟩ := hr.got HL2.out (fun _ _ => trivial)
  clear hr cf kf ff
  have HZ2w := Lib.hid (hb.blockAt HZ1.out)
  have HC2w := Lib.hid (hb.blockAt HC1.out)
  have HA2w := Lib.hid (hb.blockAt HA1.out)
  have G2 := Lib.hid (hg0.low (show g + 1 ≤ _ from blk_lt HC1.out))
  have G1 := Lib.hid (G1.out.ext hb)
  have kf : w2.cell? ⟨g, 4, none⟩ = some (.slice e.fa.A n2 e.fa.c) := (cell_of_row _ _ 4 _ _ _ HC2w.out).trans K4_1.out
  have ff : w2.frozen? ⟨g, 4, none⟩ = false := frozen_of_row _ _ _ _ _ HC2w.out
  have HX2w := Lib.hid (HX1.out.trans hb)
  obtain ⟨C2, hC2⟩ : ∃ C, C1.setIfInBounds 4 (.slice A2 n2 c2) = C := ⟨_, rfl⟩
  have HA2 : Hid ((w2.setCell ⟨g, 4, none⟩ (.slice A2 n2 c2)).heap[w.heap.size]? = some (.cells CE 56 (0, 0))) := Lib.hid ((heap_setCell_other _ _ _ _ (by simp; try omega)).trans HA2w.out)
  have HZ2 : Hid ((w2.setCell ⟨g, 4, none⟩ (.slice A2 n2 c2)).heap[w.heap.size + 1]? = some (.cells #[.slice none 0 0, .int .i64 0, .int .i64 0, .slice none 0 0, .slice none 0 0, .slice none 0 0, .slice none 0 0] 56 (0, 0))) := Lib.hid ((heap_setCell_other _ _ _ _ (by simp; try omega)).trans HZ2w.out)
  have HC2 : Hid ((w2.setCell ⟨g, 4, none⟩ (.slice A2 n2 c2)).heap[g]? = some (.cells C2 56 (0, 0))) := Lib.hid (by rw [← hC2]; exact heap_setCell_same _ _ _ _ _ _ HC2w.out)
  have HX2 : Hid (Ext w (w2.setCell ⟨g, 4, none⟩ (.slice A2 n2 c2))) := Lib.hid (HX2w.out.setCell (show w.heap.size ≤ g by omega) _)
  have G1 : Hid (Got eI (w2.setCell ⟨g, 4, none⟩ (.slice A2 n2 c2)) (g + 1) A1 e.ap.xs c1) := Lib.hid (G1.out.put (by omega) _ _)
  have G2 : Hid (Got eI (w2.setCell ⟨g, 4, none⟩ (.slice A2 n2 c2)) (g + 1) A2 e.fa.xs c2) := Lib.hid (G2.out.put (by omega) _ _)
  have K5_2 := Lib.hid ((by rw [← hC2, Array.getElem?_setIfInBounds_ne (by decide)] : C2[5]? = C1[5]?).trans K5_1.out)
  have HB2 : Hid (Ext B (w2.setCell ⟨g, 4, none⟩ (.slice A2 n2 c2))) := Lib.hid ((HB1.out.trans hb).setCell HBG.out _)
  have MO2 : Hid (Got eILt (w2.setCell ⟨g, 4, none⟩ (.slice A2 n2 c2)) w.heap.size A4 rs c4) := Lib.hid ((MO1.out.ext hb).butO (But.setCell w2 ⟨g, 4, none⟩ _) HOFF.out)
  have HS2 := Lib.hid hC2
  clear hC2 hg0 hb
  have cf : (w2.setCell ⟨g, 4, none⟩ (.slice A2 n2 c2)).cell? ⟨w.heap.size, 5, none⟩ = some (.slice e.lA n3 e.lc) := (cell_of_row _ _ 5 _ _ _ HA2.out).trans J5.out
  have SL3 := Lib.hid ((H.out.ext HX2.out).log)
  go_wp2_with fail
  with_reducible refine (cloneAct e.lA e.lc e.log HL3.out _ SL3.out sm3).mono ?_
  rintro e0 w3 hr
  obtain ⟨A3, c3, rfl, hg0, hb⟩ := hr.got HL3.out (fun _ _ => trivial)
  clear hr cf kf ff
  have HZ3w := Lib.hid (hb.blockAt HZ2.out)
  have HC3w := Lib.hid (hb.blockAt HC2.out)
  have HA3w := Lib.hid (hb.blockAt HA2.out)
  have G3 := Lib.hid (hg0.low (show g + 1 ≤ _ from blk_lt HC2.out))
  have G1 := Lib.hid (G1.out.ext hb)
  have G2 := Lib.hid (G2.out.ext hb)
  have kf : w3.cell? ⟨g, 5, none⟩ = some (.slice e.lA n3 e.lc) := (cell_of_row _ _ 5 _ _ _ HC3w.out).trans K5_2.out
  have ff : w3.frozen? ⟨g, 5, none⟩ = false := frozen_of_row _ _ _ _ _ HC3w.out
  have HX3w := Lib.hid (HX2.out.trans hb)
  obtain ⟨C3, hC3⟩ : ∃ C, C2.setIfInBounds 5 (.slice A3 n3 c3) = C := ⟨_, rfl⟩
  have HA3 : Hid ((w3.setCell ⟨g, 5, none⟩ (.slice A3 n3 c3)).heap[w.heap.size]? = some (.cells CE 56 (0, 0))) := Lib.hid ((heap_setCell_other _ _ _ _ (by simp; try omega)).trans HA3w.out)
  have HZ3 : Hid ((w3.setCell ⟨g, 5, none⟩ (.slice A3 n3 c3)).heap[w.heap.size + 1]? = some (.cells #[.slice none 0 0, .int .i64 0, .int .i64 0, .slice none 0 0, .slice none 0 0, .slice none 0 0, .slice none 0 0] 56 (0, 0))) := Lib.hid ((heap_setCell_other _ _ _ _ (by simp; try omega)).trans HZ3w.out)
  have HC3 : Hid ((w3.setCell ⟨g, 5, none⟩ (.slice A3 n3 c3)).heap[g]? = some (.cells C3 56 (0, 0))) := Lib.hid (by rw [← hC3]; exact heap_setCell_same _ _ _ _ _ _ HC3w.out)
  have HX3 : Hid (Ext w (w3.setCell ⟨g, 5, none⟩ (.slice A3 n3 c3))) := Lib.hid (HX3w.out.setCell (show w.heap.size ≤ g by omega) _)
  have G1 : Hid (Got eI (w3.setCell ⟨g, 5, none⟩ (.slice A3 n3 c3)) (g + 1) A1 e.ap.xs c1) := Lib.hid (G1.out.put (by omega) _ _)
  have G2 : Hid (Got eI (w3.setCell ⟨g, 5, none⟩ (.slice A3 n3 c3)) (g + 1) A2 e.fa.xs c2) := Lib.hid (G2.out.put (by omega) _ _)
  have G3 : Hid (Got eAct (w3.setCell ⟨g, 5, none⟩ (.slice A3 n3 c3)) (g + 1) A3 e.log c3) := Lib.hid (G3.out.put (by omega) _ _)
  have HB3 : Hid (Ext B (w3.setCell ⟨g, 5, none⟩ (.slice A3 n3 c3))) := Lib.hid ((HB2.out.trans hb).setCell HBG.out _)
  have MO3 : Hid (Got eILt (w3.setCell ⟨g, 5, none⟩ (.slice A3 n3 c3)) w.heap.size A4 rs c4) := Lib.hid ((MO2.out.ext hb).butO (But.setCell w3 ⟨g, 5, none⟩ _) HOFF.out)
  have HS3 := Lib.hid hC3
  clear hC3 hg0 hb
  have cv : (w3.setCell ⟨g, 5, none⟩ (.slice A3 n3 c3)).cell? ⟨w.heap.size, 0, none⟩ = some (.slice VA nv e.vc) := (cell_of_row _ _ 0 _ _ _ HA3.out).trans J0.out
  have HSZ : Hid (C3.size = 7) := Lib.hid (by rw [← HS3.out, ← HS2.out, ← HS1.out, ← HCA.out]; rfl)
  have HS0 : Hid (C3[0]? = some (.slice none 0 0)) := Lib.hid (by rw [← HS3.out, ← HS2.out, ← HS1.out, ← HCA.out]; rfl)
  have EN2 := Lib.hid (enters_of Tryz.func43 (by kernel_rfl) rfl)
  obtain ⟨iI, hi, hz, hs, hb⟩ := info_parts infoIt
  have HK3 : Hid (KEn e w.heap.size g A1 A2 A3 A4 c1 c2 c3 c4 rs (w3.setCell ⟨g, 5, none⟩ (.slice A3 n3 c3))) := Lib.hid ⟨G1.out.low (by omega), G2.out.low (by omega), G3.out.low (by omega), MO3.out, G1.out.frm.off (Nat.lt_succ_self _), G2.out.frm.off (Nat.lt_succ_self _), G3.out.frm.off (Nat.lt_succ_self _), HOFF.out⟩
  go_wp2
  go_loopw [33] (fun i wr => ∃ (k : Nat) (ys : List ItL) (Ar : Option Addr) (cr : Nat), k ≤ nv ∧ i = .int .i64 k ∧ Hid (its ys = its (e.vs.take k)) ∧ Hid (ys.length = k) ∧ Hid (RowX eIt 39 wr (g + 1) (.slice Ar k cr) ys) ∧ Hid (∀ y ∈ ys, eIt.From (g + 1) y) ∧ Hid (wr.heap[g]? = some (.cells (C3.setIfInBounds 0 (.slice Ar k cr)) 56 (0, 0))) ∧ Hid (Ext B wr) ∧ Hid (KEn e w.heap.size g A1 A2 A3 A4 c1 c2 c3 c4 rs wr)) (fun i _ => nv - (intOf i).toNat)
  case atStart => exact ⟨0, [], none, 0, by omega, rfl, Lib.hid rfl, Lib.hid rfl, Lib.hid (RowX.nil _ _ _), Lib.hid (fun y hy => by simp at hy), Lib.hid (by rw [set_self HS0.out]; exact HC3.out), HB3, HK3⟩
  case round =>
    obtain ⟨k, ys, Ar, cr, hk, rfl, HY, HYL, HROW, HYF, HG, HXB, HK⟩ := hrel
    clear cv
    by_cases hlt : k < nv
    · obtain ⟨x, hx⟩ : ∃ x, e.vs[k]? = some x := ⟨e.vs[k]'(by rw [HNV.out]; exact hlt), List.getElem?_eq_getElem _⟩
      obtain ⟨b, off, rfl, hbl, hc, hin⟩ := HVS.out.at_ hx
      obtain ⟨CI, hci, hni, h1i, hki⟩ := itp x
      have HC : Hid (wr.rangeAt b (off + k * 17) CI.toList) := Lib.hid (HXB.out.range (by rw [← hki]; exact hc))
      have II := Lib.hid (infoItem hni)
      have NI := Lib.hid hni
      have OI := Lib.hid h1i
      have HIN : Hid (It.In B x.1 x.2) := Lib.hid hin
      have HX := Lib.hid hx
      have HCI := Lib.hid (fun w h => bcopyItem_any x.1 x.2 w h (HZI.out x (List.mem_of_getElem? hx)))
      rw [hci] at HCI
      have ki0 : (0 : Int) ≤ (k : Int) := by omega
      have ki1 : (k : Int) < (nv : Int) := by omega
      clear hx hc hin hci hni h1i hki
      have XW : Hid (Ext wr (wr.alloc (.cells CI 39))) := Lib.hid ((Ext.refl _).alloc _)
      have HCO : Hid ((C3.setIfInBounds 0 (.slice Ar k cr))[0]? = some (.slice Ar k cr)) := Lib.hid (by rw [Array.getElem?_setIfInBounds, if_pos rfl, if_pos (by rw [HSZ.out]; omega)])
      have HOB : Hid (∀ q, (Value.slice Ar k cr).ownBlock = some q → q < (wr.alloc (.cells CI 39)).heap.size) := Lib.hid (fun q hq => Nat.lt_of_lt_of_le (own_lt HROW.out.own q hq) XW.out.size)
      have HBN : Hid (g + 1 ≤ (wr.alloc (.cells CI 39)).heap.size) := Lib.hid (blk_lt (XW.out.blockAt HG.out))
      have HBB : Hid (B.heap.size ≤ g + 1) := Lib.hid (Nat.le_succ_of_le HBG.out)
      have HGB : Hid (g < g + 1) := Lib.hid (Nat.lt_succ_self _)
      have HLM : Hid (ys.length + 1 ≤ maxLen) := Lib.hid (by rw [HYL.out]; unfold maxLen; omega)
      have HLB : Hid ((ys.length + 1) * 216 ≤ 140737488355328) := Lib.hid (by rw [HYL.out]; have := HZV.out; omega)
      have HFR := HYF
      have HKO : Hid (∀ (u1 u2 : World) (q : Nat) (cur : Array Value) (fr : Nat × Nat), u1.heap[q]? = some (.cells cur 39 fr) → But q u1 u2 → (KEn.kp e w.heap.size g A1 A2 A3 A4 c1 c2 c3 c4 rs).K u1 → (KEn.kp e w.heap.size g A1 A2 A3 A4 c1 c2 c3 c4 rs).K u2) := Lib.hid (fun w w' q cur fr h1 h2 h3 => KEn.ko w w' q cur fr h1 h2 h3)
      have HKG : Hid (∀ (u1 u2 : World), But g u1 u2 → (KEn.kp e w.heap.size g A1 A2 A3 A4 c1 c2 c3 c4 rs).K u1 → (KEn.kp e w.heap.size g A1 A2 A3 A4 c1 c2 c3 c4 rs).K u2) := Lib.hid (fun w w' h1 h2 => KEn.kg w w' h1 h2)
      have HROW0 : Hid (PRow eIt 39 (wr.alloc (.cells CI 39)).heap.size (g + 1) (.slice Ar k cr) ys g (C3.setIfInBounds 0 (.slice Ar k cr)) 56 (KEn.kp e w.heap.size g A1 A2 A3 A4 c1 c2 c3 c4 rs) (Kp.blk wr.heap.size CI 39) (wr.alloc (.cells CI 39))) := Lib.hid ⟨HROW.out.ext XW.out, XW.out.blockAt HG.out, Nat.le_refl _, HK.out.ext XW.out, heap_alloc_new _ _⟩
      go_wp2_with (first
        | (with_reducible refine wpList_load_arr rfl 39 (.tmp 35) rfl b (off + k * 17) (by with_unfolding_all rfl) CI _ HC.out Tryz.underlying39 rfl II.out ?_)
        | (with_reducible refine wpList_store_new rfl 39 (.tmp 5) (.tmp 36) rfl _ CI 39 (by with_unfolding_all rfl) (by with_unfolding_all rfl) II.out (by with_unfolding_all exact NI.out.symm) OI.out ?_))
      simp only [Act.put]
      refine region_tb (by kernel_rfl) (by decide +kernel) (cevE g wr.heap.size) ⟨rfl, rfl, rfl⟩ 9 cevD cevC (cevR g ((wr.alloc (.cells CI 39)).heap.size) k cr wr.heap.size Ar ys CI ((C3.setIfInBounds 0 (.slice Ar k cr))) x.1 ((KEn.kp e w.heap.size g A1 A2 A3 A4 c1 c2 c3 c4 rs))) B (HXB.out.trans XW.out) (fun i h1 h2 => by
      have h3 : 8 ≤ i := h1
      have h4 : i < 9 := h2
      obtain rfl : i = 8 := by omega
      exact PRow.mono ((Ext.refl _).drew) HROW0.out) ?_ ?_
      · intro Tv dd lv U wz i o hE ho hlv hd hT
        obtain ⟨t3, t5, tz⟩ := hE
        have hx := hT.ext
        match i, ho, hlv, hd with
        | 0, ho, hlv, hd =>
          obtain rfl := Option.some.inj ho
          have v0 := eval_old (d := dd) (hT.out 3 (by decide)) (by omega) t3
          refine tbw_yield (v := .pointer (some ⟨g, 0, none⟩)) (cevR_ext g ((wr.alloc (.cells CI 39)).heap.size) k cr wr.heap.size Ar ys CI ((C3.setIfInBounds 0 (.slice Ar k cr))) x.1 ((KEn.kp e w.heap.size g A1 A2 A3 A4 c1 c2 c3 c4 rs))) hT ho hd (wanted_plain rfl) rfl (by decide) (by decide) ?_ (Ext.refl _) rfl
          generalize Act.eval ⟨over Tv U, dd⟩ = ev at *
          simp [execOp, go_sem, v0]
        | 1, ho, hlv, hd =>
          obtain rfl := Option.some.inj ho
          have f0 : U 37 = some (.pointer (some ⟨g, 0, none⟩)) := hT.facts 0 (by decide) (dep hd 0 (by kernel_rfl)) (fun c e => by cases e)
          have v0 : Act.eval ⟨over Tv U, dd⟩ (.tmp 37) = _ := eval_new (t := Tv) (d := dd) f0 (by show 37 < Tv.size; omega)
          have hnA : lv 5 = false := by
            cases hA : lv 5 with
            | false => rfl
            | true => exact absurd (dep (hT.shut 5 _ rfl hA) 1 (by kernel_rfl)) (by rw [hlv]; decide)
          have hrow : PRow eIt 39 ((wr.alloc (.cells CI 39)).heap.size) (g + 1) (.slice Ar k cr) ys (g) ((C3.setIfInBounds 0 (.slice Ar k cr))) 56 ((KEn.kp e w.heap.size g A1 A2 A3 A4 c1 c2 c3 c4 rs)) (Kp.blk wr.heap.size CI 39) wz := hT.facts 8 (by decide) (hT.past 8 (by decide)) (fun c e => by injection e with e; subst e; exact hnA)
          have hc := (cell_of_row _ _ 0 _ _ _ hrow.2.1).trans HCO.out
          refine tbw_yield (v := .slice Ar k cr) (cevR_ext g ((wr.alloc (.cells CI 39)).heap.size) k cr wr.heap.size Ar ys CI ((C3.setIfInBounds 0 (.slice Ar k cr))) x.1 ((KEn.kp e w.heap.size g A1 A2 A3 A4 c1 c2 c3 c4 rs))) hT ho hd (wanted_plain rfl) rfl (by decide) (by decide) ?_ (Ext.refl _) rfl
          generalize Act.eval ⟨over Tv U, dd⟩ = ev at *
          simp [execOp, go_sem, v0, hc]
        | 2, ho, hlv, hd =>
          obtain rfl := Option.some.inj ho
          have v0 := eval_old (d := dd) (hT.out 5 (by decide)) (by omega) t5
          have hnA : lv 5 = false := by
            cases hA : lv 5 with
            | false => rfl
            | true => exact absurd (dep (hT.shut 3 _ rfl (dep (hT.shut 4 _ rfl (dep (hT.shut 5 _ rfl hA) 4 (by kernel_rfl))) 3 (by kernel_rfl))) 2 (by kernel_rfl)) (by rw [hlv]; decide)
          have hrow : PRow eIt 39 ((wr.alloc (.cells CI 39)).heap.size) (g + 1) (.slice Ar k cr) ys (g) ((C3.setIfInBounds 0 (.slice Ar k cr))) 56 ((KEn.kp e w.heap.size g A1 A2 A3 A4 c1 c2 c3 c4 rs)) (Kp.blk wr.heap.size CI 39) wz := hT.facts 8 (by decide) (hT.past 8 (by decide)) (fun c e => by injection e with e; subst e; exact hnA)
          refine tbw_yield (v := .agg CI) (cevR_ext g ((wr.alloc (.cells CI 39)).heap.size) k cr wr.heap.size Ar ys CI ((C3.setIfInBounds 0 (.slice Ar k cr))) x.1 ((KEn.kp e w.heap.size g A1 A2 A3 A4 c1 c2 c3 c4 rs))) hT ho hd (wanted_plain rfl) rfl (by decide) (by decide) (exec_load_row _ _ rfl wr.heap.size v0 _ _ _ _ hrow.2.2.2.2 Tryz.underlying39 rfl II.out) (Ext.refl _) rfl
        | 3, ho, hlv, hd =>
          obtain rfl := Option.some.inj ho
          have f0 : U 39 = some (.agg CI) := hT.facts 2 (by decide) (dep hd 2 (by kernel_rfl)) (fun c e => by cases e)
          have v0 : Act.eval ⟨over Tv U, dd⟩ (.tmp 39) = _ := eval_new (t := Tv) (d := dd) f0 (by show 39 < Tv.size; omega)
          have hnA : lv 5 = false := by
            cases hA : lv 5 with
            | false => rfl
            | true => exact absurd (dep (hT.shut 4 _ rfl (dep (hT.shut 5 _ rfl hA) 4 (by kernel_rfl))) 3 (by kernel_rfl)) (by rw [hlv]; decide)
          have hrow : PRow eIt 39 ((wr.alloc (.cells CI 39)).heap.size) (g + 1) (.slice Ar k cr) ys (g) ((C3.setIfInBounds 0 (.slice Ar k cr))) 56 ((KEn.kp e w.heap.size g A1 A2 A3 A4 c1 c2 c3 c4 rs)) (Kp.blk wr.heap.size CI 39) wz := hT.facts 8 (by decide) (hT.past 8 (by decide)) (fun c e => by injection e with e; subst e; exact hnA)
          refine tbw_call (f := 43) (args := #[.agg CI]) (cevR_ext g ((wr.alloc (.cells CI 39)).heap.size) k cr wr.heap.size Ar ys CI ((C3.setIfInBounds 0 (.slice Ar k cr))) x.1 ((KEn.kp e w.heap.size g A1 A2 A3 A4 c1 c2 c3 c4 rs))) hT ho hd (wanted_plain rfl) rfl (by decide) (by decide) (exec_call1 rfl rfl v0 EN2.out) ?_
          refine (HCI.out wz (HIN.out.ext hx)).mono ?_
          rintro r w' ⟨⟨L, rfl, h1, h2⟩, hb⟩
          exact ⟨_, rfl, hb, ⟨(x.1, L), rfl, h1, eIt.mono h2 hrow.2.2.1, rfl⟩⟩
        | 4, ho, hlv, hd =>
          obtain rfl := Option.some.inj ho
          obtain ⟨y0, e0, h2, h3, h4⟩ : PNew eIt ((wr.alloc (.cells CI 39)).heap.size) (fun y : ItL => y.1 = x.1) ((fun y : ItL => It.agg y.1 y.2)) (U 40) wz := hT.facts 3 (by decide) (dep hd 3 (by kernel_rfl)) (fun c e => by injection e with e; subst e; exact hlv)
          have v0 : Act.eval ⟨over Tv U, dd⟩ (.tmp 40) = _ := eval_new (t := Tv) (d := dd) e0 (by show 40 < Tv.size; omega)
          refine tbw_yield (v := .slice (some ⟨wz.heap.size, 0, none⟩) 1 1) (cevR_ext g ((wr.alloc (.cells CI 39)).heap.size) k cr wr.heap.size Ar ys CI ((C3.setIfInBounds 0 (.slice Ar k cr))) x.1 ((KEn.kp e w.heap.size g A1 A2 A3 A4 c1 c2 c3 c4 rs))) hT ho hd (wanted_plain rfl) rfl (by decide) (by decide) (exec_buildOne 51 39 (.tmp 40) rfl v0 Tryz.underlying51 hi hz hs (by decide) (by decide) (by simp [It.agg, Value.cells])) ((Ext.refl _).alloc _) (PNew.one (E := eIt) (val := (fun y : ItL => It.agg y.1 y.2)) 39 (by simp [It.agg, Value.cells, eIt, icl, It.cells]) h2 h3 h4)
        | 5, ho, hlv, hd =>
          obtain rfl := Option.some.inj ho
          have f0 : U 38 = some (.slice Ar k cr) := hT.facts 1 (by decide) (dep hd 1 (by kernel_rfl)) (fun c e => by cases e)
          have v0 : Act.eval ⟨over Tv U, dd⟩ (.tmp 38) = _ := eval_new (t := Tv) (d := dd) f0 (by show 38 < Tv.size; omega)
          have hnA : lv 5 = false := hlv
          have hrow : PRow eIt 39 ((wr.alloc (.cells CI 39)).heap.size) (g + 1) (.slice Ar k cr) ys (g) ((C3.setIfInBounds 0 (.slice Ar k cr))) 56 ((KEn.kp e w.heap.size g A1 A2 A3 A4 c1 c2 c3 c4 rs)) (Kp.blk wr.heap.size CI 39) wz := hT.facts 8 (by decide) (hT.past 8 (by decide)) (fun c e => by injection e with e; subst e; exact hnA)
          have h1 : POne eIt ((wr.alloc (.cells CI 39)).heap.size) (fun y : ItL => y.1 = x.1) (U 41) wz := hT.facts 4 (by decide) (dep hd 4 (by kernel_rfl)) (fun c e => by injection e with e; subst e; exact hlv)
          obtain ⟨y, u', w', hU, hrun, hx2, hP⟩ := hrow.app (P := Tryz.prog) (t := 51) (ty := 51) Tryz.underlying51 hi hz hs hb rfl (by decide) HKO.out h1 HOB.out HBN.out hx HBB.out HLM.out HLB.out
          have v1 : Act.eval ⟨over Tv U, dd⟩ (.tmp 41) = _ := eval_new (t := Tv) (d := dd) hU (by show 41 < Tv.size; omega)
          refine tb_yield (v := u') (w' := w') hT ho hd rfl rfl (by decide) (by decide) (exec_append rfl v0 v1 hrun) hx2 hP ?_
          intro j hj hji hlj hcj hR
          match j, hj, hR with
          | 0, _, hR => exact hR
          | 1, _, hR => exact hR
          | 2, _, hR => exact hR
          | 3, _, _ => exact absurd (dep hd 4 (by kernel_rfl)) (by rw [(hcj 4 rfl).2]; decide)
          | 4, _, _ => exact absurd rfl (hcj 5 rfl).1
          | 5, _, _ => exact absurd rfl hji
          | 6, _, hR => exact hR
          | 7, _, _ => exact absurd (dep (hT.shut 7 _ rfl hlj) 5 (by kernel_rfl)) (by rw [hlv]; decide)
          | 8, _, _ => exact absurd rfl (hcj 5 rfl).1
          | j + 9, hj, _ => exact absurd hj (by omega)
        | 6, ho, hlv, hd =>
          obtain rfl := Option.some.inj ho
          have v0 := eval_old (d := dd) (hT.out 3 (by decide)) (by omega) t3
          refine tbw_yield (v := .pointer (some ⟨g, 0, none⟩)) (cevR_ext g ((wr.alloc (.cells CI 39)).heap.size) k cr wr.heap.size Ar ys CI ((C3.setIfInBounds 0 (.slice Ar k cr))) x.1 ((KEn.kp e w.heap.size g A1 A2 A3 A4 c1 c2 c3 c4 rs))) hT ho hd (wanted_plain rfl) rfl (by decide) (by decide) ?_ (Ext.refl _) rfl
          generalize Act.eval ⟨over Tv U, dd⟩ = ev at *
          simp [execOp, go_sem, v0]
        | 7, ho, hlv, hd =>
          obtain rfl := Option.some.inj ho
          have f0 : U 43 = some (.pointer (some ⟨g, 0, none⟩)) := hT.facts 6 (by decide) (dep hd 6 (by kernel_rfl)) (fun c e => by cases e)
          have v0 : Act.eval ⟨over Tv U, dd⟩ (.tmp 43) = _ := eval_new (t := Tv) (d := dd) f0 (by show 43 < Tv.size; omega)
          obtain ⟨y0, A', c', hU, h2, h3, h4, h5, h6⟩ : PApp eIt (fun y : ItL => y.1 = x.1) 39 (g + 1) ys (g) ((C3.setIfInBounds 0 (.slice Ar k cr))) 56 ((KEn.kp e w.heap.size g A1 A2 A3 A4 c1 c2 c3 c4 rs)) (U 42) wz := hT.facts 5 (by decide) (dep hd 5 (by kernel_rfl)) (fun c e => by injection e with e; subst e; exact hlv)
          have v1 : Act.eval ⟨over Tv U, dd⟩ (.tmp 42) = _ := eval_new (t := Tv) (d := dd) hU (by show 42 < Tv.size; omega)
          have hc := (cell_of_row _ _ 0 _ _ _ h5).trans HCO.out
          have hfz := frozen_of_row _ _ 0 _ _ h5
          refine tb_store (w' := wz.setCell ⟨g, 0, none⟩ (.slice A' (ys.length + 1) c')) hT ho hd rfl rfl ?_ (hx.setCell HBG.out _) (PApp.sto rfl h2 h3 h4 h5 h6 HKG.out (by decide) HGB.out HFR.out) ?_
          · generalize Act.eval ⟨over Tv U, dd⟩ = ev at *
            simp [execOp, v0, v1, go_sem, hc, hfz]
          · intro j hj hji hlj hcj hR
            match j, hj, hR with
            | 0, _, hR => exact hR
            | 1, _, hR => exact hR
            | 2, _, hR => exact hR
            | 3, _, _ => exact absurd (dep (hT.shut 5 _ rfl (dep hd 5 (by kernel_rfl))) 4 (by kernel_rfl)) (by rw [(hcj 4 rfl).2]; decide)
            | 4, _, _ => exact absurd (dep hd 5 (by kernel_rfl)) (by rw [(hcj 5 rfl).2]; decide)
            | 5, _, _ => exact absurd rfl (hcj 7 rfl).1
            | 6, _, hR => exact hR
            | 7, _, _ => exact absurd rfl hji
            | 8, _, _ => exact absurd (dep hd 5 (by kernel_rfl)) (by rw [(hcj 5 rfl).2]; decide)
            | j + 9, hj, _ => exact absurd hj (by omega)
        | i + 8, ho, _, _ => exact absurd ho (by simp)
      intro U wz hex hout hfin
      have PS : PSto eIt (fun y : ItL => y.1 = x.1) 39 (g + 1) ys (g) 0 ((C3.setIfInBounds 0 (.slice Ar k cr))) 56 ((KEn.kp e w.heap.size g A1 A2 A3 A4 c1 c2 c3 c4 rs)) wz := hfin 7 (by decide) rfl
      have XE := Lib.hid hex
      clear hex hfin
      rw [over_list]
      simp (disch := decide) only [overL, Nat.reduceAdd, hout, Option.getD_none]
      clear hout
      obtain ⟨y, A', c', hrow, hfr, hD, hblk, hK⟩ := PS
      rw [HYL.out] at hrow hblk
      rw [set_set] at hblk
      have HY2 : Hid (its (ys ++ [y]) = its (e.vs.take (k + 1))) := Lib.hid (its_next HY.out HX.out hD)
      have HYL2 : Hid ((ys ++ [y]).length = k + 1) := Lib.hid (by rw [List.length_append, HYL.out]; rfl)
      have HR2 := Lib.hid hrow
      have HF2 : Hid (∀ z ∈ ys ++ [y], eIt.From (g + 1) z) := Lib.hid (fun z hz => by
        rcases List.mem_append.1 hz with hz | hz
        · exact HYF.out z hz
        · rw [List.mem_singleton] at hz; rw [hz]; exact hfr)
      have HB2 := Lib.hid hblk
      have HK2 := Lib.hid hK
      clear hrow hfr hD hblk hK
      go_wp2
      go_roundw
      case rel => exact ⟨k + 1, ys ++ [y], A', c', by omega, by go_num, HY2, HYL2, HR2, HF2, HB2, XE, HK2⟩
      case measure => simp [intOf]; omega
    · obtain rfl : k = nv := by omega
      have HZB := Lib.hid (HXB.out.blockAt HBZ.out)
      obtain ⟨CF, hcf⟩ : ∃ C, C3.setIfInBounds 0 (.slice Ar k cr) = C := ⟨_, rfl⟩
      rw [hcf] at HG
      have HSF : Hid (CF.size = 7) := Lib.hid (by rw [← hcf, Array.size_setIfInBounds]; exact HSZ.out)
      have HFIN : Hid (CF = (EntL.cells ⟨Ar, cr, ys, e.st, e.au, ⟨A1, c1, e.ap.xs⟩, ⟨A2, c2, e.fa.xs⟩, A3, c3, e.log, A4, c4, rs⟩).toArray) := Lib.hid (by
        rw [← hcf, ← HS3.out, ← HS2.out, ← HS1.out, ← HCA.out, ← HL1.out, ← HL2.out, ← HL3.out, ← HRL.out, ← HYL.out]
        rfl)
      have H1C : Hid (CF.all (·.oneCell') = true) := Lib.hid (by rw [HFIN.out]; simp [EntL.cells, IL.val, Value.oneCell'])
      have INF := Lib.hid (infoEn HSF.out)
      have IZ : Hid ((#[.slice none 0 0, .int .i64 0, .int .i64 0, .slice none 0 0, .slice none 0 0, .slice none 0 0, .slice none 0 0] : Array Value).size = CF.size) := Lib.hid HSF.out.symm
      clear hcf
      go_wp2_with (first
        | (with_reducible refine wpList_load_row rfl 56 (.tmp 3) rfl (g) (by with_unfolding_all rfl) _ CF _ _ HG.out Tryz.underlying56 rfl INF.out ?_)
        | (with_reducible refine wpList_store_row rfl 56 (.tmp 2) (.tmp 45) rfl (w.heap.size + 1) CF (by with_unfolding_all rfl) (by with_unfolding_all rfl) _ _ HZB.out INF.out IZ.out H1C.out ?_))
      refine bodyPost_ret (v := .agg CF) (results_oneR Tryz.results39 _ _ (w.heap.size + 1) _ CF _ _ rfl (setRow_heap _ _ _ _ _ _ HZB.out) Tryz.underlying56 rfl INF.out) rfl ?_
      have hb1 := But.setRow (w.heap.size + 1) wr CF
      have hrow2 : RowX eIt 39 (wr.setRow (w.heap.size + 1) CF) (g + 1) (.slice Ar k cr) ys := HROW.out.but hb1 (fun q => by have := own_ge HROW.out.own _ q; omega) (fun x hx => eIt.frm (HYF.out x hx) (by omega))
      have hk2 : KEn e w.heap.size g A1 A2 A3 A4 c1 c2 c3 c4 rs (wr.setRow (w.heap.size + 1) CF) := HK.out.kt HZB.out (by decide) (by decide) (by decide) hb1
      have hrow3 := hrow2
      rw [← HYL.out] at hrow3
      obtain ⟨h1, h2, h3⟩ := hk2.done (by omega) H.out.st H.out.au hrow3 HYF.out (by rw [HY.out, List.take_of_length_le (by rw [HNV.out]; exact Nat.le_refl _)]) HRX.out
      refine ⟨⟨_, by rw [HFIN.out]; rfl, h1, h2, h3, ⟨?_, hrow3.ins, hrow3.off⟩⟩, (HBX.out.trans HXB.out).rowSet (by omega) _⟩
      exact own_low' hrow3.own (by omega)
theorem RvL.Ok.low {N M : Nat} {w : World} {r : RvL} (h : r.Ok N w) (hm : M ≤ N) : r.Ok M w := ⟨h.st, h.au, h.ap.low hm, h.fa.low hm, h.log.low hm⟩
theorem RvL.Ok.kt {N : Nat} {w w' : World} {r : RvL} {q : Nat} {cur : Array Value} {T : TypeId} {fr : Nat × Nat} (h : r.Ok N w) (hq : w.heap[q]? = some (.cells cur T fr)) (h1 : 3 ≠ T) (h2 : 116 ≠ T) (hb : But q w w') : r.Ok N w' :=
  ⟨h.st, h.au, h.ap.keepT hq h1 (fun _ _ => trivial) hb, h.fa.keepT hq h1 (fun _ _ => trivial) hb, h.log.keepT hq h2 (fun _ _ => trivial) hb⟩
/-- What each operation of the region leaves. -/
def renL (n0 nr : Nat) (rv : RvL) (rA : Option Addr) (rc : Nat) (rows : List IL) : List (Option Value → World → Prop) := [fun u _ => u = some (.pointer (some ⟨n0, 1, none⟩)),
  fun u _ => u = some (rv.agg),
  fun u w => ∃ W : RvL, u = some W.agg ∧ W.rc = rv.rc ∧ W.Ok n0 w,
  fun u _ => u = some (.pointer (some ⟨n0, 6, none⟩)),
  fun u _ => u = some (.agg #[.slice rA nr rc]),
  fun u w => ∃ W : Option Addr × Nat × List IL, u = some (.agg #[.slice W.1 nr W.2.1]) ∧ rxs W.2.2 = rxs rows ∧ Got eILt w n0 W.1 W.2.2 W.2.1,
  fun u w => ∃ W : RvL × Option Addr × Nat × List IL, u = some (.agg #[.slice none 0 0, .int .i64 W.1.st, .int .i64 W.1.au, W.1.ap.val, W.1.fa.val, .slice W.1.lA W.1.log.length W.1.lc, .slice W.2.1 nr W.2.2.1]) ∧ (W.1.rc = rv.rc ∧ W.1.Ok n0 w) ∧ rxs W.2.2.2 = rxs rows ∧ Got eILt w n0 W.2.1 W.2.2.2 W.2.2.1,
  fun u w => ∃ g : Nat, u = some (.pointer (some ⟨g, 0, none⟩)) ∧ n0 + 1 + 1 ≤ g ∧ w.heap[g]? = some (.cells #[.slice none 0 0, .int .i64 0, .int .i64 0, .slice none 0 0, .slice none 0 0, .slice none 0 0, .slice none 0 0] 56 (0, 0)),
  fun u w => ∃ W : Nat × RvL × Option Addr × Nat × List IL, u = some (.pointer (some ⟨W.1, 0, none⟩)) ∧ n0 + 1 + 1 ≤ W.1 ∧ w.heap[W.1]? = some (.cells #[.slice none 0 0, .int .i64 W.2.1.st, .int .i64 W.2.1.au, W.2.1.ap.val, W.2.1.fa.val, .slice W.2.1.lA W.2.1.log.length W.2.1.lc, .slice W.2.2.1 nr W.2.2.2.1] 56 (0, 0)) ∧ (W.2.1.rc = rv.rc ∧ W.2.1.Ok n0 w) ∧ rxs W.2.2.2.2 = rxs rows ∧ Got eILt w n0 W.2.2.1 W.2.2.2.2 W.2.2.2.1]
theorem renL_mono (n0 nr : Nat) (rv : RvL) (rA : Option Addr) (rc : Nat) (rows : List IL) : AllMono (renL n0 nr rv rA rc rows) := ⟨mono_val _, mono_val _, (fun _ _ _ he h => h.elim fun W h => ⟨W, h.1, h.2.1, h.2.2.ext he⟩), mono_val _, mono_val _, (fun _ _ _ he h => h.elim fun W h => ⟨W, h.1, h.2.1, h.2.2.ext he⟩), (fun _ _ _ he h => h.elim fun W h => ⟨W, h.1, ⟨h.2.1.1, h.2.1.2.ext he⟩, h.2.2.1, h.2.2.2.ext he⟩), (fun _ _ _ he h => h.elim fun W h => ⟨W, h.1, h.2.1, he.blockAt h.2.2⟩), (fun _ _ _ he h => h.elim fun W h => ⟨W, h.1, h.2.1, he.blockAt h.2.2.1, ⟨h.2.2.2.1.1, h.2.2.2.1.2.ext he⟩, h.2.2.2.2.1, h.2.2.2.2.2.ext he⟩), trivial⟩
def renR (n0 nr : Nat) (rv : RvL) (rA : Option Addr) (rc : Nat) (rows : List IL) (j : Nat) (u : Option Value) (w : World) : Prop := (renL n0 nr rv rA rc rows).getD j (fun _ _ => True) u w
theorem renR_ext (n0 nr : Nat) (rv : RvL) (rA : Option Addr) (rc : Nat) (rows : List IL) (j : Nat) (u : Option Value) (w w' : World) (he : Ext w w') (hR : renR n0 nr rv rA rc rows j u w) : renR n0 nr rv rA rc rows j u w' := ((renL_mono n0 nr rv rA rc rows).at_ j) u w w' he hR
def renD : List Nat := [5, 6, 7, 8, 9, 10, 11, 3, 3]
def renC (j : Nat) : Option Nat := if j = 2 then some 6 else if j = 5 then some 6 else if j = 6 then some 8 else if j = 7 then some 8 else none
def renE (n0 : Nat) (t : Array Value) : Prop := t.getD 1 undef = .pointer (some ⟨n0, 0, none⟩) ∧ t.size = 31

/-- What each operation of the region leaves. -/
def revL (g n0 N k kk cr b off nv vc : Nat) (Ar : Option Addr) (ys : List ItL) (CI CK : Array Value) (it : It.Item) (K : Kp) : List (Option Value → World → Prop) := [fun u _ => u = some (.pointer (some ⟨g, 0, none⟩)),
  fun u _ => u = some (.slice Ar k cr),
  fun u _ => u = some (.pointer (some ⟨n0, 0, none⟩)),
  fun u _ => u = some (.slice (some ⟨b, off, none⟩) nv vc),
  fun u _ => u = some (.int .i64 (kk : Int)),
  fun u _ => u = some (.pointer (some ⟨b, off + kk * 17, none⟩)),
  fun u _ => u = some (.agg CI),
  fun u w => PNew eIt (N) (fun y : ItL => y.1 = it) ((fun y : ItL => It.agg y.1 y.2)) u w,
  fun u w => POne eIt (N) (fun y : ItL => y.1 = it) u w,
  fun u w => PApp eIt (fun y : ItL => y.1 = it) 39 (g + 1) ys (g) (CK) 56 (K) u w,
  fun u _ => u = some (.pointer (some ⟨g, 0, none⟩)),
  fun _ w => PSto eIt (fun y : ItL => y.1 = it) 39 (g + 1) ys (g) 0 (CK) 56 (K) w,
  fun _ w => PRow eIt 39 (N) (g + 1) (.slice Ar k cr) ys (g) (CK) 56 (K) (Kp.none) w]
theorem revL_mono (g n0 N k kk cr b off nv vc : Nat) (Ar : Option Addr) (ys : List ItL) (CI CK : Array Value) (it : It.Item) (K : Kp) : AllMono (revL g n0 N k kk cr b off nv vc Ar ys CI CK it K) := ⟨mono_val _, mono_val _, mono_val _, mono_val _, mono_val _, mono_val _, mono_val _, (fun _ _ _ he h => PNew.mono he h), (fun _ _ _ he h => POne.mono he h), (fun _ _ _ he h => PApp.mono he h), mono_val _, (fun _ _ _ he h => PSto.mono he h), (fun _ _ _ he h => PRow.mono he h), trivial⟩
def revR (g n0 N k kk cr b off nv vc : Nat) (Ar : Option Addr) (ys : List ItL) (CI CK : Array Value) (it : It.Item) (K : Kp) (j : Nat) (u : Option Value) (w : World) : Prop := (revL g n0 N k kk cr b off nv vc Ar ys CI CK it K).getD j (fun _ _ => True) u w
theorem revR_ext (g n0 N k kk cr b off nv vc : Nat) (Ar : Option Addr) (ys : List ItL) (CI CK : Array Value) (it : It.Item) (K : Kp) (j : Nat) (u : Option Value) (w w' : World) (he : Ext w w') (hR : revR g n0 N k kk cr b off nv vc Ar ys CI CK it K j u w) : revR g n0 N k kk cr b off nv vc Ar ys CI CK it K j u w' := ((revL_mono g n0 N k kk cr b off nv vc Ar ys CI CK it K).at_ j) u w w' he hR
def revD : List Nat := [19, 20, 21, 22, 23, 24, 25, 26, 27, 28, 29, 900, 901]
def revC (j : Nat) : Option Nat := if j = 7 then some 8 else if j = 8 then some 9 else if j = 9 then some 11 else if j = 12 then some 9 else none
def revE (g n0 kk : Nat) (t : Array Value) : Prop := t.getD 1 undef = .pointer (some ⟨n0, 0, none⟩) ∧ t.getD 3 undef = .pointer (some ⟨g, 0, none⟩) ∧ t.getD 4 undef = .int .i64 (kk : Int) ∧ t.size = 31

set_option maxRecDepth 100000 in
set_option maxHeartbeats 25600000 in
theorem rentry_any (e : EntL) (w : World) (h : e.In w) (hz : EntSz e.ent) :
    Calls Tryz.prog 42 #[e.agg] w fun r w' => RetEn w e r w' ∧ Ext w w' := by
  obtain ⟨CE, hce, hne, h1e, hke⟩ := e.packed
  rw [hce]
  obtain ⟨B, hB⟩ : ∃ B, (w.alloc (.cells CE 56)).alloc (.cells #[.slice none 0 0, .int .i64 0, .int .i64 0, .slice none 0 0, .slice none 0 0, .slice none 0 0, .slice none 0 0] 56) = B := ⟨_, rfl⟩
  have HBX : Hid (Ext w B) := Lib.hid (by rw [← hB]; exact ((Ext.refl _).alloc _).alloc _)
  have HBS : Hid (B.heap.size = w.heap.size + 1 + 1) := Lib.hid (by rw [← hB]; simp)
  have HBA : Hid (B.heap[w.heap.size]? = some (.cells CE 56 (0, 0))) := Lib.hid (by rw [← hB]; exact two_fst' _ _ _)
  have HBZ : Hid (B.heap[w.heap.size + 1]? = some (.cells #[.slice none 0 0, .int .i64 0, .int .i64 0, .slice none 0 0, .slice none 0 0, .slice none 0 0, .slice none 0 0] 56 (0, 0))) := Lib.hid (by rw [← hB]; exact heap_new_at _ _ _ (by simp))
  have HBH := Lib.hid hB
  have H := Lib.hid h
  obtain ⟨nr, hnr⟩ : ∃ n, e.rows.length = n := ⟨_, rfl⟩
  obtain ⟨nv, hnv⟩ : ∃ n, e.vs.length = n := ⟨_, rfl⟩
  have HNR := Lib.hid hnr
  have HNV := Lib.hid hnv
  have HRW : Hid (SlX eIL B e.rA e.rows) := Lib.hid (h.rows.ext HBX.out)
  have HZR : Hid (nr * 24 ≤ 140737488355328) := Lib.hid (by have := hz.rows; simp only [EntL.ent, List.length_map, hnr] at this; exact this)
  have HZ1 : Hid (∀ r ∈ e.rows, r.xs.length * 8 ≤ 140737488355328) := Lib.hid (fun r hr => hz.row r.xs (List.mem_map.2 ⟨r, hr, rfl⟩))
  have HZV : Hid (nv * 216 ≤ 140737488355328) := Lib.hid (by have := hz.vs; simp only [EntL.ent, List.length_map, hnv] at this; exact this)
  have HZI : Hid (∀ x ∈ e.vs, ItSz x.1) := Lib.hid (fun x hx => hz.its x.1 (List.mem_map.2 ⟨x, hx, rfl⟩))
  have sm1 : e.ap.xs.length * 8 ≤ 140737488355328 := hz.ap
  have sm2 : e.fa.xs.length * 8 ≤ 140737488355328 := hz.fa
  have sm3 : e.log.length * 32 ≤ 140737488355328 := hz.log
  have HR1 : Hid (B.rangeAt w.heap.size 1 (#[.int .i64 e.st, .int .i64 e.au, e.ap.val, e.fa.val, .slice e.lA e.log.length e.lc] : Array Value).toList) := Lib.hid (fun j v hv => by
    rw [cell_of_row _ _ (1 + j) _ _ _ HBA.out, ← hke]
    match j, hv with
    | 0, hv => exact hv
    | 1, hv => exact hv
    | 2, hv => exact hv
    | 3, hv => exact hv
    | 4, hv => exact hv
    | j + 5, hv => simp at hv)
  have HR2 : Hid (B.rangeAt w.heap.size 6 (#[.slice e.rA nr e.rc] : Array Value).toList) := Lib.hid (fun j v hv => by
    rw [cell_of_row _ _ (6 + j) _ _ _ HBA.out, ← hke]
    match j, hv with
    | 0, hv => rw [← hnr] at hv; exact hv
    | j + 1, hv => simp at hv)
  have IRV : Hid ((Tryz.prog.info? 54).map (·.size) = some (#[.int .i64 e.st, .int .i64 e.au, e.ap.val, e.fa.val, .slice e.lA e.log.length e.lc] : Array Value).size) := Lib.hid (infoRev rfl)
  have IMD : Hid ((Tryz.prog.info? 46).map (·.size) = some (#[.slice e.rA nr e.rc] : Array Value).size) := Lib.hid (infoMd rfl)
  have IE7 : Hid ((Tryz.prog.info? 56).map (·.size) = some 7) := Lib.hid ((infoEn hne).trans (by rw [hne]))
  have EN0 := Lib.hid (enters_of Tryz.func82 (by kernel_rfl) rfl)
  have EN1 := Lib.hid (enters_of Tryz.func83 (by kernel_rfl) rfl)
  have HRV : Hid (e.rv.In B) := Lib.hid (RvL.In.ext ⟨h.st, h.au, h.ap, h.fa, h.log, h.lc⟩ HBX.out)
  have HZV0 : Hid (RevSz e.rv.rc) := Lib.hid ⟨hz.ap, hz.fa, hz.log⟩
  clear hB h hz hnr hnv sm1 sm2 sm3
  go_enter Tryz.func42, Tryz.ntmps42
  go_wp2_with fail
  refine region_tb (by kernel_rfl) (by decide +kernel) (renE w.heap.size) ⟨rfl, rfl⟩ 9 renD renC (renR w.heap.size nr e.rv e.rA e.rc e.rows) B (by rw [HBH.out]; exact Ext.refl _) (fun i h1 h2 => absurd h2 (Nat.not_lt.2 h1)) ?_ ?_
  · intro Tv dd lv U wz i o hE ho hlv hd hT
    obtain ⟨t1, tz⟩ := hE
    have hx := hT.ext
    match i, ho, hlv, hd with
    | 0, ho, hlv, hd =>
      obtain rfl := Option.some.inj ho
      have v0 := eval_old (d := dd) (hT.out 1 (by decide)) (by omega) t1
      refine tbw_yield (v := .pointer (some ⟨w.heap.size, 1, none⟩)) (renR_ext w.heap.size nr e.rv e.rA e.rc e.rows) hT ho hd (wanted_plain rfl) rfl (by decide) (by decide) ?_ (Ext.refl _) rfl
      generalize Act.eval ⟨over Tv U, dd⟩ = ev at *
      simp [execOp, go_sem, v0]
    | 1, ho, hlv, hd =>
      obtain rfl := Option.some.inj ho
      have f0 : U 5 = some (.pointer (some ⟨w.heap.size, 1, none⟩)) := hT.facts 0 (by decide) (dep hd 0 (by kernel_rfl)) (fun c e => by cases e)
      have v0 : Act.eval ⟨over Tv U, dd⟩ (.tmp 5) = _ := eval_new (t := Tv) (d := dd) f0 (by show 5 < Tv.size; omega)
      refine tbw_yield (v := e.rv.agg) (renR_ext w.heap.size nr e.rv e.rA e.rc e.rows) hT ho hd (wanted_plain rfl) rfl (by decide) (by decide) (exec_load_arr _ _ rfl w.heap.size (1) v0 #[.int .i64 e.st, .int .i64 e.au, e.ap.val, e.fa.val, .slice e.lA e.log.length e.lc] _ (hx.range HR1.out) Tryz.underlying54 rfl IRV.out) (Ext.refl _) rfl
    | 2, ho, hlv, hd =>
      obtain rfl := Option.some.inj ho
      have f0 : U 6 = some (e.rv.agg) := hT.facts 1 (by decide) (dep hd 1 (by kernel_rfl)) (fun c e => by cases e)
      have v0 : Act.eval ⟨over Tv U, dd⟩ (.tmp 6) = _ := eval_new (t := Tv) (d := dd) f0 (by show 6 < Tv.size; omega)
      refine tbw_call (f := 82) (args := #[e.rv.agg]) (renR_ext w.heap.size nr e.rv e.rA e.rc e.rows) hT ho hd (wanted_plain rfl) rfl (by decide) (by decide) (exec_call1 rfl rfl v0 EN0.out) ?_
      refine (rreview_any e.rv wz (HRV.out.ext hx) HZV0.out).mono ?_
      rintro r w' ⟨⟨r', rfl, h1, h2⟩, hb⟩
      exact ⟨_, rfl, hb, r', rfl, h1, h2.low (Nat.le_trans (by rw [HBS.out]; omega) hx.size)⟩
    | 3, ho, hlv, hd =>
      obtain rfl := Option.some.inj ho
      have v0 := eval_old (d := dd) (hT.out 1 (by decide)) (by omega) t1
      refine tbw_yield (v := .pointer (some ⟨w.heap.size, 6, none⟩)) (renR_ext w.heap.size nr e.rv e.rA e.rc e.rows) hT ho hd (wanted_plain rfl) rfl (by decide) (by decide) ?_ (Ext.refl _) rfl
      generalize Act.eval ⟨over Tv U, dd⟩ = ev at *
      simp [execOp, go_sem, v0]
    | 4, ho, hlv, hd =>
      obtain rfl := Option.some.inj ho
      have f0 : U 8 = some (.pointer (some ⟨w.heap.size, 6, none⟩)) := hT.facts 3 (by decide) (dep hd 3 (by kernel_rfl)) (fun c e => by cases e)
      have v0 : Act.eval ⟨over Tv U, dd⟩ (.tmp 8) = _ := eval_new (t := Tv) (d := dd) f0 (by show 8 < Tv.size; omega)
      refine tbw_yield (v := .agg #[.slice e.rA nr e.rc]) (renR_ext w.heap.size nr e.rv e.rA e.rc e.rows) hT ho hd (wanted_plain rfl) rfl (by decide) (by decide) (exec_load_arr _ _ rfl w.heap.size (6) v0 #[.slice e.rA nr e.rc] _ (hx.range HR2.out) Tryz.underlying46 rfl IMD.out) (Ext.refl _) rfl
    | 5, ho, hlv, hd =>
      obtain rfl := Option.some.inj ho
      have f0 : U 9 = some (.agg #[.slice e.rA nr e.rc]) := hT.facts 4 (by decide) (dep hd 4 (by kernel_rfl)) (fun c e => by cases e)
      have v0 : Act.eval ⟨over Tv U, dd⟩ (.tmp 9) = _ := eval_new (t := Tv) (d := dd) f0 (by show 9 < Tv.size; omega)
      refine tbw_call (f := 83) (args := #[.agg #[.slice e.rA nr e.rc]]) (renR_ext w.heap.size nr e.rv e.rA e.rc e.rows) hT ho hd (wanted_plain rfl) rfl (by decide) (by decide) (exec_call1 rfl rfl v0 EN1.out) ?_
      refine (rmodel_any e.rA e.rc e.rows HNR.out wz (HRW.out.ext hx) HZR.out HZ1.out).mono ?_
      rintro r w' ⟨⟨A, c, ys, rfl, h1, h2⟩, hb⟩
      rw [HNR.out]
      exact ⟨_, rfl, hb, (A, c, ys), rfl, h1, h2.low (Nat.le_trans (by rw [HBS.out]; omega) hx.size)⟩
    | 6, ho, hlv, hd =>
      obtain rfl := Option.some.inj ho
      obtain ⟨W, e0, h1, h2⟩ : ∃ W : RvL, U 7 = some W.agg ∧ W.rc = e.rv.rc ∧ W.Ok w.heap.size wz := hT.facts 2 (by decide) (dep hd 2 (by kernel_rfl)) (fun c e => by injection e with e; subst e; exact hlv)
      have v0 : Act.eval ⟨over Tv U, dd⟩ (.tmp 7) = _ := eval_new (t := Tv) (d := dd) e0 (by show 7 < Tv.size; omega)
      obtain ⟨V, e1, h3, h4⟩ : ∃ W : Option Addr × Nat × List IL, U 10 = some (.agg #[.slice W.1 nr W.2.1]) ∧ rxs W.2.2 = rxs e.rows ∧ Got eILt wz w.heap.size W.1 W.2.2 W.2.1 := hT.facts 5 (by decide) (dep hd 5 (by kernel_rfl)) (fun c e => by injection e with e; subst e; exact hlv)
      have v1 : Act.eval ⟨over Tv U, dd⟩ (.tmp 10) = _ := eval_new (t := Tv) (d := dd) e1 (by show 10 < Tv.size; omega)
      refine tbw_yield (v := .agg #[.slice none 0 0, .int .i64 W.st, .int .i64 W.au, W.ap.val, W.fa.val, .slice W.lA W.log.length W.lc, .slice V.1 nr V.2.1]) (renR_ext w.heap.size nr e.rv e.rA e.rc e.rows) hT ho hd (wanted_plain rfl) rfl (by decide) (by decide) (exec_buildL 56 _ rfl [(1, W.agg), (2, .agg #[.slice V.1 nr V.2.1])] (by simp [v0, v1]) _ (by kernel_rfl)) (Ext.refl _) ⟨(W, V), rfl, ⟨h1, h2⟩, h3, h4⟩
    | 7, ho, hlv, hd =>
      obtain rfl := Option.some.inj ho
      refine tb_extW (v := .pointer (some ⟨wz.heap.size, 0, none⟩)) (w' := wz.alloc (.cells #[.slice none 0 0, .int .i64 0, .int .i64 0, .slice none 0 0, .slice none 0 0, .slice none 0 0, .slice none 0 0] 56)) (renR_ext w.heap.size nr e.rv e.rA e.rc e.rows) hT ho hd rfl rfl (by decide) ?_ ?_ ((Ext.refl _).alloc _) ⟨wz.heap.size, rfl, by have := hx.size; rw [HBS.out] at this; exact this, heap_alloc_new _ _⟩
      · intro j hj hji hlj
        match j, hj, hlj with
        | 0, _, _ => decide
        | 1, _, _ => decide
        | 2, _, _ => decide
        | 3, _, _ => decide
        | 4, _, _ => decide
        | 5, _, _ => decide
        | 6, _, _ => decide
        | 7, _, _ => exact absurd rfl hji
        | 8, _, hlj => exact absurd (dep (hT.shut 8 _ rfl hlj) 7 (by kernel_rfl)) (by rw [hlv]; decide)
        | j + 9, hj, _ => exact absurd hj (by omega)
      · generalize Act.eval ⟨over Tv U, dd⟩ = ev at *
        simp [execOp, go_sem]
    | 8, ho, hlv, hd =>
      obtain rfl := Option.some.inj ho
      obtain ⟨W, e1, h0, h1, h2⟩ : ∃ W : RvL × Option Addr × Nat × List IL, U 11 = some (.agg #[.slice none 0 0, .int .i64 W.1.st, .int .i64 W.1.au, W.1.ap.val, W.1.fa.val, .slice W.1.lA W.1.log.length W.1.lc, .slice W.2.1 nr W.2.2.1]) ∧ (W.1.rc = e.rv.rc ∧ W.1.Ok w.heap.size wz) ∧ rxs W.2.2.2 = rxs e.rows ∧ Got eILt wz w.heap.size W.2.1 W.2.2.2 W.2.2.1 := hT.facts 6 (by decide) (dep hd 6 (by kernel_rfl)) (fun c e => by injection e with e; subst e; exact hlv)
      have v1 : Act.eval ⟨over Tv U, dd⟩ (.tmp 11) = _ := eval_new (t := Tv) (d := dd) e1 (by show 11 < Tv.size; omega)
      obtain ⟨g, e0, hg, hblk⟩ : ∃ g : Nat, U 3 = some (.pointer (some ⟨g, 0, none⟩)) ∧ w.heap.size + 1 + 1 ≤ g ∧ wz.heap[g]? = some (.cells #[.slice none 0 0, .int .i64 0, .int .i64 0, .slice none 0 0, .slice none 0 0, .slice none 0 0, .slice none 0 0] 56 (0, 0)) := hT.facts 7 (by decide) (dep hd 7 (by kernel_rfl)) (fun c e => by injection e with e; subst e; exact hlv)
      have v0 : Act.eval ⟨over Tv U, dd⟩ (.tmp 3) = _ := eval_new (t := Tv) (d := dd) e0 (by show 3 < Tv.size; omega)
      have hb9 := But.setRow g wz #[.slice none 0 0, .int .i64 W.1.st, .int .i64 W.1.au, W.1.ap.val, W.1.fa.val, .slice W.1.lA W.1.log.length W.1.lc, .slice W.2.1 nr W.2.2.1]
      refine tb_store (w' := wz.setRow g #[.slice none 0 0, .int .i64 W.1.st, .int .i64 W.1.au, W.1.ap.val, W.1.fa.val, .slice W.1.lA W.1.log.length W.1.lc, .slice W.2.1 nr W.2.2.1]) hT ho hd rfl rfl (exec_store_row 56 (.tmp 3) (.tmp 11) rfl g _ v0 v1 56 _ hblk IE7.out rfl (by simp [IL.val, Value.oneCell'])) (hx.rowSet (by rw [HBS.out]; exact hg) _) ⟨(g, W), e0, hg, setRow_heap _ _ _ _ _ _ hblk, ⟨h0.1, h0.2.kt hblk (by decide) (by decide) hb9⟩, h1, h2.butO hb9 (h2.offT hblk (by decide) (by decide))⟩ ?_
      intro j hj hji hlj hcj hR
      match j, hj, hR with
      | 0, _, hR => exact hR
      | 1, _, hR => exact hR
      | 2, _, _ => exact absurd (dep hd 6 (by kernel_rfl)) (by rw [(hcj 6 rfl).2]; decide)
      | 3, _, hR => exact hR
      | 4, _, hR => exact hR
      | 5, _, _ => exact absurd (dep hd 6 (by kernel_rfl)) (by rw [(hcj 6 rfl).2]; decide)
      | 6, _, _ => exact absurd rfl (hcj 8 rfl).1
      | 7, _, _ => exact absurd rfl (hcj 8 rfl).1
      | 8, _, _ => exact absurd rfl hji
      | j + 9, hj, _ => exact absurd hj (by omega)
    | i + 9, ho, _, _ => exact absurd ho (by simp)
  intro U wz hex hout hfin
  obtain ⟨W3, f3, hW3⟩ := hfin 8 (by decide) rfl
  change U 3 = _ at f3
  have XE := Lib.hid hex
  clear hex hfin
  rw [over_list]
  simp (disch := decide) only [overL, Nat.reduceAdd, hout, Option.getD_none]
  rw [f3]
  simp only [Option.getD_some]
  clear hout f3
  obtain ⟨g, r0, A4, c4, rs⟩ := W3
  obtain ⟨hg, hblk, ⟨hrc, hok⟩, hrx, hgot⟩ := hW3
  dsimp only at hg hblk hrc hok hrx hgot ⊢
  obtain ⟨C3, hca⟩ : ∃ C, (#[.slice none 0 0, .int .i64 r0.st, .int .i64 r0.au, r0.ap.val, r0.fa.val, .slice r0.lA r0.log.length r0.lc, .slice A4 nr c4] : Array Value) = C := ⟨_, rfl⟩
  rw [hca] at hblk
  have HRC : Hid (r0.st = e.st ∧ r0.au = e.au ∧ r0.ap.xs = e.ap.xs ∧ r0.fa.xs = e.fa.xs ∧ r0.log = e.log) := Lib.hid (by unfold RvL.rc EntL.rv at hrc; injection hrc with h1 h2 h3 h4 h5; exact ⟨h1, h2, h3, h4, h5⟩)
  have HK0 : Hid (KEn e w.heap.size g r0.ap.A r0.fa.A r0.lA A4 r0.ap.c r0.fa.c r0.lc c4 rs wz) := Lib.hid (by
    obtain ⟨-, -, h3, h4, h5⟩ := HRC.out
    have k1 := hok.ap; have k2 := hok.fa; have k3 := hok.log
    rw [h3] at k1; rw [h4] at k2; rw [h5] at k3
    exact ⟨k1, k2, k3, hgot, ⟨k1.ty.off hblk (by decide), fun _ _ => trivial⟩, ⟨k2.ty.off hblk (by decide), fun _ _ => trivial⟩, ⟨k3.ty.off hblk (by decide), fun _ _ => trivial⟩, hgot.offT hblk (by decide) (by decide)⟩)
  have HCA3 := Lib.hid hca
  have HC3 := Lib.hid hblk
  have HB3 := XE
  have HRX := Lib.hid hrx
  have HBG : Hid (B.heap.size ≤ g) := Lib.hid (by rw [HBS.out]; exact hg)
  have HRL : Hid (rs.length = nr) := Lib.hid (by have := congrArg List.length hrx; unfold rxs at this; rw [List.length_map, List.length_map] at this; exact this.trans HNR.out)
  have hv63 : nv ≤ 9223372036854775807 := by have := HZV.out; omega
  obtain ⟨VA, hVA⟩ : ∃ A, e.vA = A := ⟨_, rfl⟩
  have J0 : Hid (CE[0]? = some (.slice VA nv e.vc)) := Lib.hid (by rw [← hke, ← HNV.out, ← hVA]; rfl)
  have HVS : Hid (SlX eIt B VA e.vs) := Lib.hid (by rw [← hVA]; exact H.out.vs.ext HBX.out)
  have HSZ : Hid (C3.size = 7) := Lib.hid (by rw [← hca]; rfl)
  have HS0 : Hid (C3[0]? = some (.slice none 0 0)) := Lib.hid (by rw [← hca]; rfl)
  clear hblk hrc hok hrx hgot hca hVA XE hce hne h1e hke HR1 HR2 IRV IMD
  have EN2 := Lib.hid (enters_of Tryz.func44 (by kernel_rfl) rfl)
  obtain ⟨iI, hi, hz, hs, hb⟩ := info_parts infoIt
  go_wp2
  go_loopw [4] (fun i wr => ∃ (k : Nat) (ys : List ItL) (Ar : Option Addr) (cr : Nat), k ≤ nv ∧ i = .int .i64 k ∧ Hid (its ys = its (e.vs.take k)) ∧ Hid (ys.length = k) ∧ Hid (RowX eIt 39 wr (g + 1) (.slice Ar k cr) ys) ∧ Hid (∀ y ∈ ys, eIt.From (g + 1) y) ∧ Hid (wr.heap[g]? = some (.cells (C3.setIfInBounds 0 (.slice Ar k cr)) 56 (0, 0))) ∧ Hid (Ext B wr) ∧ Hid (KEn e w.heap.size g r0.ap.A r0.fa.A r0.lA A4 r0.ap.c r0.fa.c r0.lc c4 rs wr)) (fun i _ => nv - (intOf i).toNat)
  case atStart => exact ⟨0, [], none, 0, by omega, rfl, Lib.hid rfl, Lib.hid rfl, Lib.hid (RowX.nil _ _ _), Lib.hid (fun y hy => by simp at hy), Lib.hid (by rw [set_self HS0.out]; exact HC3.out), HB3, HK0⟩
  case round =>
    obtain ⟨k, ys, Ar, cr, hk, rfl, HY, HYL, HROW, HYF, HG, HXB, HK⟩ := hrel
    have ca : B.cell? ⟨w.heap.size, 0, none⟩ = some (.slice VA nv e.vc) := (cell_of_row _ _ 0 _ _ _ HBA.out).trans J0.out
    have ca1 := HXB.out.keep ca
    have HCA := Lib.hid ca
    clear ca
    by_cases hlt : k < nv
    · obtain ⟨x, hx⟩ : ∃ x, e.vs[k]? = some x := ⟨e.vs[k]'(by rw [HNV.out]; exact hlt), List.getElem?_eq_getElem _⟩
      obtain ⟨b, off, rfl, hbl, hc, hin⟩ := HVS.out.at_ hx
      obtain ⟨CI, hci, hni, h1i, hki⟩ := itp x
      have HC : Hid (B.rangeAt b (off + k * 17) CI.toList) := Lib.hid (by rw [← hki]; exact hc)
      have II := Lib.hid (infoItem hni)
      have HIN : Hid (It.In B x.1 x.2) := Lib.hid hin
      have HX := Lib.hid hx
      have HCI := Lib.hid (fun w h => ritem_any x.1 x.2 w h (HZI.out x (List.mem_of_getElem? hx)))
      rw [hci] at HCI
      have ki0 : (0 : Int) ≤ (k : Int) := by omega
      have ki1 : (k : Int) < (nv : Int) := by omega
      have KI := Lib.hid (And.intro ki0 ki1)
      clear hx hc hin hci hni h1i hki
      have HCO : Hid ((C3.setIfInBounds 0 (.slice Ar k cr))[0]? = some (.slice Ar k cr)) := Lib.hid (by rw [Array.getElem?_setIfInBounds, if_pos rfl, if_pos (by rw [HSZ.out]; omega)])
      have HOB : Hid (∀ q, (Value.slice Ar k cr).ownBlock = some q → q < wr.heap.size) := Lib.hid (fun q hq => own_lt HROW.out.own q hq)
      have HBN : Hid (g + 1 ≤ wr.heap.size) := Lib.hid (blk_lt HG.out)
      have HBB : Hid (B.heap.size ≤ g + 1) := Lib.hid (Nat.le_succ_of_le HBG.out)
      have HGB : Hid (g < g + 1) := Lib.hid (Nat.lt_succ_self _)
      have HLM : Hid (ys.length + 1 ≤ maxLen) := Lib.hid (by rw [HYL.out]; unfold maxLen; omega)
      have HLB : Hid ((ys.length + 1) * 216 ≤ 140737488355328) := Lib.hid (by rw [HYL.out]; have := HZV.out; omega)
      have HFR := HYF
      have HKO : Hid (∀ (u1 u2 : World) (q : Nat) (cur : Array Value) (fr : Nat × Nat), u1.heap[q]? = some (.cells cur 39 fr) → But q u1 u2 → (KEn.kp e w.heap.size g r0.ap.A r0.fa.A r0.lA A4 r0.ap.c r0.fa.c r0.lc c4 rs).K u1 → (KEn.kp e w.heap.size g r0.ap.A r0.fa.A r0.lA A4 r0.ap.c r0.fa.c r0.lc c4 rs).K u2) := Lib.hid (fun w w' q cur fr h1 h2 h3 => KEn.ko w w' q cur fr h1 h2 h3)
      have HKG : Hid (∀ (u1 u2 : World), But g u1 u2 → (KEn.kp e w.heap.size g r0.ap.A r0.fa.A r0.lA A4 r0.ap.c r0.fa.c r0.lc c4 rs).K u1 → (KEn.kp e w.heap.size g r0.ap.A r0.fa.A r0.lA A4 r0.ap.c r0.fa.c r0.lc c4 rs).K u2) := Lib.hid (fun w w' h1 h2 => KEn.kg w w' h1 h2)
      have HROW0 : Hid (PRow eIt 39 wr.heap.size (g + 1) (.slice Ar k cr) ys g (C3.setIfInBounds 0 (.slice Ar k cr)) 56 (KEn.kp e w.heap.size g r0.ap.A r0.fa.A r0.lA A4 r0.ap.c r0.fa.c r0.lc c4 rs) Kp.none wr) := Lib.hid ⟨HROW.out, HG.out, Nat.le_refl _, HK.out, trivial⟩
      go_wp2_with fail
      refine region_tb (by kernel_rfl) (by decide +kernel) (revE g w.heap.size k) ⟨rfl, rfl, rfl, rfl⟩ 13 revD revC (revR g w.heap.size wr.heap.size k k cr b off nv e.vc Ar ys CI ((C3.setIfInBounds 0 (.slice Ar k cr))) x.1 ((KEn.kp e w.heap.size g r0.ap.A r0.fa.A r0.lA A4 r0.ap.c r0.fa.c r0.lc c4 rs))) B HXB.out (fun i h1 h2 => by
      have h3 : 12 ≤ i := h1
      have h4 : i < 13 := h2
      obtain rfl : i = 12 := by omega
      exact PRow.mono ((Ext.refl _).drew) HROW0.out) ?_ ?_
      · intro Tv dd lv U wz i o hE ho hlv hd hT
        obtain ⟨t1, t3, t4, tz⟩ := hE
        have hx := hT.ext
        match i, ho, hlv, hd with
        | 0, ho, hlv, hd =>
          obtain rfl := Option.some.inj ho
          have v0 := eval_old (d := dd) (hT.out 3 (by decide)) (by omega) t3
          refine tbw_yield (v := .pointer (some ⟨g, 0, none⟩)) (revR_ext g w.heap.size wr.heap.size k k cr b off nv e.vc Ar ys CI ((C3.setIfInBounds 0 (.slice Ar k cr))) x.1 ((KEn.kp e w.heap.size g r0.ap.A r0.fa.A r0.lA A4 r0.ap.c r0.fa.c r0.lc c4 rs))) hT ho hd (wanted_plain rfl) rfl (by decide) (by decide) ?_ (Ext.refl _) rfl
          generalize Act.eval ⟨over Tv U, dd⟩ = ev at *
          simp [execOp, go_sem, v0]
        | 1, ho, hlv, hd =>
          obtain rfl := Option.some.inj ho
          have f0 : U 19 = some (.pointer (some ⟨g, 0, none⟩)) := hT.facts 0 (by decide) (dep hd 0 (by kernel_rfl)) (fun c e => by cases e)
          have v0 : Act.eval ⟨over Tv U, dd⟩ (.tmp 19) = _ := eval_new (t := Tv) (d := dd) f0 (by show 19 < Tv.size; omega)
          have hnA : lv 9 = false := by
            cases hA : lv 9 with
            | false => rfl
            | true => exact absurd (dep (hT.shut 9 _ rfl hA) 1 (by kernel_rfl)) (by rw [hlv]; decide)
          have hrow : PRow eIt 39 (wr.heap.size) (g + 1) (.slice Ar k cr) ys (g) ((C3.setIfInBounds 0 (.slice Ar k cr))) 56 ((KEn.kp e w.heap.size g r0.ap.A r0.fa.A r0.lA A4 r0.ap.c r0.fa.c r0.lc c4 rs)) (Kp.none) wz := hT.facts 12 (by decide) (hT.past 12 (by decide)) (fun c e => by injection e with e; subst e; exact hnA)
          have hc := (cell_of_row _ _ 0 _ _ _ hrow.2.1).trans HCO.out
          refine tbw_yield (v := .slice Ar k cr) (revR_ext g w.heap.size wr.heap.size k k cr b off nv e.vc Ar ys CI ((C3.setIfInBounds 0 (.slice Ar k cr))) x.1 ((KEn.kp e w.heap.size g r0.ap.A r0.fa.A r0.lA A4 r0.ap.c r0.fa.c r0.lc c4 rs))) hT ho hd (wanted_plain rfl) rfl (by decide) (by decide) ?_ (Ext.refl _) rfl
          generalize Act.eval ⟨over Tv U, dd⟩ = ev at *
          simp [execOp, go_sem, v0, hc]
        | 2, ho, hlv, hd =>
          obtain rfl := Option.some.inj ho
          have v0 := eval_old (d := dd) (hT.out 1 (by decide)) (by omega) t1
          refine tbw_yield (v := .pointer (some ⟨w.heap.size, 0, none⟩)) (revR_ext g w.heap.size wr.heap.size k k cr b off nv e.vc Ar ys CI ((C3.setIfInBounds 0 (.slice Ar k cr))) x.1 ((KEn.kp e w.heap.size g r0.ap.A r0.fa.A r0.lA A4 r0.ap.c r0.fa.c r0.lc c4 rs))) hT ho hd (wanted_plain rfl) rfl (by decide) (by decide) ?_ (Ext.refl _) rfl
          generalize Act.eval ⟨over Tv U, dd⟩ = ev at *
          simp [execOp, go_sem, v0]
        | 3, ho, hlv, hd =>
          obtain rfl := Option.some.inj ho
          have f0 : U 21 = some (.pointer (some ⟨w.heap.size, 0, none⟩)) := hT.facts 2 (by decide) (dep hd 2 (by kernel_rfl)) (fun c e => by cases e)
          have v0 : Act.eval ⟨over Tv U, dd⟩ (.tmp 21) = _ := eval_new (t := Tv) (d := dd) f0 (by show 21 < Tv.size; omega)
          have hc := hx.keep HCA.out
          refine tbw_yield (v := .slice (some ⟨b, off, none⟩) nv e.vc) (revR_ext g w.heap.size wr.heap.size k k cr b off nv e.vc Ar ys CI ((C3.setIfInBounds 0 (.slice Ar k cr))) x.1 ((KEn.kp e w.heap.size g r0.ap.A r0.fa.A r0.lA A4 r0.ap.c r0.fa.c r0.lc c4 rs))) hT ho hd (wanted_plain rfl) rfl (by decide) (by decide) ?_ (Ext.refl _) rfl
          generalize Act.eval ⟨over Tv U, dd⟩ = ev at *
          simp [execOp, go_sem, v0, hc]
        | 4, ho, hlv, hd =>
          obtain rfl := Option.some.inj ho
          have v0 := eval_old (d := dd) (hT.out 4 (by decide)) (by omega) t4
          refine tbw_yield (v := .int .i64 (k : Int)) (revR_ext g w.heap.size wr.heap.size k k cr b off nv e.vc Ar ys CI ((C3.setIfInBounds 0 (.slice Ar k cr))) x.1 ((KEn.kp e w.heap.size g r0.ap.A r0.fa.A r0.lA A4 r0.ap.c r0.fa.c r0.lc c4 rs))) hT ho hd (wanted_plain rfl) rfl (by decide) (by decide) ?_ (Ext.refl _) rfl
          generalize Act.eval ⟨over Tv U, dd⟩ = ev at *
          simp [execOp, go_sem, v0]
        | 5, ho, hlv, hd =>
          obtain rfl := Option.some.inj ho
          have f0 : U 22 = some (.slice (some ⟨b, off, none⟩) nv e.vc) := hT.facts 3 (by decide) (dep hd 3 (by kernel_rfl)) (fun c e => by cases e)
          have v0 : Act.eval ⟨over Tv U, dd⟩ (.tmp 22) = _ := eval_new (t := Tv) (d := dd) f0 (by show 22 < Tv.size; omega)
          have f1 : U 23 = some (.int .i64 (k : Int)) := hT.facts 4 (by decide) (dep hd 4 (by kernel_rfl)) (fun c e => by cases e)
          have v1 : Act.eval ⟨over Tv U, dd⟩ (.tmp 23) = _ := eval_new (t := Tv) (d := dd) f1 (by show 23 < Tv.size; omega)
          have ki := KI.out
          refine tbw_yield (v := .pointer (some ⟨b, off + k * 17, none⟩)) (revR_ext g w.heap.size wr.heap.size k k cr b off nv e.vc Ar ys CI ((C3.setIfInBounds 0 (.slice Ar k cr))) x.1 ((KEn.kp e w.heap.size g r0.ap.A r0.fa.A r0.lA A4 r0.ap.c r0.fa.c r0.lc c4 rs))) hT ho hd (wanted_plain rfl) rfl (by decide) (by decide) ?_ (Ext.refl _) rfl
          generalize Act.eval ⟨over Tv U, dd⟩ = ev at *
          simp [execOp, go_sem, v0, v1, ki]
        | 6, ho, hlv, hd =>
          obtain rfl := Option.some.inj ho
          have f0 : U 24 = some (.pointer (some ⟨b, off + k * 17, none⟩)) := hT.facts 5 (by decide) (dep hd 5 (by kernel_rfl)) (fun c e => by cases e)
          have v0 : Act.eval ⟨over Tv U, dd⟩ (.tmp 24) = _ := eval_new (t := Tv) (d := dd) f0 (by show 24 < Tv.size; omega)
          refine tbw_yield (v := .agg CI) (revR_ext g w.heap.size wr.heap.size k k cr b off nv e.vc Ar ys CI ((C3.setIfInBounds 0 (.slice Ar k cr))) x.1 ((KEn.kp e w.heap.size g r0.ap.A r0.fa.A r0.lA A4 r0.ap.c r0.fa.c r0.lc c4 rs))) hT ho hd (wanted_plain rfl) rfl (by decide) (by decide) (exec_load_arr _ _ rfl b (off + k * 17) v0 CI _ (hx.range HC.out) Tryz.underlying39 rfl II.out) (Ext.refl _) rfl
        | 7, ho, hlv, hd =>
          obtain rfl := Option.some.inj ho
          have f0 : U 25 = some (.agg CI) := hT.facts 6 (by decide) (dep hd 6 (by kernel_rfl)) (fun c e => by cases e)
          have v0 : Act.eval ⟨over Tv U, dd⟩ (.tmp 25) = _ := eval_new (t := Tv) (d := dd) f0 (by show 25 < Tv.size; omega)
          have hnA : lv 9 = false := by
            cases hA : lv 9 with
            | false => rfl
            | true => exact absurd (dep (hT.shut 8 _ rfl (dep (hT.shut 9 _ rfl hA) 8 (by kernel_rfl))) 7 (by kernel_rfl)) (by rw [hlv]; decide)
          have hrow : PRow eIt 39 (wr.heap.size) (g + 1) (.slice Ar k cr) ys (g) ((C3.setIfInBounds 0 (.slice Ar k cr))) 56 ((KEn.kp e w.heap.size g r0.ap.A r0.fa.A r0.lA A4 r0.ap.c r0.fa.c r0.lc c4 rs)) (Kp.none) wz := hT.facts 12 (by decide) (hT.past 12 (by decide)) (fun c e => by injection e with e; subst e; exact hnA)
          refine tbw_call (f := 44) (args := #[.agg CI]) (revR_ext g w.heap.size wr.heap.size k k cr b off nv e.vc Ar ys CI ((C3.setIfInBounds 0 (.slice Ar k cr))) x.1 ((KEn.kp e w.heap.size g r0.ap.A r0.fa.A r0.lA A4 r0.ap.c r0.fa.c r0.lc c4 rs))) hT ho hd (wanted_plain rfl) rfl (by decide) (by decide) (exec_call1 rfl rfl v0 EN2.out) ?_
          refine (HCI.out wz (HIN.out.ext hx)).mono ?_
          rintro r w' ⟨⟨L, rfl, h1, h2⟩, hb⟩
          exact ⟨_, rfl, hb, ⟨(x.1, L), rfl, h1, eIt.mono h2 hrow.2.2.1, rfl⟩⟩
        | 8, ho, hlv, hd =>
          obtain rfl := Option.some.inj ho
          obtain ⟨y0, e0, h2, h3, h4⟩ : PNew eIt (wr.heap.size) (fun y : ItL => y.1 = x.1) ((fun y : ItL => It.agg y.1 y.2)) (U 26) wz := hT.facts 7 (by decide) (dep hd 7 (by kernel_rfl)) (fun c e => by injection e with e; subst e; exact hlv)
          have v0 : Act.eval ⟨over Tv U, dd⟩ (.tmp 26) = _ := eval_new (t := Tv) (d := dd) e0 (by show 26 < Tv.size; omega)
          refine tbw_yield (v := .slice (some ⟨wz.heap.size, 0, none⟩) 1 1) (revR_ext g w.heap.size wr.heap.size k k cr b off nv e.vc Ar ys CI ((C3.setIfInBounds 0 (.slice Ar k cr))) x.1 ((KEn.kp e w.heap.size g r0.ap.A r0.fa.A r0.lA A4 r0.ap.c r0.fa.c r0.lc c4 rs))) hT ho hd (wanted_plain rfl) rfl (by decide) (by decide) (exec_buildOne 51 39 (.tmp 26) rfl v0 Tryz.underlying51 hi hz hs (by decide) (by decide) (by simp [It.agg, Value.cells])) ((Ext.refl _).alloc _) (PNew.one (E := eIt) (val := (fun y : ItL => It.agg y.1 y.2)) 39 (by simp [It.agg, Value.cells, eIt, icl, It.cells]) h2 h3 h4)
        | 9, ho, hlv, hd =>
          obtain rfl := Option.some.inj ho
          have f0 : U 20 = some (.slice Ar k cr) := hT.facts 1 (by decide) (dep hd 1 (by kernel_rfl)) (fun c e => by cases e)
          have v0 : Act.eval ⟨over Tv U, dd⟩ (.tmp 20) = _ := eval_new (t := Tv) (d := dd) f0 (by show 20 < Tv.size; omega)
          have hnA : lv 9 = false := hlv
          have hrow : PRow eIt 39 (wr.heap.size) (g + 1) (.slice Ar k cr) ys (g) ((C3.setIfInBounds 0 (.slice Ar k cr))) 56 ((KEn.kp e w.heap.size g r0.ap.A r0.fa.A r0.lA A4 r0.ap.c r0.fa.c r0.lc c4 rs)) (Kp.none) wz := hT.facts 12 (by decide) (hT.past 12 (by decide)) (fun c e => by injection e with e; subst e; exact hnA)
          have h1 : POne eIt (wr.heap.size) (fun y : ItL => y.1 = x.1) (U 27) wz := hT.facts 8 (by decide) (dep hd 8 (by kernel_rfl)) (fun c e => by injection e with e; subst e; exact hlv)
          obtain ⟨y, u', w', hU, hrun, hx2, hP⟩ := hrow.app (P := Tryz.prog) (t := 51) (ty := 51) Tryz.underlying51 hi hz hs hb rfl (by decide) HKO.out h1 HOB.out HBN.out hx HBB.out HLM.out HLB.out
          have v1 : Act.eval ⟨over Tv U, dd⟩ (.tmp 27) = _ := eval_new (t := Tv) (d := dd) hU (by show 27 < Tv.size; omega)
          refine tb_yield (v := u') (w' := w') hT ho hd rfl rfl (by decide) (by decide) (exec_append rfl v0 v1 hrun) hx2 hP ?_
          intro j hj hji hlj hcj hR
          match j, hj, hR with
          | 0, _, hR => exact hR
          | 1, _, hR => exact hR
          | 2, _, hR => exact hR
          | 3, _, hR => exact hR
          | 4, _, hR => exact hR
          | 5, _, hR => exact hR
          | 6, _, hR => exact hR
          | 7, _, _ => exact absurd (dep hd 8 (by kernel_rfl)) (by rw [(hcj 8 rfl).2]; decide)
          | 8, _, _ => exact absurd rfl (hcj 9 rfl).1
          | 9, _, _ => exact absurd rfl hji
          | 10, _, hR => exact hR
          | 11, _, _ => exact absurd (dep (hT.shut 11 _ rfl hlj) 9 (by kernel_rfl)) (by rw [hlv]; decide)
          | 12, _, _ => exact absurd rfl (hcj 9 rfl).1
          | j + 13, hj, _ => exact absurd hj (by omega)
        | 10, ho, hlv, hd =>
          obtain rfl := Option.some.inj ho
          have v0 := eval_old (d := dd) (hT.out 3 (by decide)) (by omega) t3
          refine tbw_yield (v := .pointer (some ⟨g, 0, none⟩)) (revR_ext g w.heap.size wr.heap.size k k cr b off nv e.vc Ar ys CI ((C3.setIfInBounds 0 (.slice Ar k cr))) x.1 ((KEn.kp e w.heap.size g r0.ap.A r0.fa.A r0.lA A4 r0.ap.c r0.fa.c r0.lc c4 rs))) hT ho hd (wanted_plain rfl) rfl (by decide) (by decide) ?_ (Ext.refl _) rfl
          generalize Act.eval ⟨over Tv U, dd⟩ = ev at *
          simp [execOp, go_sem, v0]
        | 11, ho, hlv, hd =>
          obtain rfl := Option.some.inj ho
          have f0 : U 29 = some (.pointer (some ⟨g, 0, none⟩)) := hT.facts 10 (by decide) (dep hd 10 (by kernel_rfl)) (fun c e => by cases e)
          have v0 : Act.eval ⟨over Tv U, dd⟩ (.tmp 29) = _ := eval_new (t := Tv) (d := dd) f0 (by show 29 < Tv.size; omega)
          obtain ⟨y0, A', c', hU, h2, h3, h4, h5, h6⟩ : PApp eIt (fun y : ItL => y.1 = x.1) 39 (g + 1) ys (g) ((C3.setIfInBounds 0 (.slice Ar k cr))) 56 ((KEn.kp e w.heap.size g r0.ap.A r0.fa.A r0.lA A4 r0.ap.c r0.fa.c r0.lc c4 rs)) (U 28) wz := hT.facts 9 (by decide) (dep hd 9 (by kernel_rfl)) (fun c e => by injection e with e; subst e; exact hlv)
          have v1 : Act.eval ⟨over Tv U, dd⟩ (.tmp 28) = _ := eval_new (t := Tv) (d := dd) hU (by show 28 < Tv.size; omega)
          have hc := (cell_of_row _ _ 0 _ _ _ h5).trans HCO.out
          have hfz := frozen_of_row _ _ 0 _ _ h5
          refine tb_store (w' := wz.setCell ⟨g, 0, none⟩ (.slice A' (ys.length + 1) c')) hT ho hd rfl rfl ?_ (hx.setCell HBG.out _) (PApp.sto rfl h2 h3 h4 h5 h6 HKG.out (by decide) HGB.out HFR.out) ?_
          · generalize Act.eval ⟨over Tv U, dd⟩ = ev at *
            simp [execOp, v0, v1, go_sem, hc, hfz]
          · intro j hj hji hlj hcj hR
            match j, hj, hR with
            | 0, _, hR => exact hR
            | 1, _, hR => exact hR
            | 2, _, hR => exact hR
            | 3, _, hR => exact hR
            | 4, _, hR => exact hR
            | 5, _, hR => exact hR
            | 6, _, hR => exact hR
            | 7, _, _ => exact absurd (dep (hT.shut 9 _ rfl (dep hd 9 (by kernel_rfl))) 8 (by kernel_rfl)) (by rw [(hcj 8 rfl).2]; decide)
            | 8, _, _ => exact absurd (dep hd 9 (by kernel_rfl)) (by rw [(hcj 9 rfl).2]; decide)
            | 9, _, _ => exact absurd rfl (hcj 11 rfl).1
            | 10, _, hR => exact hR
            | 11, _, _ => exact absurd rfl hji
            | 12, _, _ => exact absurd (dep hd 9 (by kernel_rfl)) (by rw [(hcj 9 rfl).2]; decide)
            | j + 13, hj, _ => exact absurd hj (by omega)
        | i + 12, ho, _, _ => exact absurd ho (by simp)
      intro U wz hex hout hfin
      have PS : PSto eIt (fun y : ItL => y.1 = x.1) 39 (g + 1) ys (g) 0 ((C3.setIfInBounds 0 (.slice Ar k cr))) 56 ((KEn.kp e w.heap.size g r0.ap.A r0.fa.A r0.lA A4 r0.ap.c r0.fa.c r0.lc c4 rs)) wz := hfin 11 (by decide) rfl
      have XE := Lib.hid hex
      clear hex hfin
      rw [over_list]
      simp (disch := decide) only [overL, Nat.reduceAdd, hout, Option.getD_none]
      clear hout
      obtain ⟨y, A', c', hrow, hfr, hD, hblk, hK⟩ := PS
      rw [HYL.out] at hrow hblk
      rw [set_set] at hblk
      have HY2 : Hid (its (ys ++ [y]) = its (e.vs.take (k + 1))) := Lib.hid (its_next HY.out HX.out hD)
      have HYL2 : Hid ((ys ++ [y]).length = k + 1) := Lib.hid (by rw [List.length_append, HYL.out]; rfl)
      have HR2 := Lib.hid hrow
      have HF2 : Hid (∀ z ∈ ys ++ [y], eIt.From (g + 1) z) := Lib.hid (fun z hz => by
        rcases List.mem_append.1 hz with hz | hz
        · exact HYF.out z hz
        · rw [List.mem_singleton] at hz; rw [hz]; exact hfr)
      have HB2 := Lib.hid hblk
      have HK2 := Lib.hid hK
      clear hrow hfr hD hblk hK
      go_wp2
      go_roundw
      case rel => exact ⟨k + 1, ys ++ [y], A', c', by omega, by go_num, HY2, HYL2, HR2, HF2, HB2, XE, HK2⟩
      case measure => simp [intOf]; omega
    · obtain rfl : k = nv := by omega
      have HZB := Lib.hid (HXB.out.blockAt HBZ.out)
      obtain ⟨CF, hcf⟩ : ∃ C, C3.setIfInBounds 0 (.slice Ar k cr) = C := ⟨_, rfl⟩
      rw [hcf] at HG
      have HSF : Hid (CF.size = 7) := Lib.hid (by rw [← hcf, Array.size_setIfInBounds]; exact HSZ.out)
      have HFIN : Hid (CF = (EntL.cells ⟨Ar, cr, ys, e.st, e.au, ⟨r0.ap.A, r0.ap.c, e.ap.xs⟩, ⟨r0.fa.A, r0.fa.c, e.fa.xs⟩, r0.lA, r0.lc, e.log, A4, c4, rs⟩).toArray) := Lib.hid (by
        obtain ⟨h1, h2, h3, h4, h5⟩ := HRC.out
        rw [← hcf, ← HCA3.out, ← h1, ← h2, ← h3, ← h4, ← h5, ← HRL.out, ← HYL.out]
        rfl)
      have H1C : Hid (CF.all (·.oneCell') = true) := Lib.hid (by rw [HFIN.out]; simp [EntL.cells, IL.val, Value.oneCell'])
      have INF := Lib.hid (infoEn HSF.out)
      have IZ : Hid ((#[.slice none 0 0, .int .i64 0, .int .i64 0, .slice none 0 0, .slice none 0 0, .slice none 0 0, .slice none 0 0] : Array Value).size = CF.size) := Lib.hid HSF.out.symm
      clear hcf
      go_wp2_with (first
        | (with_reducible refine wpList_load_row rfl 56 (.tmp 3) rfl (g) (by with_unfolding_all rfl) _ CF _ _ HG.out Tryz.underlying56 rfl INF.out ?_)
        | (with_reducible refine wpList_store_row rfl 56 (.tmp 2) (.tmp 30) rfl (w.heap.size + 1) CF (by with_unfolding_all rfl) (by with_unfolding_all rfl) _ _ HZB.out INF.out IZ.out H1C.out ?_))
      refine bodyPost_ret (v := .agg CF) (results_oneR Tryz.results42 _ _ (w.heap.size + 1) _ CF _ _ rfl (setRow_heap _ _ _ _ _ _ HZB.out) Tryz.underlying56 rfl INF.out) rfl ?_
      have hb1 := But.setRow (w.heap.size + 1) wr CF
      have hrow2 : RowX eIt 39 (wr.setRow (w.heap.size + 1) CF) (g + 1) (.slice Ar k cr) ys := HROW.out.but hb1 (fun q => by have := own_ge HROW.out.own _ q; omega) (fun x hx => eIt.frm (HYF.out x hx) (by omega))
      have hk2 : KEn e w.heap.size g r0.ap.A r0.fa.A r0.lA A4 r0.ap.c r0.fa.c r0.lc c4 rs (wr.setRow (w.heap.size + 1) CF) := HK.out.kt HZB.out (by decide) (by decide) (by decide) hb1
      have hrow3 := hrow2
      rw [← HYL.out] at hrow3
      obtain ⟨h1, h2, h3⟩ := hk2.done (by omega) H.out.st H.out.au hrow3 HYF.out (by rw [HY.out, List.take_of_length_le (by rw [HNV.out]; exact Nat.le_refl _)]) HRX.out
      refine ⟨⟨_, by rw [HFIN.out]; rfl, h1, h2, h3, ⟨?_, hrow3.ins, hrow3.off⟩⟩, (HBX.out.trans HXB.out).rowSet (by omega) _⟩
      exact own_low' hrow3.own (by omega)
end Bk
end Go.Proofs.YtfnmgcblhebdbaaGreatDoor
