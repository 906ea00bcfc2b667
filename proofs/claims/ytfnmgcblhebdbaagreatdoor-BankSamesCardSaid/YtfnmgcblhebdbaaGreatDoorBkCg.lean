/- append onto an empty literal; the reference's copy of a grid: contracts. Conditions: those of each theorem. -/
import Derived.Test.YtfnmgcblhebdbaaGreatDoorBkM
import Derived.Test.YtfnmgcblhebdbaaGreatDoorBkR
namespace Go.Proofs.YtfnmgcblhebdbaaGreatDoor
open Go.RowKit
namespace Bk
section
variable {P : Program}
theorem run_append_zero (w : World) (base : Nat) (t ty e : TypeId) (i : TypeInfo) (z : Value) (size bytes : Nat) (ht : P.underlying t = some (.slice e)) (hi : P.info? e = some i) (hz : i.zero = some z)
    (hsize : i.size = size) (hby : i.bytes = bytes) (hzs : z.cells.size = size) (hsz : 0 < size) {g : Nat} (hown : w.ownsRow base e size (.slice (some ⟨g, 0, none⟩) 0 0) 0 [])
    (A : Option Addr) (c : Nat) (xss : List (List Value)) (hr : Sl w size A xss) (hk : ∀ c ∈ xss, c.length = size) (h1 : ∀ c ∈ xss, ∀ u ∈ c, u.oneCell' = true)
    (h63 : xss.length ≤ maxLen) (hbytes : xss.length * bytes ≤ 140737488355328) (hbase : base ≤ w.heap.size) :
    ∃ v' w', (Builtin.append_ #[t, t] ty #[.slice (some ⟨g, 0, none⟩) 0 0, .slice A xss.length c]).run P w = .ok v' w' ∧ w'.ownsRow base e size v' xss.length xss.flatten ∧ Ext w w' := by
  obtain ⟨v', w', hrun, hown', -, -⟩ := run_append_sl (P := P) w base t ty e i z size bytes ht hi hz hsize hby hzs hsz _ 0 [] hown A c xss hr hk h1 (by rw [Nat.zero_add]; exact h63) (by rw [Nat.zero_add]; exact hbytes) hbase
  refine ⟨v', w', hrun, by simpa using hown', ?_⟩
  rcases Nat.eq_zero_or_pos xss.length with h0 | h0
  · obtain rfl := List.eq_nil_of_length_eq_zero h0
    have hr2 : (Builtin.append_ #[t, t] ty #[.slice (some ⟨g, 0, none⟩) 0 0, .slice A ([] : List (List Value)).length c]).run P w = .ok (.slice (some ⟨g, 0, none⟩) 0 0) w := by
      cases A <;> simp [Builtin.append_, run_underlying ht, sizeOf, typeInfo, hi, Builtin.lenOf, Builtin.firstCells, storeCells, loadCells, loadCellsFrom]
    have e2 := hrun.symm.trans hr2
    injection e2 with _ e3
    rw [e3]
    exact Ext.refl w
  · obtain ⟨b, off, rfl, hb, hc⟩ := hr.resolve_left (fun e => by rw [e] at h0; simp at h0)
    have hr2 := run_append_grow (P := P) w t ty e i z ht hi hz ⟨g, 0, none⟩ 0 0 [] (by simp) (by simp) ⟨b, off, none⟩ xss.length c xss.flatten (by rw [hsize]; exact flatten_len hk) (fun j u hu => by
      obtain ⟨q, r, cs, g1, g2, rfl⟩ := flatten_inv hk hu
      rw [Go.WideShapes.add_plain]
      exact hc q cs g1 r u g2) (by omega) (by unfold maxLen at h63; omega) (by rw [hby]; exact growslice_fits (by omega) (by rw [Nat.zero_add]; exact hbytes))
    have e2 := hrun.symm.trans hr2
    injection e2 with _ e3
    rw [e3]
    exact ((Ext.refl w).drew).alloc _
variable {X : Type} {E : Elt X}
/-- A copy appended to an empty literal. -/
theorem POwn.app0 {T t ty : TypeId} {ie : TypeInfo} {z : Value} {bytes : Nat} (he : T = E.T) (ht : P.underlying t = some (.slice T)) (hi : P.info? T = some ie) (hz : ie.zero = some z) (hs : ie.size = E.k) (hb : ie.bytes = bytes) (hzs : z.cells.size = E.k) (hE : ∀ N x, E.From N x)
    {w : World} {N n c : Nat} {u : Option Value} (h : POwn T E.k N u w) {A : Option Addr} {xs : List X} (hm : xs.length = n) (hr : SlX E w A xs) (hE2 : ∀ x ∈ xs, ∀ w, E.In w x) (hN : N ≤ w.heap.size) (h63 : n ≤ maxLen) (hbytes : n * bytes ≤ 140737488355328) :
    ∃ y w' A' c', u = some y ∧ (Builtin.append_ #[t, t] ty #[y, .slice A n c]).run P w = .ok (.slice A' n c') w' ∧ Ext w w' ∧ Got E w' N A' xs c' := by
  obtain ⟨p, rfl, h2, h3⟩ := h
  subst hm
  obtain ⟨v', w', hrun, hown, hgr⟩ := run_append_zero (P := P) w N t ty T ie z E.k bytes ht hi hz hs hb hzs E.pos h3 A c (xs.map E.enc) hr.sl (map_len xs) (fun c hc => by obtain ⟨x, -, rfl⟩ := List.mem_map.1 hc; exact E.one x) (by rw [List.length_map]; exact h63) (by rw [List.length_map]; exact hbytes) hN
  rw [List.length_map] at hrun hown
  obtain ⟨A2, c2, h4, h5, h6, h7⟩ := Sl.of_own (xs := xs.map E.enc) (map_len xs) (List.length_map _) hown
  rw [List.length_map] at h4 h5
  subst h4
  exact ⟨_, w', A2, c2, rfl, hrun, hgr, ⟨h7, fun x hx => hE2 x hx w'⟩, ⟨Or.inr fun a ha => own_ge hown a.block (by rw [ha]; rfl), fun x _ => hE _ x⟩, h5, h6, by rw [← he]; exact TyA.of_own hown⟩
end
/-- What each operation of the region leaves. -/
def rgrL (n0 n m c d : Nat) (A D : Option Addr) (xs ys : List Int) : List (Option Value → World → Prop) := [fun u w => POwn 3 1 n0 u w,
  fun u _ => u = some (.pointer (some ⟨n0, 0, none⟩)),
  fun u _ => u = some (.slice A n c),
  fun u w => ∃ W : Option Addr × Nat, u = some (.slice W.1 n W.2) ∧ Got eI w n0 W.1 xs W.2,
  fun u w => POwn 3 1 n0 u w,
  fun u _ => u = some (.pointer (some ⟨n0, 1, none⟩)),
  fun u _ => u = some (.slice D m d),
  fun u w => ∃ W : Option Addr × Nat, u = some (.slice W.1 m W.2) ∧ Got eI w n0 W.1 ys W.2,
  fun u w => ∃ W : (Option Addr × Nat) × Option Addr × Nat, u = some (.agg #[.slice W.1.1 n W.1.2, .slice W.2.1 m W.2.2]) ∧ Got eI w n0 W.1.1 xs W.1.2 ∧ Got eI w n0 W.2.1 ys W.2.2,
  fun _ w => ∃ W : (Option Addr × Nat) × Option Addr × Nat, w.heap[n0 + 1]? = some (.cells #[.slice W.1.1 n W.1.2, .slice W.2.1 m W.2.2] 24 (0, 0)) ∧ Got eI w n0 W.1.1 xs W.1.2 ∧ Got eI w n0 W.2.1 ys W.2.2,
  fun _ w => w.heap[n0 + 1]? = some (.cells #[.slice none 0 0, .slice none 0 0] 24 (0, 0))]
theorem rgrL_mono (n0 n m c d : Nat) (A D : Option Addr) (xs ys : List Int) : AllMono (rgrL n0 n m c d A D xs ys) := ⟨(fun _ _ _ he h => POwn.mono he h), mono_val _, mono_val _, (fun _ _ _ he h => h.elim fun W h => ⟨W, h.1, h.2.ext he⟩), (fun _ _ _ he h => POwn.mono he h), mono_val _, mono_val _, (fun _ _ _ he h => h.elim fun W h => ⟨W, h.1, h.2.ext he⟩), (fun _ _ _ he h => h.elim fun W h => ⟨W, h.1, h.2.1.ext he, h.2.2.ext he⟩), (fun _ _ _ he h => h.elim fun W h => ⟨W, he.blockAt h.1, h.2.1.ext he, h.2.2.ext he⟩), (fun _ _ _ he h => he.blockAt h), trivial⟩
def rgrR (n0 n m c d : Nat) (A D : Option Addr) (xs ys : List Int) (j : Nat) (u : Option Value) (w : World) : Prop := (rgrL n0 n m c d A D xs ys).getD j (fun _ _ => True) u w
theorem rgrR_ext (n0 n m c d : Nat) (A D : Option Addr) (xs ys : List Int) (j : Nat) (u : Option Value) (w w' : World) (he : Ext w w') (hR : rgrR n0 n m c d A D xs ys j u w) : rgrR n0 n m c d A D xs ys j u w' := ((rgrL_mono n0 n m c d A D xs ys).at_ j) u w w' he hR
def rgrD : List Nat := [3, 4, 5, 6, 7, 8, 9, 10, 11, 900, 901]
def rgrC (j : Nat) : Option Nat := if j = 0 then some 3 else if j = 3 then some 8 else if j = 4 then some 7 else if j = 7 then some 8 else if j = 8 then some 9 else if j = 10 then some 9 else none
def rgrE (n0 : Nat) (t : Array Value) : Prop := t.getD 1 undef = .pointer (some ⟨n0, 0, none⟩) ∧ t.getD 2 undef = .pointer (some ⟨n0 + 1, 0, none⟩) ∧ t.size = 12

set_option maxRecDepth 100000 in
set_option maxHeartbeats 25600000 in
theorem rGrid_any (p q : IL) {n m : Nat} (hn : p.xs.length = n) (hm : q.xs.length = m) (w : World) (hp : p.In w) (hq : q.In w) (hz1 : n * 8 ≤ 140737488355328) (hz2 : m * 8 ≤ 140737488355328) :
    Calls Tryz.prog 53 #[.agg #[.slice p.A n p.c, .slice q.A m q.c]] w fun e w' => RetGr w p q n m e w' ∧ Ext w w' := by
  have HN := Lib.hid hn
  have HM := Lib.hid hm
  obtain ⟨i0, hi, hz, hs, hbt⟩ := info_parts infoI
  obtain ⟨B, hB⟩ : ∃ B, w.alloc (.cells #[.slice p.A n p.c, .slice q.A m q.c] 24) = B := ⟨_, rfl⟩
  have HBX : Hid (Ext w B) := Lib.hid (by rw [← hB]; exact (Ext.refl _).alloc _)
  have HBS : Hid (B.heap.size = w.heap.size + 1) := Lib.hid (by rw [← hB]; simp)
  have HBA : Hid (B.heap[w.heap.size]? = some (.cells #[.slice p.A n p.c, .slice q.A m q.c] 24 (0, 0))) := Lib.hid (by rw [← hB]; exact heap_alloc_new _ _)
  have HBH := Lib.hid hB
  have CP : Hid (B.cell? ⟨w.heap.size, 0, none⟩ = some (.slice p.A n p.c)) := Lib.hid (cell_of_row _ _ 0 _ _ _ HBA.out)
  have CQ : Hid (B.cell? ⟨w.heap.size, 1, none⟩ = some (.slice q.A m q.c)) := Lib.hid (cell_of_row _ _ 1 _ _ _ HBA.out)
  have HSP : Hid (SlX eI B p.A p.xs) := Lib.hid (SlX.ofI (hp.1.ext HBX.out) hp.2.2.2)
  have HSQ : Hid (SlX eI B q.A q.xs) := Lib.hid (SlX.ofI (hq.1.ext HBX.out) hq.2.2.2)
  have IG2 : Hid ((Tryz.prog.info? 24).map (·.size) = some 2) := Lib.hid (infoGr (CS := #[.slice none 0 0, .slice none 0 0]) rfl)
  have HZ0 : Hid ((B.alloc (.cells #[.slice none 0 0, .slice none 0 0] 24)).heap[w.heap.size + 1]? = some (.cells #[.slice none 0 0, .slice none 0 0] 24 (0, 0))) := Lib.hid (heap_new_at _ _ _ HBS.out.symm)
  clear hn hm hp hq hB
  go_enter Tryz.func53, Tryz.ntmps53
  go_wp2_with fail
  refine region_tb (by kernel_rfl) (by decide +kernel) (rgrE w.heap.size) ⟨rfl, rfl, rfl⟩ 11 rgrD rgrC (rgrR w.heap.size n m p.c q.c p.A q.A p.xs q.xs) B (by rw [HBH.out]; exact (Ext.refl _).alloc _) (fun i h1 h2 => by
      have h3 : 10 ≤ i := h1
      have h4 : i < 11 := h2
      obtain rfl : i = 10 := by omega
      show (World.heap _)[w.heap.size + 1]? = _
      rw [HBH.out]
      exact ((Ext.refl _).drew).blockAt HZ0.out) ?_ ?_
  · intro Tv dd lv U wz i o hE ho hlv hd hT
    obtain ⟨t1, t2, tz⟩ := hE
    have hx := hT.ext
    match i, ho, hlv, hd with
    | 0, ho, hlv, hd =>
      obtain rfl := Option.some.inj ho
      refine tbw_yield (v := .slice (some ⟨wz.heap.size, 0, none⟩) 0 0) (rgrR_ext w.heap.size n m p.c q.c p.A q.A p.xs q.xs) hT ho hd (wanted_plain rfl) rfl (by decide) (by decide) ?_ ((Ext.refl _).alloc _) (POwn.made (Nat.le_trans (by rw [HBS.out]; omega) hx.size))
      generalize Act.eval ⟨over Tv U, dd⟩ = ev at *
      simp [execOp, go_sem]
    | 1, ho, hlv, hd =>
      obtain rfl := Option.some.inj ho
      have v0 := eval_old (d := dd) (hT.out 1 (by decide)) (by omega) t1
      refine tbw_yield (v := .pointer (some ⟨w.heap.size, 0, none⟩)) (rgrR_ext w.heap.size n m p.c q.c p.A q.A p.xs q.xs) hT ho hd (wanted_plain rfl) rfl (by decide) (by decide) ?_ (Ext.refl _) rfl
      generalize Act.eval ⟨over Tv U, dd⟩ = ev at *
      simp [execOp, go_sem, v0]
    | 2, ho, hlv, hd =>
      obtain rfl := Option.some.inj ho
      have f0 : U 4 = some (.pointer (some ⟨w.heap.size, 0, none⟩)) := hT.facts 1 (by decide) (dep hd 1 (by kernel_rfl)) (fun c e => by cases e)
      have v0 : Act.eval ⟨over Tv U, dd⟩ (.tmp 4) = _ := eval_new (t := Tv) (d := dd) f0 (by show 4 < Tv.size; omega)
      have hc := hx.keep CP.out
      refine tbw_yield (v := .slice p.A n p.c) (rgrR_ext w.heap.size n m p.c q.c p.A q.A p.xs q.xs) hT ho hd (wanted_plain rfl) rfl (by decide) (by decide) ?_ (Ext.refl _) rfl
      generalize Act.eval ⟨over Tv U, dd⟩ = ev at *
      simp [execOp, go_sem, v0, hc]
    | 3, ho, hlv, hd =>
      obtain rfl := Option.some.inj ho
      have f1 : U 5 = some (.slice p.A n p.c) := hT.facts 2 (by decide) (dep hd 2 (by kernel_rfl)) (fun c e => by cases e)
      have v1 : Act.eval ⟨over Tv U, dd⟩ (.tmp 5) = _ := eval_new (t := Tv) (d := dd) f1 (by show 5 < Tv.size; omega)
      have hO : POwn 3 1 w.heap.size (U 3) wz := hT.facts 0 (by decide) (dep hd 0 (by kernel_rfl)) (fun c e => by injection e with e; subst e; exact hlv)
      obtain ⟨y, w', A', c', hU, hrun, hb, hg⟩ := POwn.app0 (P := Tryz.prog) (E := eI) (t := 22) (ty := 22) rfl Tryz.underlying22 hi hz hs hbt rfl (fun _ _ => trivial) hO HN.out (HSP.out.ext hx) (fun x hx _ => HSP.out.ins x hx) (Nat.le_trans (by rw [HBS.out]; omega) hx.size) (by unfold maxLen; omega) hz1
      have v0 : Act.eval ⟨over Tv U, dd⟩ (.tmp 3) = _ := eval_new (t := Tv) (d := dd) hU (by show 3 < Tv.size; omega)
      refine tbw_yield (v := .slice A' _ c') (rgrR_ext w.heap.size n m p.c q.c p.A q.A p.xs q.xs) hT ho hd (wanted_plain rfl) rfl (by decide) (by decide) (exec_append rfl v0 v1 hrun) hb ⟨(A', c'), rfl, hg⟩
    | 4, ho, hlv, hd =>
      obtain rfl := Option.some.inj ho
      refine tbw_yield (v := .slice (some ⟨wz.heap.size, 0, none⟩) 0 0) (rgrR_ext w.heap.size n m p.c q.c p.A q.A p.xs q.xs) hT ho hd (wanted_plain rfl) rfl (by decide) (by decide) ?_ ((Ext.refl _).alloc _) (POwn.made (Nat.le_trans (by rw [HBS.out]; omega) hx.size))
      generalize Act.eval ⟨over Tv U, dd⟩ = ev at *
      simp [execOp, go_sem]
    | 5, ho, hlv, hd =>
      obtain rfl := Option.some.inj ho
      have v0 := eval_old (d := dd) (hT.out 1 (by decide)) (by omega) t1
      refine tbw_yield (v := .pointer (some ⟨w.heap.size, 1, none⟩)) (rgrR_ext w.heap.size n m p.c q.c p.A q.A p.xs q.xs) hT ho hd (wanted_plain rfl) rfl (by decide) (by decide) ?_ (Ext.refl _) rfl
      generalize Act.eval ⟨over Tv U, dd⟩ = ev at *
      simp [execOp, go_sem, v0]
    | 6, ho, hlv, hd =>
      obtain rfl := Option.some.inj ho
      have f0 : U 8 = some (.pointer (some ⟨w.heap.size, 1, none⟩)) := hT.facts 5 (by decide) (dep hd 5 (by kernel_rfl)) (fun c e => by cases e)
      have v0 : Act.eval ⟨over Tv U, dd⟩ (.tmp 8) = _ := eval_new (t := Tv) (d := dd) f0 (by show 8 < Tv.size; omega)
      have hc := hx.keep CQ.out
      refine tbw_yield (v := .slice q.A m q.c) (rgrR_ext w.heap.size n m p.c q.c p.A q.A p.xs q.xs) hT ho hd (wanted_plain rfl) rfl (by decide) (by decide) ?_ (Ext.refl _) rfl
      generalize Act.eval ⟨over Tv U, dd⟩ = ev at *
      simp [execOp, go_sem, v0, hc]
    | 7, ho, hlv, hd =>
      obtain rfl := Option.some.inj ho
      have f1 : U 9 = some (.slice q.A m q.c) := hT.facts 6 (by decide) (dep hd 6 (by kernel_rfl)) (fun c e => by cases e)
      have v1 : Act.eval ⟨over Tv U, dd⟩ (.tmp 9) = _ := eval_new (t := Tv) (d := dd) f1 (by show 9 < Tv.size; omega)
      have hO : POwn 3 1 w.heap.size (U 7) wz := hT.facts 4 (by decide) (dep hd 4 (by kernel_rfl)) (fun c e => by injection e with e; subst e; exact hlv)
      obtain ⟨y, w', A', c', hU, hrun, hb, hg⟩ := POwn.app0 (P := Tryz.prog) (E := eI) (t := 22) (ty := 22) rfl Tryz.underlying22 hi hz hs hbt rfl (fun _ _ => trivial) hO HM.out (HSQ.out.ext hx) (fun x hx _ => HSQ.out.ins x hx) (Nat.le_trans (by rw [HBS.out]; omega) hx.size) (by unfold maxLen; omega) hz2
      have v0 : Act.eval ⟨over Tv U, dd⟩ (.tmp 7) = _ := eval_new (t := Tv) (d := dd) hU (by show 7 < Tv.size; omega)
      refine tbw_yield (v := .slice A' _ c') (rgrR_ext w.heap.size n m p.c q.c p.A q.A p.xs q.xs) hT ho hd (wanted_plain rfl) rfl (by decide) (by decide) (exec_append rfl v0 v1 hrun) hb ⟨(A', c'), rfl, hg⟩
    | 8, ho, hlv, hd =>
      obtain rfl := Option.some.inj ho
      obtain ⟨W, e0, h1⟩ : ∃ W : Option Addr × Nat, U 6 = some (.slice W.1 n W.2) ∧ Got eI wz w.heap.size W.1 p.xs W.2 := hT.facts 3 (by decide) (dep hd 3 (by kernel_rfl)) (fun c e => by injection e with e; subst e; exact hlv)
      have v0 : Act.eval ⟨over Tv U, dd⟩ (.tmp 6) = _ := eval_new (t := Tv) (d := dd) e0 (by show 6 < Tv.size; omega)
      obtain ⟨V, e1, h2⟩ : ∃ W : Option Addr × Nat, U 10 = some (.slice W.1 m W.2) ∧ Got eI wz w.heap.size W.1 q.xs W.2 := hT.facts 7 (by decide) (dep hd 7 (by kernel_rfl)) (fun c e => by injection e with e; subst e; exact hlv)
      have v1 : Act.eval ⟨over Tv U, dd⟩ (.tmp 10) = _ := eval_new (t := Tv) (d := dd) e1 (by show 10 < Tv.size; omega)
      refine tbw_yield (v := .agg #[.slice W.1 n W.2, .slice V.1 m V.2]) (rgrR_ext w.heap.size n m p.c q.c p.A q.A p.xs q.xs) hT ho hd (wanted_plain rfl) rfl (by decide) (by decide) (exec_buildL 24 _ rfl [(0, .slice W.1 n W.2), (1, .slice V.1 m V.2)] (by simp [v0, v1]) _ (by kernel_rfl)) (Ext.refl _) ⟨(W, V), rfl, h1, h2⟩
    | 9, ho, hlv, hd =>
      obtain rfl := Option.some.inj ho
      obtain ⟨W, e1, h1, h2⟩ : ∃ W : (Option Addr × Nat) × Option Addr × Nat, U 11 = some (.agg #[.slice W.1.1 n W.1.2, .slice W.2.1 m W.2.2]) ∧ Got eI wz w.heap.size W.1.1 p.xs W.1.2 ∧ Got eI wz w.heap.size W.2.1 q.xs W.2.2 := hT.facts 8 (by decide) (dep hd 8 (by kernel_rfl)) (fun c e => by injection e with e; subst e; exact hlv)
      have v1 : Act.eval ⟨over Tv U, dd⟩ (.tmp 11) = _ := eval_new (t := Tv) (d := dd) e1 (by show 11 < Tv.size; omega)
      have v0 := eval_old (d := dd) (hT.out 2 (by decide)) (by omega) t2
      have hblk : wz.heap[w.heap.size + 1]? = some (.cells #[.slice none 0 0, .slice none 0 0] 24 (0, 0)) := hT.facts 10 (by decide) (hT.past 10 (by decide)) (fun c e => by injection e with e; subst e; exact hlv)
      have hb9 := But.setRow (w.heap.size + 1) wz #[.slice W.1.1 n W.1.2, .slice W.2.1 m W.2.2]
      refine tb_store (w' := wz.setRow (w.heap.size + 1) #[.slice W.1.1 n W.1.2, .slice W.2.1 m W.2.2]) hT ho hd rfl rfl (exec_store_row 24 (.tmp 2) (.tmp 11) rfl (w.heap.size + 1) _ v0 v1 24 _ hblk IG2.out rfl (by simp [Value.oneCell'])) (hx.rowSet (by rw [HBS.out]; omega) _) ⟨W, setRow_heap _ _ _ _ _ _ hblk, h1.keepT hblk (by decide) (fun _ _ => trivial) hb9, h2.keepT hblk (by decide) (fun _ _ => trivial) hb9⟩ ?_
      intro j hj hji hlj hcj hR
      match j, hj, hR with
      | 0, _, _ => exact absurd (dep (hT.shut 8 _ rfl (dep hd 8 (by kernel_rfl))) 3 (by kernel_rfl)) (by rw [(hcj 3 rfl).2]; decide)
      | 1, _, hR => exact hR
      | 2, _, hR => exact hR
      | 3, _, _ => exact absurd (dep hd 8 (by kernel_rfl)) (by rw [(hcj 8 rfl).2]; decide)
      | 4, _, _ => exact absurd (dep (hT.shut 8 _ rfl (dep hd 8 (by kernel_rfl))) 7 (by kernel_rfl)) (by rw [(hcj 7 rfl).2]; decide)
      | 5, _, hR => exact hR
      | 6, _, hR => exact hR
      | 7, _, _ => exact absurd (dep hd 8 (by kernel_rfl)) (by rw [(hcj 8 rfl).2]; decide)
      | 8, _, _ => exact absurd rfl (hcj 9 rfl).1
      | 9, _, _ => exact absurd rfl hji
      | 10, _, _ => exact absurd rfl (hcj 9 rfl).1
      | j + 11, hj, _ => exact absurd hj (by omega)
    | i + 10, ho, _, _ => exact absurd ho (by simp)
  intro U wz hex hout hfin
  obtain ⟨W, hblk, h1, h2⟩ := hfin 9 (by decide) rfl
  have XE := Lib.hid hex
  clear hex hfin
  rw [over_list]
  simp (disch := decide) only [overL, Nat.reduceAdd, hout, Option.getD_none]
  clear hout
  go_wp2
  refine bodyPost_ret (v := .agg #[.slice W.1.1 n W.1.2, .slice W.2.1 m W.2.2]) (results_oneR Tryz.results53 _ _ (w.heap.size + 1) _ _ _ _ rfl hblk Tryz.underlying24 rfl (infoGr rfl)) rfl ?_
  exact ⟨⟨W.1.1, W.2.1, W.1.2, W.2.2, rfl, h1, h2⟩, HBX.out.trans XE.out⟩
end Bk
end Go.Proofs.YtfnmgcblhebdbaaGreatDoor
