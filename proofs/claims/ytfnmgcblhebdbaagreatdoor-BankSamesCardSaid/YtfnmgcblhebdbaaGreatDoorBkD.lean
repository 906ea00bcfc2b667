/- Copies of items and of review records, in the package and in the reference: contracts. Conditions: those of each theorem. -/
import Derived.Test.YtfnmgcblhebdbaaGreatDoorBkC
namespace Go.Proofs.YtfnmgcblhebdbaaGreatDoor
open Go.RowKit
namespace Bk
theorem results_oneR {P : Program} {fn : Func} {p : Tmp} {ty : TypeId} (h : fn.results = #[.cell p ty]) (tmps : Array Value) (w : World) (g : Nat) (t : TypeId) (cs : Array Value) (fr : Nat × Nat) (d : TypeDesc)
    (hp : tmps.getD p undef = .pointer (some ⟨g, 0, none⟩)) (hg : w.heap[g]? = some (.cells cs t fr))
    (hu : P.underlying ty = some d) (hd : (match d with | .struct _ | .array _ _ => true | _ => false) = true) (hi : (P.info? ty).map (·.size) = some cs.size) :
    (results fn tmps).run P w = .ok (.agg cs) w := results_cell_row h tmps w g t cs fr d hp hg hu hd hi
/-- A slice of the call's own, its parts too. -/
structure Got {X : Type} (E : Elt X) (W : World) (N : Nat) (A : Option Addr) (xs : List X) (c : Nat) : Prop where
  sl : SlX E W A xs
  frm : FromX E N A xs
  le : xs.length ≤ c
  mx : c ≤ maxLen
  ty : TyA E.T W A xs.length
theorem Got.ext {X : Type} {E : Elt X} {W W' : World} {N : Nat} {A : Option Addr} {xs : List X} {c : Nat} (h : Got E W N A xs c) (he : Ext W W') : Got E W' N A xs c := ⟨h.sl.ext he, h.frm, h.le, h.mx, h.ty.ext he⟩
theorem Got.but {X : Type} {E : Elt X} {W W' : World} {N g : Nat} {A : Option Addr} {xs : List X} {c : Nat} (h : Got E W N A xs c) (hb : But g W W') (hg : g < N) : Got E W' N A xs c := ⟨h.sl.but (h.frm.off hg) hb, h.frm, h.le, h.mx, h.ty.but hb (h.frm.off hg).a⟩
theorem Got.butO {X : Type} {E : Elt X} {W W' : World} {N g : Nat} {A : Option Addr} {xs : List X} {c : Nat} (h : Got E W N A xs c) (hb : But g W W') (ho : OffX E g A xs) : Got E W' N A xs c := ⟨h.sl.but ho hb, h.frm, h.le, h.mx, h.ty.but hb ho.a⟩
theorem Got.put {X : Type} {E : Elt X} {W : World} {N g : Nat} {A : Option Addr} {xs : List X} {c : Nat} (h : Got E W N A xs c) (hg : g < N) (o : Nat) (v : Value) : Got E (W.setCell ⟨g, o, none⟩ v) N A xs c := h.but (But.setCell W ⟨g, o, none⟩ v) hg
theorem Got.low {X : Type} {E : Elt X} {W : World} {N M : Nat} {A : Option Addr} {xs : List X} {c : Nat} (h : Got E W N A xs c) (hm : M ≤ N) : Got E W M A xs c := ⟨h.sl, h.frm.mono hm, h.le, h.mx, h.ty⟩
theorem Got.il {W : World} {N : Nat} {A : Option Addr} {xs : List Int} {c : Nat} (h : Got eI W N A xs c) : (⟨A, c, xs⟩ : IL).In W := ⟨h.sl.sl, h.le, h.mx, h.sl.ins⟩
theorem RetCl.got {X : Type} {E : Elt X} {A0 : Option Addr} {w w' : World} {n : Nat} {xs : List X} {e : Ending} (h : RetCl E A0 w n xs e w') (hn : xs.length = n) (hE : ∀ N x, E.From N x) : ∃ A c, e = .returned (.slice A n c) ∧ Got E w' w.heap.size A xs c ∧ Ext w w' := by
  subst hn
  obtain ⟨A, c, h1, -, h2, h3, h4, h5, h7, h6⟩ := h
  exact ⟨A, c, h1, ⟨h5, ⟨h4, fun x _ => hE _ x⟩, h2, h3, h7⟩, h6⟩
theorem RetCl.got' {X : Type} {E : Elt X} {A0 : Option Addr} {w w' : World} {n : Nat} {xs : List X} {e : Ending} (h : RetCl E A0 w n xs e w') (hn : xs.length = n) (hE : ∀ N x, E.From N x) : ∃ A c, e = .returned (.slice A n c) ∧ Got E w' w.heap.size A xs c ∧ Ext w w' ∧ (A0 = none → A = none ∧ c = 0) := by
  subst hn
  obtain ⟨A, c, h1, h0, h2, h3, h4, h5, h7, h6⟩ := h
  exact ⟨A, c, h1, ⟨h5, ⟨h4, fun x _ => hE _ x⟩, h2, h3, h7⟩, h6, h0⟩
theorem blk_lt {w : World} {g : Nat} {o : Obj} (h : w.heap[g]? = some o) : g < w.heap.size := (Array.getElem?_eq_some_iff.1 h).1
theorem two_fst' (w : World) (o1 o2 : Obj) : ((w.alloc o1).alloc o2).heap[w.heap.size]? = some o1 := ((Ext.refl (w.alloc o1)).alloc o2).blockAt (heap_alloc_new w o1)
theorem SlX.ofI {w : World} {A : Option Addr} {xs : List Int} (h : SlI w A xs) (hi : ∀ x ∈ xs, In64 x) : SlX eI w A xs := ⟨h, hi⟩
theorem SlX.ofS {w : World} {A : Option Addr} {xs : List ByteArray} (h : SlS w A xs) : SlX eS w A xs := ⟨h, fun _ _ => trivial⟩
theorem wpList_store_newN {P : Program} {ops : Array Oper} {rest : List Oper} {op : Oper} {a : Act} {w : World} {Q : Exit → Act → World → Prop} (hgd : op.guard = none) (ty : TypeId) (x y : Operand) (ho : op.op = .store ty x y)
    (N : Nat) (hN : w.heap.size = N) (c CS : Array Value) (t : TypeId) (hx : a.eval x = .pointer (some ⟨N, 0, none⟩)) (hy : a.eval y = .agg CS)
    (hi : (P.info? ty).map (·.size) = some CS.size) (hz : c.size = CS.size) (h1 : CS.all (·.oneCell') = true)
    (h : wpList P ops Q rest (a.put op.dst undef) (w.alloc (.cells CS t))) : wpList P ops Q (op :: rest) a (w.alloc (.cells c t)) := by
  subst hN
  exact wpList_store_new hgd ty x y ho c CS t hx hy hi hz h1 h
/-- append([]T{}, x...): a copy of the call's own. -/
theorem wpList_appE {P : Program} {X : Type} {E : Elt X} {w : World} {ops : Array Oper} {rest : List Oper} {o : Oper} {a : Act} {Q : Exit → Act → World → Prop} (hgd : o.guard = none) (s x : Operand) (t : TypeId)
    (ho : o.op = .call { callee := .builtin .append, args := #[s, x], argTypes := #[t, t] })
    (e : TypeId) (i : TypeInfo) (z : Value) (bytes : Nat) (he : e = E.T) (ht : P.underlying t = some (.slice e)) (hi : P.info? e = some i) (hz : i.zero = some z)
    (hsize : i.size = E.k) (hby : i.bytes = bytes) (hzs : z.cells.size = E.k) (hE : ∀ N x, E.From N x)
    (N : Nat) (hN : w.heap.size = N) (hs : a.eval s = .slice (some ⟨N, 0, none⟩) 0 0) (A : Option Addr) (c n : Nat) (xs : List X) (hm : xs.length = n) (hx : a.eval x = .slice A n c) (hr : SlX E (w.alloc (.cells #[] e)) A xs)
    (hE2 : ∀ x ∈ xs, ∀ w, E.In w x) (h63 : n ≤ maxLen) (hbytes : n * bytes ≤ 140737488355328)
    (h : ∀ A' c' w', Got E w' w.heap.size A' xs c' → Ext w w' → wpList P ops Q rest (a.put o.dst (.slice A' n c')) w') : wpList P ops Q (o :: rest) a (w.alloc (.cells #[] e)) := by
  subst hN
  refine wpList_appS hgd s x t ho w e i z E.k bytes ht hi hz hsize hby hzs E.pos _ 0 [] hs (World.ownsRow_made w #[] 0 (Nat.le_refl _) (Nat.zero_le _) (by simp)) ((Ext.refl _).alloc _) A c n (xs.map E.enc) ((List.length_map _).trans hm) hx hr.sl (map_len xs)
    (fun c hc => by obtain ⟨x, -, rfl⟩ := List.mem_map.1 hc; exact E.one x) (by rw [Nat.zero_add]; exact h63) (by rw [Nat.zero_add]; exact hbytes) ?_
  intro A' c' w' hown hb
  rw [Nat.zero_add, List.nil_append] at hown
  rw [Nat.zero_add]
  have hl : xs.length = n := hm
  obtain ⟨A2, c2, h1, h2, h3, h4⟩ := Sl.of_own (xs := xs.map E.enc) (map_len xs) ((List.length_map _).trans hm) hown
  rw [List.length_map, hm] at h1 h2
  cases h1
  refine h A' c' w' ⟨⟨h4, fun x hx => ?_⟩, ⟨Or.inr fun a ha => own_ge hown a.block (by rw [ha]; rfl), fun x _ => hE _ x⟩, by rw [hm]; exact h2, h3, by rw [hm, ← he]; exact TyA.of_own hown⟩ hb
  exact hE2 x hx w'
theorem set4_it (it : It.Item) (L : It.Loc) (A1 A2 A3 A4 : Option Addr) (c1 c2 c3 c4 : Nat) :
    ((((It.cells it L).toArray.setIfInBounds 4 (.slice A1 it.opts.length c1)).setIfInBounds 5 (.slice A2 it.chs.length c2)).setIfInBounds 8 (.slice A3 it.texts.length c3)).setIfInBounds 15 (.slice A4 it.assets.length c4) = (It.cells it ⟨A1, c1, A2, c2, A3, c3, A4, c4⟩).toArray := rfl
theorem infoItem {CS : Array Value} (h : CS.size = 17) : (Tryz.prog.info? 39).map (·.size) = some CS.size := by rw [h]; kernel_rfl
theorem infoRev {CS : Array Value} (h : CS.size = 5) : (Tryz.prog.info? 54).map (·.size) = some CS.size := by rw [h]; kernel_rfl
/-- A review record's parts, of the call's own. -/
structure RvL.Ok (N : Nat) (w : World) (r : RvL) : Prop where
  st : In64 r.st
  au : In64 r.au
  ap : Got eI w N r.ap.A r.ap.xs r.ap.c
  fa : Got eI w N r.fa.A r.fa.xs r.fa.c
  log : Got eAct w N r.lA r.log r.lc
theorem RvL.Ok.ext {N : Nat} {w w' : World} {r : RvL} (h : r.Ok N w) (he : Ext w w') : r.Ok N w' := ⟨h.st, h.au, h.ap.ext he, h.fa.ext he, h.log.ext he⟩
/-- A copy of an item. -/
def RetIt (w : World) (it : It.Item) (e : Ending) (w' : World) : Prop := ∃ L, e = .returned (It.agg it L) ∧ It.In w' it L ∧ ItFrom w.heap.size (it, L)
set_option maxRecDepth 100000 in
set_option maxHeartbeats 12800000 in
theorem bcopyItem_any (it : It.Item) (L : It.Loc) (w : World) (h : It.In w it L) (hz : ItSz it) :
    Calls Tryz.prog 43 #[It.agg it L] w fun e w' => RetIt w it e w' ∧ Ext w w' := by
  obtain ⟨CA, hca, hna, h1a, hka⟩ := itp (it, L)
  rw [hca]
  obtain ⟨sm1, sm2, sm3, sm4⟩ := hz
  have J4 : Hid (CA[4]? = some (.slice L.oA it.opts.length L.oc)) := Lib.hid (by rw [← hka]; rfl)
  have J5 : Hid (CA[5]? = some (.slice L.cA it.chs.length L.cc)) := Lib.hid (by rw [← hka]; rfl)
  have J8 : Hid (CA[8]? = some (.slice L.tA it.texts.length L.tc)) := Lib.hid (by rw [← hka]; rfl)
  have J15 : Hid (CA[15]? = some (.slice L.sA it.assets.length L.sc)) := Lib.hid (by rw [← hka]; rfl)
  obtain ⟨n1, hn1⟩ : ∃ n, it.opts.length = n := ⟨_, rfl⟩
  rw [hn1] at J4 sm1
  have HL1 := Lib.hid hn1
  obtain ⟨n2, hn2⟩ : ∃ n, it.chs.length = n := ⟨_, rfl⟩
  rw [hn2] at J5 sm2
  have HL2 := Lib.hid hn2
  obtain ⟨n3, hn3⟩ : ∃ n, it.texts.length = n := ⟨_, rfl⟩
  rw [hn3] at J8 sm3
  have HL3 := Lib.hid hn3
  obtain ⟨n4, hn4⟩ : ∃ n, it.assets.length = n := ⟨_, rfl⟩
  rw [hn4] at J15 sm4
  have HL4 := Lib.hid hn4
  clear hn1 hn2 hn3 hn4
  have HA0 : Hid ((((w.alloc (.cells CA 39)).alloc (.cells #[.int .i64 0, .int .i64 0, .int .i64 0, .string ⟨#[]⟩, .slice none 0 0, .slice none 0 0, .int .i64 0, .int .i64 0, .slice none 0 0, .int .i64 0, .string ⟨#[]⟩, .int .i64 0, .int .i64 0, .int .i64 0, .int .i64 0, .slice none 0 0, .int .i64 0] 39)).alloc (.cells CA 39)).heap[w.heap.size]? = some (.cells CA 39 (0, 0))) := Lib.hid ((((Ext.refl _).alloc _).alloc _).blockAt (heap_alloc_new w _))
  have HZ0 : Hid ((((w.alloc (.cells CA 39)).alloc (.cells #[.int .i64 0, .int .i64 0, .int .i64 0, .string ⟨#[]⟩, .slice none 0 0, .slice none 0 0, .int .i64 0, .int .i64 0, .slice none 0 0, .int .i64 0, .string ⟨#[]⟩, .int .i64 0, .int .i64 0, .int .i64 0, .int .i64 0, .slice none 0 0, .int .i64 0] 39)).alloc (.cells CA 39)).heap[w.heap.size + 1]? = some (.cells #[.int .i64 0, .int .i64 0, .int .i64 0, .string ⟨#[]⟩, .slice none 0 0, .slice none 0 0, .int .i64 0, .int .i64 0, .slice none 0 0, .int .i64 0, .string ⟨#[]⟩, .int .i64 0, .int .i64 0, .int .i64 0, .int .i64 0, .slice none 0 0, .int .i64 0] 39 (0, 0))) := Lib.hid (((Ext.refl _).alloc _).blockAt (heap_new_at _ _ _ (by simp)))
  have HC0 : Hid ((((w.alloc (.cells CA 39)).alloc (.cells #[.int .i64 0, .int .i64 0, .int .i64 0, .string ⟨#[]⟩, .slice none 0 0, .slice none 0 0, .int .i64 0, .int .i64 0, .slice none 0 0, .int .i64 0, .string ⟨#[]⟩, .int .i64 0, .int .i64 0, .int .i64 0, .int .i64 0, .slice none 0 0, .int .i64 0] 39)).alloc (.cells CA 39)).heap[w.heap.size + 1 + 1]? = some (.cells CA 39 (0, 0))) := Lib.hid (heap_new_at _ _ _ (by simp))
  have HX0 : Hid (Ext w (((w.alloc (.cells CA 39)).alloc (.cells #[.int .i64 0, .int .i64 0, .int .i64 0, .string ⟨#[]⟩, .slice none 0 0, .slice none 0 0, .int .i64 0, .int .i64 0, .slice none 0 0, .int .i64 0, .string ⟨#[]⟩, .int .i64 0, .int .i64 0, .int .i64 0, .int .i64 0, .slice none 0 0, .int .i64 0] 39)).alloc (.cells CA 39))) := Lib.hid ((((Ext.refl _).alloc _).alloc _).alloc _)
  have K4_0 := J4
  have K5_0 := J5
  have K8_0 := J8
  have K15_0 := J15
  obtain ⟨iI, hiI, hzI, hsI, hbI⟩ := info_parts infoI
  obtain ⟨iS, hiS, hzS, hsS, hbS⟩ := info_parts infoS
  have H := Lib.hid h
  have HKA := Lib.hid hka
  have HNA := Lib.hid hna
  have H1A := Lib.hid h1a
  have IA := Lib.hid (infoItem hna)
  clear h hca hka hna h1a
  go_enter Tryz.func43, Tryz.ntmps43
  have cf : (((w.alloc (.cells CA 39)).alloc (.cells #[.int .i64 0, .int .i64 0, .int .i64 0, .string ⟨#[]⟩, .slice none 0 0, .slice none 0 0, .int .i64 0, .int .i64 0, .slice none 0 0, .int .i64 0, .string ⟨#[]⟩, .int .i64 0, .int .i64 0, .int .i64 0, .int .i64 0, .slice none 0 0, .int .i64 0] 39)).alloc (.cells CA 39)).cell? ⟨w.heap.size, 4, none⟩ = some (.slice L.oA n1 L.oc) := (cell_of_row _ _ 4 _ _ _ HA0.out).trans J4.out
  have SL1 := Lib.hid (SlX.ofS (H.out.ext HX0.out).o)
  go_wp2_with (first | (with_reducible refine wpList_load_row rfl 39 (.tmp 1) rfl (w.heap.size) (by with_unfolding_all rfl) _ CA _ _ (two_fst' w _ _) Tryz.underlying39 rfl IA.out ?_) | (with_reducible refine wpList_store_newN rfl 39 (.tmp 3) (.tmp 4) rfl (w.heap.size + 1 + 1) (by simp) _ CA 39 (by with_unfolding_all rfl) (by with_unfolding_all rfl) IA.out (by with_unfolding_all exact HNA.out.symm) H1A.out ?_))
  with_reducible refine (cloneS L.oA L.oc it.opts HL1.out _ SL1.out sm1).mono ?_
  rintro e w1 hr
  obtain ⟨A1, c1, rfl, hg, hb⟩ := hr.got HL1.out (fun _ _ => trivial)
  clear hr cf
  have HZ1w := Lib.hid (hb.blockAt HZ0.out)
  have HC1w := Lib.hid (hb.blockAt HC0.out)
  have HA1w := Lib.hid (hb.blockAt HA0.out)
  have G1 := Lib.hid (hg.low (show w.heap.size + 1 + 1 + 1 ≤ _ from blk_lt HC0.out))
  have kf : w1.cell? ⟨w.heap.size + 1 + 1, 4, none⟩ = some (.slice L.oA n1 L.oc) := (cell_of_row _ _ 4 _ _ _ HC1w.out).trans K4_0.out
  have ff : w1.frozen? ⟨w.heap.size + 1 + 1, 4, none⟩ = false := frozen_of_row _ _ _ _ _ HC1w.out
  have HX1w := Lib.hid (HX0.out.trans hb)
  obtain ⟨C1, hC1⟩ : ∃ C, CA.setIfInBounds 4 (.slice A1 n1 c1) = C := ⟨_, rfl⟩
  have HA1 : Hid ((w1.setCell ⟨w.heap.size + 1 + 1, 4, none⟩ (.slice A1 n1 c1)).heap[w.heap.size]? = some (.cells CA 39 (0, 0))) := Lib.hid ((heap_setCell_other _ _ _ _ (by simp; try omega)).trans HA1w.out)
  have HZ1 : Hid ((w1.setCell ⟨w.heap.size + 1 + 1, 4, none⟩ (.slice A1 n1 c1)).heap[w.heap.size + 1]? = some (.cells #[.int .i64 0, .int .i64 0, .int .i64 0, .string ⟨#[]⟩, .slice none 0 0, .slice none 0 0, .int .i64 0, .int .i64 0, .slice none 0 0, .int .i64 0, .string ⟨#[]⟩, .int .i64 0, .int .i64 0, .int .i64 0, .int .i64 0, .slice none 0 0, .int .i64 0] 39 (0, 0))) := Lib.hid ((heap_setCell_other _ _ _ _ (by simp; try omega)).trans HZ1w.out)
  have HC1 : Hid ((w1.setCell ⟨w.heap.size + 1 + 1, 4, none⟩ (.slice A1 n1 c1)).heap[w.heap.size + 1 + 1]? = some (.cells C1 39 (0, 0))) := Lib.hid (by rw [← hC1]; exact heap_setCell_same _ _ _ _ _ _ HC1w.out)
  have HX1 : Hid (Ext w (w1.setCell ⟨w.heap.size + 1 + 1, 4, none⟩ (.slice A1 n1 c1))) := Lib.hid (HX1w.out.setCell (show w.heap.size ≤ w.heap.size + 1 + 1 by omega) _)
  have G1 : Hid (Got eS (w1.setCell ⟨w.heap.size + 1 + 1, 4, none⟩ (.slice A1 n1 c1)) (w.heap.size + 1 + 1 + 1) A1 it.opts c1) := Lib.hid (G1.out.put (by omega) _ _)
  have K5_1 := Lib.hid ((by rw [← hC1, Array.getElem?_setIfInBounds_ne (by decide)] : C1[5]? = CA[5]?).trans K5_0.out)
  have K8_1 := Lib.hid ((by rw [← hC1, Array.getElem?_setIfInBounds_ne (by decide)] : C1[8]? = CA[8]?).trans K8_0.out)
  have K15_1 := Lib.hid ((by rw [← hC1, Array.getElem?_setIfInBounds_ne (by decide)] : C1[15]? = CA[15]?).trans K15_0.out)
  have HS1 := Lib.hid hC1
  clear hC1 hg hb
  have cf : (w1.setCell ⟨w.heap.size + 1 + 1, 4, none⟩ (.slice A1 n1 c1)).cell? ⟨w.heap.size, 5, none⟩ = some (.slice L.cA n2 L.cc) := (cell_of_row _ _ 5 _ _ _ HA1.out).trans J5.out
  have SL2 := Lib.hid (SlX.ofI (H.out.ext HX1.out).c H.out.ok.chs)
  go_wp2_with fail
  with_reducible refine (cloneI L.cA L.cc it.chs HL2.out _ SL2.out sm2).mono ?_
  rintro e w2 hr
  obtain ⟨A2, c2, rfl, hg, hb⟩ := hr.got HL2.out (fun _ _ => trivial)
  clear hr cf kf ff
  have HZ2w := Lib.hid (hb.blockAt HZ1.out)
  have HC2w := Lib.hid (hb.blockAt HC1.out)
  have HA2w := Lib.hid (hb.blockAt HA1.out)
  have G2 := Lib.hid (hg.low (show w.heap.size + 1 + 1 + 1 ≤ _ from blk_lt HC1.out))
  have G1 := Lib.hid (G1.out.ext hb)
  have kf : w2.cell? ⟨w.heap.size + 1 + 1, 5, none⟩ = some (.slice L.cA n2 L.cc) := (cell_of_row _ _ 5 _ _ _ HC2w.out).trans K5_1.out
  have ff : w2.frozen? ⟨w.heap.size + 1 + 1, 5, none⟩ = false := frozen_of_row _ _ _ _ _ HC2w.out
  have HX2w := Lib.hid (HX1.out.trans hb)
  obtain ⟨C2, hC2⟩ : ∃ C, C1.setIfInBounds 5 (.slice A2 n2 c2) = C := ⟨_, rfl⟩
  have HA2 : Hid ((w2.setCell ⟨w.heap.size + 1 + 1, 5, none⟩ (.slice A2 n2 c2)).heap[w.heap.size]? = some (.cells CA 39 (0, 0))) := Lib.hid ((heap_setCell_other _ _ _ _ (by simp; try omega)).trans HA2w.out)
  have HZ2 : Hid ((w2.setCell ⟨w.heap.size + 1 + 1, 5, none⟩ (.slice A2 n2 c2)).heap[w.heap.size + 1]? = some (.cells #[.int .i64 0, .int .i64 0, .int .i64 0, .string ⟨#[]⟩, .slice none 0 0, .slice none 0 0, .int .i64 0, .int .i64 0, .slice none 0 0, .int .i64 0, .string ⟨#[]⟩, .int .i64 0, .int .i64 0, .int .i64 0, .int .i64 0, .slice none 0 0, .int .i64 0] 39 (0, 0))) := Lib.hid ((heap_setCell_other _ _ _ _ (by simp; try omega)).trans HZ2w.out)
  have HC2 : Hid ((w2.setCell ⟨w.heap.size + 1 + 1, 5, none⟩ (.slice A2 n2 c2)).heap[w.heap.size + 1 + 1]? = some (.cells C2 39 (0, 0))) := Lib.hid (by rw [← hC2]; exact heap_setCell_same _ _ _ _ _ _ HC2w.out)
  have HX2 : Hid (Ext w (w2.setCell ⟨w.heap.size + 1 + 1, 5, none⟩ (.slice A2 n2 c2))) := Lib.hid (HX2w.out.setCell (show w.heap.size ≤ w.heap.size + 1 + 1 by omega) _)
  have G1 : Hid (Got eS (w2.setCell ⟨w.heap.size + 1 + 1, 5, none⟩ (.slice A2 n2 c2)) (w.heap.size + 1 + 1 + 1) A1 it.opts c1) := Lib.hid (G1.out.put (by omega) _ _)
  have G2 : Hid (Got eI (w2.setCell ⟨w.heap.size + 1 + 1, 5, none⟩ (.slice A2 n2 c2)) (w.heap.size + 1 + 1 + 1) A2 it.chs c2) := Lib.hid (G2.out.put (by omega) _ _)
  have K8_2 := Lib.hid ((by rw [← hC2, Array.getElem?_setIfInBounds_ne (by decide)] : C2[8]? = C1[8]?).trans K8_1.out)
  have K15_2 := Lib.hid ((by rw [← hC2, Array.getElem?_setIfInBounds_ne (by decide)] : C2[15]? = C1[15]?).trans K15_1.out)
  have HS2 := Lib.hid hC2
  clear hC2 hg hb
  have cf : (w2.setCell ⟨w.heap.size + 1 + 1, 5, none⟩ (.slice A2 n2 c2)).cell? ⟨w.heap.size, 8, none⟩ = some (.slice L.tA n3 L.tc) := (cell_of_row _ _ 8 _ _ _ HA2.out).trans J8.out
  have SL3 := Lib.hid (SlX.ofS (H.out.ext HX2.out).t)
  go_wp2_with fail
  with_reducible refine (cloneS L.tA L.tc it.texts HL3.out _ SL3.out sm3).mono ?_
  rintro e w3 hr
  obtain ⟨A3, c3, rfl, hg, hb⟩ := hr.got HL3.out (fun _ _ => trivial)
  clear hr cf kf ff
  have HZ3w := Lib.hid (hb.blockAt HZ2.out)
  have HC3w := Lib.hid (hb.blockAt HC2.out)
  have HA3w := Lib.hid (hb.blockAt HA2.out)
  have G3 := Lib.hid (hg.low (show w.heap.size + 1 + 1 + 1 ≤ _ from blk_lt HC2.out))
  have G1 := Lib.hid (G1.out.ext hb)
  have G2 := Lib.hid (G2.out.ext hb)
  have kf : w3.cell? ⟨w.heap.size + 1 + 1, 8, none⟩ = some (.slice L.tA n3 L.tc) := (cell_of_row _ _ 8 _ _ _ HC3w.out).trans K8_2.out
  have ff : w3.frozen? ⟨w.heap.size + 1 + 1, 8, none⟩ = false := frozen_of_row _ _ _ _ _ HC3w.out
  have HX3w := Lib.hid (HX2.out.trans hb)
  obtain ⟨C3, hC3⟩ : ∃ C, C2.setIfInBounds 8 (.slice A3 n3 c3) = C := ⟨_, rfl⟩
  have HA3 : Hid ((w3.setCell ⟨w.heap.size + 1 + 1, 8, none⟩ (.slice A3 n3 c3)).heap[w.heap.size]? = some (.cells CA 39 (0, 0))) := Lib.hid ((heap_setCell_other _ _ _ _ (by simp; try omega)).trans HA3w.out)
  have HZ3 : Hid ((w3.setCell ⟨w.heap.size + 1 + 1, 8, none⟩ (.slice A3 n3 c3)).heap[w.heap.size + 1]? = some (.cells #[.int .i64 0, .int .i64 0, .int .i64 0, .string ⟨#[]⟩, .slice none 0 0, .slice none 0 0, .int .i64 0, .int .i64 0, .slice none 0 0, .int .i64 0, .string ⟨#[]⟩, .int .i64 0, .int .i64 0, .int .i64 0, .int .i64 0, .slice none 0 0, .int .i64 0] 39 (0, 0))) := Lib.hid ((heap_setCell_other _ _ _ _ (by simp; try omega)).trans HZ3w.out)
  have HC3 : Hid ((w3.setCell ⟨w.heap.size + 1 + 1, 8, none⟩ (.slice A3 n3 c3)).heap[w.heap.size + 1 + 1]? = some (.cells C3 39 (0, 0))) := Lib.hid (by rw [← hC3]; exact heap_setCell_same _ _ _ _ _ _ HC3w.out)
  have HX3 : Hid (Ext w (w3.setCell ⟨w.heap.size + 1 + 1, 8, none⟩ (.slice A3 n3 c3))) := Lib.hid (HX3w.out.setCell (show w.heap.size ≤ w.heap.size + 1 + 1 by omega) _)
  have G1 : Hid (Got eS (w3.setCell ⟨w.heap.size + 1 + 1, 8, none⟩ (.slice A3 n3 c3)) (w.heap.size + 1 + 1 + 1) A1 it.opts c1) := Lib.hid (G1.out.put (by omega) _ _)
  have G2 : Hid (Got eI (w3.setCell ⟨w.heap.size + 1 + 1, 8, none⟩ (.slice A3 n3 c3)) (w.heap.size + 1 + 1 + 1) A2 it.chs c2) := Lib.hid (G2.out.put (by omega) _ _)
  have G3 : Hid (Got eS (w3.setCell ⟨w.heap.size + 1 + 1, 8, none⟩ (.slice A3 n3 c3)) (w.heap.size + 1 + 1 + 1) A3 it.texts c3) := Lib.hid (G3.out.put (by omega) _ _)
  have K15_3 := Lib.hid ((by rw [← hC3, Array.getElem?_setIfInBounds_ne (by decide)] : C3[15]? = C2[15]?).trans K15_2.out)
  have HS3 := Lib.hid hC3
  clear hC3 hg hb
  have cf : (w3.setCell ⟨w.heap.size + 1 + 1, 8, none⟩ (.slice A3 n3 c3)).cell? ⟨w.heap.size, 15, none⟩ = some (.slice L.sA n4 L.sc) := (cell_of_row _ _ 15 _ _ _ HA3.out).trans J15.out
  have SL4 := Lib.hid (SlX.ofI (H.out.ext HX3.out).s H.out.ok.assets)
  go_wp2_with fail
  with_reducible refine (cloneI L.sA L.sc it.assets HL4.out _ SL4.out sm4).mono ?_
  rintro e w4 hr
  obtain ⟨A4, c4, rfl, hg, hb⟩ := hr.got HL4.out (fun _ _ => trivial)
  clear hr cf kf ff
  have HZ4w := Lib.hid (hb.blockAt HZ3.out)
  have HC4w := Lib.hid (hb.blockAt HC3.out)
  have HA4w := Lib.hid (hb.blockAt HA3.out)
  have G4 := Lib.hid (hg.low (show w.heap.size + 1 + 1 + 1 ≤ _ from blk_lt HC3.out))
  have G1 := Lib.hid (G1.out.ext hb)
  have G2 := Lib.hid (G2.out.ext hb)
  have G3 := Lib.hid (G3.out.ext hb)
  have kf : w4.cell? ⟨w.heap.size + 1 + 1, 15, none⟩ = some (.slice L.sA n4 L.sc) := (cell_of_row _ _ 15 _ _ _ HC4w.out).trans K15_3.out
  have ff : w4.frozen? ⟨w.heap.size + 1 + 1, 15, none⟩ = false := frozen_of_row _ _ _ _ _ HC4w.out
  have HX4w := Lib.hid (HX3.out.trans hb)
  obtain ⟨C4, hC4⟩ : ∃ C, C3.setIfInBounds 15 (.slice A4 n4 c4) = C := ⟨_, rfl⟩
  have HA4 : Hid ((w4.setCell ⟨w.heap.size + 1 + 1, 15, none⟩ (.slice A4 n4 c4)).heap[w.heap.size]? = some (.cells CA 39 (0, 0))) := Lib.hid ((heap_setCell_other _ _ _ _ (by simp; try omega)).trans HA4w.out)
  have HZ4 : Hid ((w4.setCell ⟨w.heap.size + 1 + 1, 15, none⟩ (.slice A4 n4 c4)).heap[w.heap.size + 1]? = some (.cells #[.int .i64 0, .int .i64 0, .int .i64 0, .string ⟨#[]⟩, .slice none 0 0, .slice none 0 0, .int .i64 0, .int .i64 0, .slice none 0 0, .int .i64 0, .string ⟨#[]⟩, .int .i64 0, .int .i64 0, .int .i64 0, .int .i64 0, .slice none 0 0, .int .i64 0] 39 (0, 0))) := Lib.hid ((heap_setCell_other _ _ _ _ (by simp; try omega)).trans HZ4w.out)
  have HC4 : Hid ((w4.setCell ⟨w.heap.size + 1 + 1, 15, none⟩ (.slice A4 n4 c4)).heap[w.heap.size + 1 + 1]? = some (.cells C4 39 (0, 0))) := Lib.hid (by rw [← hC4]; exact heap_setCell_same _ _ _ _ _ _ HC4w.out)
  have HX4 : Hid (Ext w (w4.setCell ⟨w.heap.size + 1 + 1, 15, none⟩ (.slice A4 n4 c4))) := Lib.hid (HX4w.out.setCell (show w.heap.size ≤ w.heap.size + 1 + 1 by omega) _)
  have G1 : Hid (Got eS (w4.setCell ⟨w.heap.size + 1 + 1, 15, none⟩ (.slice A4 n4 c4)) (w.heap.size + 1 + 1 + 1) A1 it.opts c1) := Lib.hid (G1.out.put (by omega) _ _)
  have G2 : Hid (Got eI (w4.setCell ⟨w.heap.size + 1 + 1, 15, none⟩ (.slice A4 n4 c4)) (w.heap.size + 1 + 1 + 1) A2 it.chs c2) := Lib.hid (G2.out.put (by omega) _ _)
  have G3 : Hid (Got eS (w4.setCell ⟨w.heap.size + 1 + 1, 15, none⟩ (.slice A4 n4 c4)) (w.heap.size + 1 + 1 + 1) A3 it.texts c3) := Lib.hid (G3.out.put (by omega) _ _)
  have G4 : Hid (Got eI (w4.setCell ⟨w.heap.size + 1 + 1, 15, none⟩ (.slice A4 n4 c4)) (w.heap.size + 1 + 1 + 1) A4 it.assets c4) := Lib.hid (G4.out.put (by omega) _ _)
  have HS4 := Lib.hid hC4
  clear hC4 hg hb
  have HSZ : Hid (C4.size = 17) := Lib.hid (by rw [← HS4.out, ← HS3.out, ← HS2.out, ← HS1.out]; simp only [Array.size_setIfInBounds]; exact HNA.out)
  have HFIN : Hid (C4 = (It.cells it ⟨A1, c1, A2, c2, A3, c3, A4, c4⟩).toArray) := Lib.hid (by
    rw [← HS4.out, ← HS3.out, ← HS2.out, ← HS1.out, ← HKA.out, ← HL1.out, ← HL2.out, ← HL3.out, ← HL4.out]
    exact set4_it it L A1 A2 A3 A4 c1 c2 c3 c4)
  have H1C : Hid (C4.all (·.oneCell') = true) := Lib.hid (by rw [HFIN.out]; simp [It.cells, Value.oneCell'])
  have INF := Lib.hid (infoItem HSZ.out)
  have IZ : Hid ((#[.int .i64 0, .int .i64 0, .int .i64 0, .string ⟨#[]⟩, .slice none 0 0, .slice none 0 0, .int .i64 0, .int .i64 0, .slice none 0 0, .int .i64 0, .string ⟨#[]⟩, .int .i64 0, .int .i64 0, .int .i64 0, .int .i64 0, .slice none 0 0, .int .i64 0] : Array Value).size = C4.size) := Lib.hid HSZ.out.symm
  go_wp2_with (first
    | (with_reducible refine wpList_load_row rfl 39 (.tmp 3) rfl (w.heap.size + 1 + 1) (by with_unfolding_all rfl) _ C4 _ _ HC4.out Tryz.underlying39 rfl INF.out ?_)
    | (with_reducible refine wpList_store_row rfl 39 (.tmp 2) (.tmp 21) rfl (w.heap.size + 1) C4 (by with_unfolding_all rfl) (by with_unfolding_all rfl) _ _ HZ4.out INF.out IZ.out H1C.out ?_))
  refine bodyPost_ret (v := .agg C4) (results_oneR Tryz.results43 _ _ (w.heap.size + 1) _ C4 _ _ rfl (setRow_heap _ _ _ _ _ _ HZ4.out) Tryz.underlying39 rfl INF.out) rfl ?_
  have XF : Ext w ((w4.setCell ⟨w.heap.size + 1 + 1, 15, none⟩ (.slice A4 n4 c4)).setRow (w.heap.size + 1) C4) := HX4.out.rowSet (by omega) _
  have hlt : w.heap.size + 1 < w.heap.size + 1 + 1 + 1 := by omega
  have hb := But.setRow (w.heap.size + 1) (w4.setCell ⟨w.heap.size + 1 + 1, 15, none⟩ (.slice A4 n4 c4)) C4
  refine ⟨⟨⟨A1, c1, A2, c2, A3, c3, A4, c4⟩, ?_, ?_, ?_⟩, XF⟩
  · rw [HFIN.out]; rfl
  · have k1 := G1.out.but hb hlt
    have k2 := G2.out.but hb hlt
    have k3 := G3.out.but hb hlt
    have k4 := G4.out.but hb hlt
    exact ⟨H.out.ok, k1.sl.sl, k2.sl.sl, k3.sl.sl, k4.sl.sl, ⟨k1.le, k1.mx⟩, ⟨k2.le, k2.mx⟩, ⟨k3.le, k3.mx⟩, ⟨k4.le, k4.mx⟩⟩
  · have hl : w.heap.size ≤ w.heap.size + 1 + 1 + 1 := by omega
    exact ⟨(G1.out.low hl).frm.a, (G2.out.low hl).frm.a, (G3.out.low hl).frm.a, (G4.out.low hl).frm.a⟩
set_option maxRecDepth 100000 in
set_option maxHeartbeats 12800000 in
theorem ritem_any (it : It.Item) (L : It.Loc) (w : World) (h : It.In w it L) (hz : ItSz it) :
    Calls Tryz.prog 44 #[It.agg it L] w fun e w' => RetIt w it e w' ∧ Ext w w' := by
  obtain ⟨CA, hca, hna, h1a, hka⟩ := itp (it, L)
  rw [hca]
  obtain ⟨sm1, sm2, sm3, sm4⟩ := hz
  have J4 : Hid (CA[4]? = some (.slice L.oA it.opts.length L.oc)) := Lib.hid (by rw [← hka]; rfl)
  have J5 : Hid (CA[5]? = some (.slice L.cA it.chs.length L.cc)) := Lib.hid (by rw [← hka]; rfl)
  have J8 : Hid (CA[8]? = some (.slice L.tA it.texts.length L.tc)) := Lib.hid (by rw [← hka]; rfl)
  have J15 : Hid (CA[15]? = some (.slice L.sA it.assets.length L.sc)) := Lib.hid (by rw [← hka]; rfl)
  obtain ⟨n1, hn1⟩ : ∃ n, it.opts.length = n := ⟨_, rfl⟩
  rw [hn1] at J4 sm1
  have HL1 := Lib.hid hn1
  obtain ⟨n2, hn2⟩ : ∃ n, it.chs.length = n := ⟨_, rfl⟩
  rw [hn2] at J5 sm2
  have HL2 := Lib.hid hn2
  obtain ⟨n3, hn3⟩ : ∃ n, it.texts.length = n := ⟨_, rfl⟩
  rw [hn3] at J8 sm3
  have HL3 := Lib.hid hn3
  obtain ⟨n4, hn4⟩ : ∃ n, it.assets.length = n := ⟨_, rfl⟩
  rw [hn4] at J15 sm4
  have HL4 := Lib.hid hn4
  clear hn1 hn2 hn3 hn4
  have HC0 : Hid (((w.alloc (.cells CA 39)).alloc (.cells #[.int .i64 0, .int .i64 0, .int .i64 0, .string ⟨#[]⟩, .slice none 0 0, .slice none 0 0, .int .i64 0, .int .i64 0, .slice none 0 0, .int .i64 0, .string ⟨#[]⟩, .int .i64 0, .int .i64 0, .int .i64 0, .int .i64 0, .slice none 0 0, .int .i64 0] 39)).heap[w.heap.size]? = some (.cells CA 39 (0, 0))) := Lib.hid (((Ext.refl _).alloc _).blockAt (heap_alloc_new w _))
  have HZ0 : Hid (((w.alloc (.cells CA 39)).alloc (.cells #[.int .i64 0, .int .i64 0, .int .i64 0, .string ⟨#[]⟩, .slice none 0 0, .slice none 0 0, .int .i64 0, .int .i64 0, .slice none 0 0, .int .i64 0, .string ⟨#[]⟩, .int .i64 0, .int .i64 0, .int .i64 0, .int .i64 0, .slice none 0 0, .int .i64 0] 39)).heap[w.heap.size + 1]? = some (.cells #[.int .i64 0, .int .i64 0, .int .i64 0, .string ⟨#[]⟩, .slice none 0 0, .slice none 0 0, .int .i64 0, .int .i64 0, .slice none 0 0, .int .i64 0, .string ⟨#[]⟩, .int .i64 0, .int .i64 0, .int .i64 0, .int .i64 0, .slice none 0 0, .int .i64 0] 39 (0, 0))) := Lib.hid (heap_new_at _ _ _ (by simp))
  have HX0 : Hid (Ext w ((w.alloc (.cells CA 39)).alloc (.cells #[.int .i64 0, .int .i64 0, .int .i64 0, .string ⟨#[]⟩, .slice none 0 0, .slice none 0 0, .int .i64 0, .int .i64 0, .slice none 0 0, .int .i64 0, .string ⟨#[]⟩, .int .i64 0, .int .i64 0, .int .i64 0, .int .i64 0, .slice none 0 0, .int .i64 0] 39))) := Lib.hid (((Ext.refl _).alloc _).alloc _)
  have K4_0 := J4
  have K5_0 := J5
  have K8_0 := J8
  have K15_0 := J15
  obtain ⟨iI, hiI, hzI, hsI, hbI⟩ := info_parts infoI
  obtain ⟨iS, hiS, hzS, hsS, hbS⟩ := info_parts infoS
  have H := Lib.hid h
  have HKA := Lib.hid hka
  have HNA := Lib.hid hna
  have H1A := Lib.hid h1a
  have IA := Lib.hid (infoItem hna)
  clear h hca hka hna h1a
  go_enter Tryz.func44, Tryz.ntmps44
  have X1 : Ext ((w.alloc (.cells CA 39)).alloc (.cells #[.int .i64 0, .int .i64 0, .int .i64 0, .string ⟨#[]⟩, .slice none 0 0, .slice none 0 0, .int .i64 0, .int .i64 0, .slice none 0 0, .int .i64 0, .string ⟨#[]⟩, .int .i64 0, .int .i64 0, .int .i64 0, .int .i64 0, .slice none 0 0, .int .i64 0] 39)) (((w.alloc (.cells CA 39)).alloc (.cells #[.int .i64 0, .int .i64 0, .int .i64 0, .string ⟨#[]⟩, .slice none 0 0, .slice none 0 0, .int .i64 0, .int .i64 0, .slice none 0 0, .int .i64 0, .string ⟨#[]⟩, .int .i64 0, .int .i64 0, .int .i64 0, .int .i64 0, .slice none 0 0, .int .i64 0] 39)).alloc (.cells #[] 9)) := (Ext.refl _).alloc _
  have cf : (((w.alloc (.cells CA 39)).alloc (.cells #[.int .i64 0, .int .i64 0, .int .i64 0, .string ⟨#[]⟩, .slice none 0 0, .slice none 0 0, .int .i64 0, .int .i64 0, .slice none 0 0, .int .i64 0, .string ⟨#[]⟩, .int .i64 0, .int .i64 0, .int .i64 0, .int .i64 0, .slice none 0 0, .int .i64 0] 39)).alloc (.cells #[] 9)).cell? ⟨w.heap.size, 4, none⟩ = some (.slice L.oA n1 L.oc) := X1.keep ((cell_of_row _ _ 4 _ _ _ HC0.out).trans K4_0.out)
  have SL1 := Lib.hid ((SlX.ofS (H.out.ext HX0.out).o).ext X1)
  clear X1
  go_wp2_with (first
    | (with_reducible refine wpList_load_row rfl 39 (.tmp 1) rfl (w.heap.size) (by with_unfolding_all rfl) _ C4 _ _ HC4.out Tryz.underlying39 rfl INF.out ?_)
    | (with_reducible refine wpList_store_row rfl 39 (.tmp 2) (.tmp 23) rfl (w.heap.size + 1) C4 (by with_unfolding_all rfl) (by with_unfolding_all rfl) _ _ HZ4.out INF.out IZ.out H1C.out ?_)
    | (at_builtin; refine wpList_appE (E := eI) rfl _ _ 22 rfl 3 iI (.int .i64 0) 8 rfl Tryz.underlying22 hiI hzI hsI hbI rfl (fun _ _ => trivial) (w3.heap.size) (by simp) rfl L.sA L.sc n4 it.assets HL4.out rfl SL4.out (fun x hx _ => SL4.out.ins x hx) (by unfold maxLen; omega) sm4 ?_; intro A4 c4 w4 hg hb
       clear cf kf ff
       have HZ4w := Lib.hid (hb.blockAt HZ3.out)
       have HC4w := Lib.hid (hb.blockAt HC3.out)
       have G4 := Lib.hid (hg.low (show w.heap.size + 1 + 1 ≤ _ from blk_lt HZ3.out))
       have G1 := Lib.hid (G1.out.ext hb)
       have G2 := Lib.hid (G2.out.ext hb)
       have G3 := Lib.hid (G3.out.ext hb)
       have kf : w4.cell? ⟨w.heap.size, 15, none⟩ = some (.slice L.sA n4 L.sc) := (cell_of_row _ _ 15 _ _ _ HC4w.out).trans K15_3.out
       have ff : w4.frozen? ⟨w.heap.size, 15, none⟩ = false := frozen_of_row _ _ _ _ _ HC4w.out
       have HX4w := Lib.hid (HX3.out.trans hb)
       obtain ⟨C4, hC4⟩ : ∃ C, C3.setIfInBounds 15 (.slice A4 n4 c4) = C := ⟨_, rfl⟩
       have HZ4 : Hid ((w4.setCell ⟨w.heap.size, 15, none⟩ (.slice A4 n4 c4)).heap[w.heap.size + 1]? = some (.cells #[.int .i64 0, .int .i64 0, .int .i64 0, .string ⟨#[]⟩, .slice none 0 0, .slice none 0 0, .int .i64 0, .int .i64 0, .slice none 0 0, .int .i64 0, .string ⟨#[]⟩, .int .i64 0, .int .i64 0, .int .i64 0, .int .i64 0, .slice none 0 0, .int .i64 0] 39 (0, 0))) := Lib.hid ((heap_setCell_other _ _ _ _ (by simp; try omega)).trans HZ4w.out)
       have HC4 : Hid ((w4.setCell ⟨w.heap.size, 15, none⟩ (.slice A4 n4 c4)).heap[w.heap.size]? = some (.cells C4 39 (0, 0))) := Lib.hid (by rw [← hC4]; exact heap_setCell_same _ _ _ _ _ _ HC4w.out)
       have HX4 : Hid (Ext w (w4.setCell ⟨w.heap.size, 15, none⟩ (.slice A4 n4 c4))) := Lib.hid (HX4w.out.setCell (show w.heap.size ≤ w.heap.size by omega) _)
       have G1 : Hid (Got eS (w4.setCell ⟨w.heap.size, 15, none⟩ (.slice A4 n4 c4)) (w.heap.size + 1 + 1) A1 it.opts c1) := Lib.hid (G1.out.put (by omega) _ _)
       have G2 : Hid (Got eI (w4.setCell ⟨w.heap.size, 15, none⟩ (.slice A4 n4 c4)) (w.heap.size + 1 + 1) A2 it.chs c2) := Lib.hid (G2.out.put (by omega) _ _)
       have G3 : Hid (Got eS (w4.setCell ⟨w.heap.size, 15, none⟩ (.slice A4 n4 c4)) (w.heap.size + 1 + 1) A3 it.texts c3) := Lib.hid (G3.out.put (by omega) _ _)
       have G4 : Hid (Got eI (w4.setCell ⟨w.heap.size, 15, none⟩ (.slice A4 n4 c4)) (w.heap.size + 1 + 1) A4 it.assets c4) := Lib.hid (G4.out.put (by omega) _ _)
       have HS4 := Lib.hid hC4
       clear hC4 hg hb
       have HSZ : Hid (C4.size = 17) := Lib.hid (by rw [← HS4.out, ← HS3.out, ← HS2.out, ← HS1.out]; simp only [Array.size_setIfInBounds]; exact HNA.out)
       have HFIN : Hid (C4 = (It.cells it ⟨A1, c1, A2, c2, A3, c3, A4, c4⟩).toArray) := Lib.hid (by
         rw [← HS4.out, ← HS3.out, ← HS2.out, ← HS1.out, ← HKA.out, ← HL1.out, ← HL2.out, ← HL3.out, ← HL4.out]
         exact set4_it it L A1 A2 A3 A4 c1 c2 c3 c4)
       have H1C : Hid (C4.all (·.oneCell') = true) := Lib.hid (by rw [HFIN.out]; simp [It.cells, Value.oneCell'])
       have INF := Lib.hid (infoItem HSZ.out)
       have IZ : Hid ((#[.int .i64 0, .int .i64 0, .int .i64 0, .string ⟨#[]⟩, .slice none 0 0, .slice none 0 0, .int .i64 0, .int .i64 0, .slice none 0 0, .int .i64 0, .string ⟨#[]⟩, .int .i64 0, .int .i64 0, .int .i64 0, .int .i64 0, .slice none 0 0, .int .i64 0] : Array Value).size = C4.size) := Lib.hid HSZ.out.symm)
    | (at_builtin; refine wpList_appE (E := eS) rfl _ _ 37 rfl 9 iS (.string ⟨#[]⟩) 16 rfl Tryz.underlying37 hiS hzS hsS hbS rfl (fun _ _ => trivial) (w2.heap.size) (by simp) rfl L.tA L.tc n3 it.texts HL3.out rfl SL3.out (fun _ _ _ => trivial) (by unfold maxLen; omega) sm3 ?_; intro A3 c3 w3 hg hb
       clear cf kf ff
       have HZ3w := Lib.hid (hb.blockAt HZ2.out)
       have HC3w := Lib.hid (hb.blockAt HC2.out)
       have G3 := Lib.hid (hg.low (show w.heap.size + 1 + 1 ≤ _ from blk_lt HZ2.out))
       have G1 := Lib.hid (G1.out.ext hb)
       have G2 := Lib.hid (G2.out.ext hb)
       have kf : w3.cell? ⟨w.heap.size, 8, none⟩ = some (.slice L.tA n3 L.tc) := (cell_of_row _ _ 8 _ _ _ HC3w.out).trans K8_2.out
       have ff : w3.frozen? ⟨w.heap.size, 8, none⟩ = false := frozen_of_row _ _ _ _ _ HC3w.out
       have HX3w := Lib.hid (HX2.out.trans hb)
       obtain ⟨C3, hC3⟩ : ∃ C, C2.setIfInBounds 8 (.slice A3 n3 c3) = C := ⟨_, rfl⟩
       have HZ3 : Hid ((w3.setCell ⟨w.heap.size, 8, none⟩ (.slice A3 n3 c3)).heap[w.heap.size + 1]? = some (.cells #[.int .i64 0, .int .i64 0, .int .i64 0, .string ⟨#[]⟩, .slice none 0 0, .slice none 0 0, .int .i64 0, .int .i64 0, .slice none 0 0, .int .i64 0, .string ⟨#[]⟩, .int .i64 0, .int .i64 0, .int .i64 0, .int .i64 0, .slice none 0 0, .int .i64 0] 39 (0, 0))) := Lib.hid ((heap_setCell_other _ _ _ _ (by simp; try omega)).trans HZ3w.out)
       have HC3 : Hid ((w3.setCell ⟨w.heap.size, 8, none⟩ (.slice A3 n3 c3)).heap[w.heap.size]? = some (.cells C3 39 (0, 0))) := Lib.hid (by rw [← hC3]; exact heap_setCell_same _ _ _ _ _ _ HC3w.out)
       have HX3 : Hid (Ext w (w3.setCell ⟨w.heap.size, 8, none⟩ (.slice A3 n3 c3))) := Lib.hid (HX3w.out.setCell (show w.heap.size ≤ w.heap.size by omega) _)
       have G1 : Hid (Got eS (w3.setCell ⟨w.heap.size, 8, none⟩ (.slice A3 n3 c3)) (w.heap.size + 1 + 1) A1 it.opts c1) := Lib.hid (G1.out.put (by omega) _ _)
       have G2 : Hid (Got eI (w3.setCell ⟨w.heap.size, 8, none⟩ (.slice A3 n3 c3)) (w.heap.size + 1 + 1) A2 it.chs c2) := Lib.hid (G2.out.put (by omega) _ _)
       have G3 : Hid (Got eS (w3.setCell ⟨w.heap.size, 8, none⟩ (.slice A3 n3 c3)) (w.heap.size + 1 + 1) A3 it.texts c3) := Lib.hid (G3.out.put (by omega) _ _)
       have K15_3 := Lib.hid ((by rw [← hC3, Array.getElem?_setIfInBounds_ne (by decide)] : C3[15]? = C2[15]?).trans K15_2.out)
       have HS3 := Lib.hid hC3
       clear hC3 hg hb
       have X1 : Ext (w3.setCell ⟨w.heap.size, 8, none⟩ (.slice A3 n3 c3)) ((w3.setCell ⟨w.heap.size, 8, none⟩ (.slice A3 n3 c3)).alloc (.cells #[] 3)) := (Ext.refl _).alloc _
       have cf : ((w3.setCell ⟨w.heap.size, 8, none⟩ (.slice A3 n3 c3)).alloc (.cells #[] 3)).cell? ⟨w.heap.size, 15, none⟩ = some (.slice L.sA n4 L.sc) := X1.keep ((cell_of_row _ _ 15 _ _ _ HC3.out).trans K15_3.out)
       have SL4 := Lib.hid ((SlX.ofI (H.out.ext HX3.out).s H.out.ok.assets).ext X1)
       clear X1)
    | (at_builtin; refine wpList_appE (E := eI) rfl _ _ 22 rfl 3 iI (.int .i64 0) 8 rfl Tryz.underlying22 hiI hzI hsI hbI rfl (fun _ _ => trivial) (w1.heap.size) (by simp) rfl L.cA L.cc n2 it.chs HL2.out rfl SL2.out (fun x hx _ => SL2.out.ins x hx) (by unfold maxLen; omega) sm2 ?_; intro A2 c2 w2 hg hb
       clear cf kf ff
       have HZ2w := Lib.hid (hb.blockAt HZ1.out)
       have HC2w := Lib.hid (hb.blockAt HC1.out)
       have G2 := Lib.hid (hg.low (show w.heap.size + 1 + 1 ≤ _ from blk_lt HZ1.out))
       have G1 := Lib.hid (G1.out.ext hb)
       have kf : w2.cell? ⟨w.heap.size, 5, none⟩ = some (.slice L.cA n2 L.cc) := (cell_of_row _ _ 5 _ _ _ HC2w.out).trans K5_1.out
       have ff : w2.frozen? ⟨w.heap.size, 5, none⟩ = false := frozen_of_row _ _ _ _ _ HC2w.out
       have HX2w := Lib.hid (HX1.out.trans hb)
       obtain ⟨C2, hC2⟩ : ∃ C, C1.setIfInBounds 5 (.slice A2 n2 c2) = C := ⟨_, rfl⟩
       have HZ2 : Hid ((w2.setCell ⟨w.heap.size, 5, none⟩ (.slice A2 n2 c2)).heap[w.heap.size + 1]? = some (.cells #[.int .i64 0, .int .i64 0, .int .i64 0, .string ⟨#[]⟩, .slice none 0 0, .slice none 0 0, .int .i64 0, .int .i64 0, .slice none 0 0, .int .i64 0, .string ⟨#[]⟩, .int .i64 0, .int .i64 0, .int .i64 0, .int .i64 0, .slice none 0 0, .int .i64 0] 39 (0, 0))) := Lib.hid ((heap_setCell_other _ _ _ _ (by simp; try omega)).trans HZ2w.out)
       have HC2 : Hid ((w2.setCell ⟨w.heap.size, 5, none⟩ (.slice A2 n2 c2)).heap[w.heap.size]? = some (.cells C2 39 (0, 0))) := Lib.hid (by rw [← hC2]; exact heap_setCell_same _ _ _ _ _ _ HC2w.out)
       have HX2 : Hid (Ext w (w2.setCell ⟨w.heap.size, 5, none⟩ (.slice A2 n2 c2))) := Lib.hid (HX2w.out.setCell (show w.heap.size ≤ w.heap.size by omega) _)
       have G1 : Hid (Got eS (w2.setCell ⟨w.heap.size, 5, none⟩ (.slice A2 n2 c2)) (w.heap.size + 1 + 1) A1 it.opts c1) := Lib.hid (G1.out.put (by omega) _ _)
       have G2 : Hid (Got eI (w2.setCell ⟨w.heap.size, 5, none⟩ (.slice A2 n2 c2)) (w.heap.size + 1 + 1) A2 it.chs c2) := Lib.hid (G2.out.put (by omega) _ _)
       have K8_2 := Lib.hid ((by rw [← hC2, Array.getElem?_setIfInBounds_ne (by decide)] : C2[8]? = C1[8]?).trans K8_1.out)
       have K15_2 := Lib.hid ((by rw [← hC2, Array.getElem?_setIfInBounds_ne (by decide)] : C2[15]? = C1[15]?).trans K15_1.out)
       have HS2 := Lib.hid hC2
       clear hC2 hg hb
       have X1 : Ext (w2.setCell ⟨w.heap.size, 5, none⟩ (.slice A2 n2 c2)) ((w2.setCell ⟨w.heap.size, 5, none⟩ (.slice A2 n2 c2)).alloc (.cells #[] 9)) := (Ext.refl _).alloc _
       have cf : ((w2.setCell ⟨w.heap.size, 5, none⟩ (.slice A2 n2 c2)).alloc (.cells #[] 9)).cell? ⟨w.heap.size, 8, none⟩ = some (.slice L.tA n3 L.tc) := X1.keep ((cell_of_row _ _ 8 _ _ _ HC2.out).trans K8_2.out)
       have SL3 := Lib.hid ((SlX.ofS (H.out.ext HX2.out).t).ext X1)
       clear X1)
    | (at_builtin; refine wpList_appE (E := eS) rfl _ _ 37 rfl 9 iS (.string ⟨#[]⟩) 16 rfl Tryz.underlying37 hiS hzS hsS hbS rfl (fun _ _ => trivial) (w.heap.size + 1 + 1) (by simp) rfl L.oA L.oc n1 it.opts HL1.out rfl SL1.out (fun _ _ _ => trivial) (by unfold maxLen; omega) sm1 ?_; intro A1 c1 w1 hg hb
       clear cf
       have HZ1w := Lib.hid (hb.blockAt HZ0.out)
       have HC1w := Lib.hid (hb.blockAt HC0.out)
       have G1 := Lib.hid (hg.low (show w.heap.size + 1 + 1 ≤ _ from blk_lt HZ0.out))
       have kf : w1.cell? ⟨w.heap.size, 4, none⟩ = some (.slice L.oA n1 L.oc) := (cell_of_row _ _ 4 _ _ _ HC1w.out).trans K4_0.out
       have ff : w1.frozen? ⟨w.heap.size, 4, none⟩ = false := frozen_of_row _ _ _ _ _ HC1w.out
       have HX1w := Lib.hid (HX0.out.trans hb)
       obtain ⟨C1, hC1⟩ : ∃ C, CA.setIfInBounds 4 (.slice A1 n1 c1) = C := ⟨_, rfl⟩
       have HZ1 : Hid ((w1.setCell ⟨w.heap.size, 4, none⟩ (.slice A1 n1 c1)).heap[w.heap.size + 1]? = some (.cells #[.int .i64 0, .int .i64 0, .int .i64 0, .string ⟨#[]⟩, .slice none 0 0, .slice none 0 0, .int .i64 0, .int .i64 0, .slice none 0 0, .int .i64 0, .string ⟨#[]⟩, .int .i64 0, .int .i64 0, .int .i64 0, .int .i64 0, .slice none 0 0, .int .i64 0] 39 (0, 0))) := Lib.hid ((heap_setCell_other _ _ _ _ (by simp; try omega)).trans HZ1w.out)
       have HC1 : Hid ((w1.setCell ⟨w.heap.size, 4, none⟩ (.slice A1 n1 c1)).heap[w.heap.size]? = some (.cells C1 39 (0, 0))) := Lib.hid (by rw [← hC1]; exact heap_setCell_same _ _ _ _ _ _ HC1w.out)
       have HX1 : Hid (Ext w (w1.setCell ⟨w.heap.size, 4, none⟩ (.slice A1 n1 c1))) := Lib.hid (HX1w.out.setCell (show w.heap.size ≤ w.heap.size by omega) _)
       have G1 : Hid (Got eS (w1.setCell ⟨w.heap.size, 4, none⟩ (.slice A1 n1 c1)) (w.heap.size + 1 + 1) A1 it.opts c1) := Lib.hid (G1.out.put (by omega) _ _)
       have K5_1 := Lib.hid ((by rw [← hC1, Array.getElem?_setIfInBounds_ne (by decide)] : C1[5]? = CA[5]?).trans K5_0.out)
       have K8_1 := Lib.hid ((by rw [← hC1, Array.getElem?_setIfInBounds_ne (by decide)] : C1[8]? = CA[8]?).trans K8_0.out)
       have K15_1 := Lib.hid ((by rw [← hC1, Array.getElem?_setIfInBounds_ne (by decide)] : C1[15]? = CA[15]?).trans K15_0.out)
       have HS1 := Lib.hid hC1
       clear hC1 hg hb
       have X1 : Ext (w1.setCell ⟨w.heap.size, 4, none⟩ (.slice A1 n1 c1)) ((w1.setCell ⟨w.heap.size, 4, none⟩ (.slice A1 n1 c1)).alloc (.cells #[] 3)) := (Ext.refl _).alloc _
       have cf : ((w1.setCell ⟨w.heap.size, 4, none⟩ (.slice A1 n1 c1)).alloc (.cells #[] 3)).cell? ⟨w.heap.size, 5, none⟩ = some (.slice L.cA n2 L.cc) := X1.keep ((cell_of_row _ _ 5 _ _ _ HC1.out).trans K5_1.out)
       have SL2 := Lib.hid ((SlX.ofI (H.out.ext HX1.out).c H.out.ok.chs).ext X1)
       clear X1)
    )
  refine bodyPost_ret (v := .agg C4) (results_oneR Tryz.results44 _ _ (w.heap.size + 1) _ C4 _ _ rfl (setRow_heap _ _ _ _ _ _ HZ4.out) Tryz.underlying39 rfl INF.out) rfl ?_
  have XF : Ext w ((w4.setCell ⟨w.heap.size, 15, none⟩ (.slice A4 n4 c4)).setRow (w.heap.size + 1) C4) := HX4.out.rowSet (by omega) _
  have hlt : w.heap.size + 1 < w.heap.size + 1 + 1 := by omega
  have hb := But.setRow (w.heap.size + 1) (w4.setCell ⟨w.heap.size, 15, none⟩ (.slice A4 n4 c4)) C4
  refine ⟨⟨⟨A1, c1, A2, c2, A3, c3, A4, c4⟩, ?_, ?_, ?_⟩, XF⟩
  · rw [HFIN.out]; rfl
  · have k1 := G1.out.but hb hlt
    have k2 := G2.out.but hb hlt
    have k3 := G3.out.but hb hlt
    have k4 := G4.out.but hb hlt
    exact ⟨H.out.ok, k1.sl.sl, k2.sl.sl, k3.sl.sl, k4.sl.sl, ⟨k1.le, k1.mx⟩, ⟨k2.le, k2.mx⟩, ⟨k3.le, k3.mx⟩, ⟨k4.le, k4.mx⟩⟩
  · have hl : w.heap.size ≤ w.heap.size + 1 + 1 := by omega
    exact ⟨(G1.out.low hl).frm.a, (G2.out.low hl).frm.a, (G3.out.low hl).frm.a, (G4.out.low hl).frm.a⟩
set_option maxRecDepth 100000 in
set_option maxHeartbeats 12800000 in
theorem rreview_any (r : RvL) (w : World) (h : r.In w) (hz : RevSz r.rc) :
    Calls Tryz.prog 82 #[r.agg] w fun e w' => (∃ r' : RvL, e = .returned r'.agg ∧ r'.rc = r.rc ∧ r'.Ok w.heap.size w') ∧ Ext w w' := by
  obtain ⟨CA, hca, hna, h1a, hka⟩ := r.packed
  rw [hca]
  obtain ⟨sm1, sm2, sm3⟩ := hz
  unfold RvL.rc at sm1 sm2 sm3
  dsimp only at sm1 sm2 sm3
  have J2 : Hid (CA[2]? = some (.slice r.ap.A r.ap.xs.length r.ap.c)) := Lib.hid (by rw [← hka]; rfl)
  have J3 : Hid (CA[3]? = some (.slice r.fa.A r.fa.xs.length r.fa.c)) := Lib.hid (by rw [← hka]; rfl)
  have J4 : Hid (CA[4]? = some (.slice r.lA r.log.length r.lc)) := Lib.hid (by rw [← hka]; rfl)
  obtain ⟨n1, hn1⟩ : ∃ n, r.ap.xs.length = n := ⟨_, rfl⟩
  rw [hn1] at J2 sm1
  have HL1 := Lib.hid hn1
  obtain ⟨n2, hn2⟩ : ∃ n, r.fa.xs.length = n := ⟨_, rfl⟩
  rw [hn2] at J3 sm2
  have HL2 := Lib.hid hn2
  obtain ⟨n3, hn3⟩ : ∃ n, r.log.length = n := ⟨_, rfl⟩
  rw [hn3] at J4 sm3
  have HL3 := Lib.hid hn3
  clear hn1 hn2 hn3
  have HC0 : Hid (((w.alloc (.cells CA 54)).alloc (.cells #[.int .i64 0, .int .i64 0, .slice none 0 0, .slice none 0 0, .slice none 0 0] 54)).heap[w.heap.size]? = some (.cells CA 54 (0, 0))) := Lib.hid (((Ext.refl _).alloc _).blockAt (heap_alloc_new w _))
  have HZ0 : Hid (((w.alloc (.cells CA 54)).alloc (.cells #[.int .i64 0, .int .i64 0, .slice none 0 0, .slice none 0 0, .slice none 0 0] 54)).heap[w.heap.size + 1]? = some (.cells #[.int .i64 0, .int .i64 0, .slice none 0 0, .slice none 0 0, .slice none 0 0] 54 (0, 0))) := Lib.hid (heap_new_at _ _ _ (by simp))
  have HX0 : Hid (Ext w ((w.alloc (.cells CA 54)).alloc (.cells #[.int .i64 0, .int .i64 0, .slice none 0 0, .slice none 0 0, .slice none 0 0] 54))) := Lib.hid (((Ext.refl _).alloc _).alloc _)
  have K2_0 := J2
  have K3_0 := J3
  have K4_0 := J4
  obtain ⟨iAct, hiAct, hzAct, hsAct, hbAct⟩ := info_parts infoAct
  obtain ⟨iI, hiI, hzI, hsI, hbI⟩ := info_parts infoI
  have H := Lib.hid h
  have HKA := Lib.hid hka
  have HNA := Lib.hid hna
  have H1A := Lib.hid h1a
  have IA := Lib.hid (infoRev hna)
  clear h hca hka hna h1a
  go_enter Tryz.func82, Tryz.ntmps82
  have X1 : Ext ((w.alloc (.cells CA 54)).alloc (.cells #[.int .i64 0, .int .i64 0, .slice none 0 0, .slice none 0 0, .slice none 0 0] 54)) (((w.alloc (.cells CA 54)).alloc (.cells #[.int .i64 0, .int .i64 0, .slice none 0 0, .slice none 0 0, .slice none 0 0] 54)).alloc (.cells #[] 3)) := (Ext.refl _).alloc _
  have cf : (((w.alloc (.cells CA 54)).alloc (.cells #[.int .i64 0, .int .i64 0, .slice none 0 0, .slice none 0 0, .slice none 0 0] 54)).alloc (.cells #[] 3)).cell? ⟨w.heap.size, 2, none⟩ = some (.slice r.ap.A n1 r.ap.c) := X1.keep ((cell_of_row _ _ 2 _ _ _ HC0.out).trans K2_0.out)
  have SL1 := Lib.hid ((SlX.ofI (H.out.ext HX0.out).ap.1 H.out.ap.2.2.2).ext X1)
  clear X1
  go_wp2_with (first
    | (with_reducible refine wpList_load_row rfl 54 (.tmp 1) rfl (w.heap.size) (by with_unfolding_all rfl) _ C3 _ _ HC3.out Tryz.underlying54 rfl INF.out ?_)
    | (with_reducible refine wpList_store_row rfl 54 (.tmp 2) (.tmp 18) rfl (w.heap.size + 1) C3 (by with_unfolding_all rfl) (by with_unfolding_all rfl) _ _ HZ3.out INF.out IZ.out H1C.out ?_)
    | (at_builtin; refine wpList_appE (E := eAct) rfl _ _ 52 rfl 116 iAct (.agg #[.int .i64 0, .int .i64 0, .int .i64 0, .int .i64 0]) 32 rfl Tryz.underlying52 hiAct hzAct hsAct hbAct rfl (fun _ _ => trivial) (w2.heap.size) (by simp) rfl r.lA r.lc n3 r.log HL3.out rfl SL3.out (fun x hx _ => SL3.out.ins x hx) (by unfold maxLen; omega) sm3 ?_; intro A3 c3 w3 hg hb
       clear cf kf ff
       have HZ3w := Lib.hid (hb.blockAt HZ2.out)
       have HC3w := Lib.hid (hb.blockAt HC2.out)
       have G3 := Lib.hid (hg.low (show w.heap.size + 1 + 1 ≤ _ from blk_lt HZ2.out))
       have G1 := Lib.hid (G1.out.ext hb)
       have G2 := Lib.hid (G2.out.ext hb)
       have kf : w3.cell? ⟨w.heap.size, 4, none⟩ = some (.slice r.lA n3 r.lc) := (cell_of_row _ _ 4 _ _ _ HC3w.out).trans K4_2.out
       have ff : w3.frozen? ⟨w.heap.size, 4, none⟩ = false := frozen_of_row _ _ _ _ _ HC3w.out
       have HX3w := Lib.hid (HX2.out.trans hb)
       obtain ⟨C3, hC3⟩ : ∃ C, C2.setIfInBounds 4 (.slice A3 n3 c3) = C := ⟨_, rfl⟩
       have HZ3 : Hid ((w3.setCell ⟨w.heap.size, 4, none⟩ (.slice A3 n3 c3)).heap[w.heap.size + 1]? = some (.cells #[.int .i64 0, .int .i64 0, .slice none 0 0, .slice none 0 0, .slice none 0 0] 54 (0, 0))) := Lib.hid ((heap_setCell_other _ _ _ _ (by simp; try omega)).trans HZ3w.out)
       have HC3 : Hid ((w3.setCell ⟨w.heap.size, 4, none⟩ (.slice A3 n3 c3)).heap[w.heap.size]? = some (.cells C3 54 (0, 0))) := Lib.hid (by rw [← hC3]; exact heap_setCell_same _ _ _ _ _ _ HC3w.out)
       have HX3 : Hid (Ext w (w3.setCell ⟨w.heap.size, 4, none⟩ (.slice A3 n3 c3))) := Lib.hid (HX3w.out.setCell (show w.heap.size ≤ w.heap.size by omega) _)
       have G1 : Hid (Got eI (w3.setCell ⟨w.heap.size, 4, none⟩ (.slice A3 n3 c3)) (w.heap.size + 1 + 1) A1 r.ap.xs c1) := Lib.hid (G1.out.put (by omega) _ _)
       have G2 : Hid (Got eI (w3.setCell ⟨w.heap.size, 4, none⟩ (.slice A3 n3 c3)) (w.heap.size + 1 + 1) A2 r.fa.xs c2) := Lib.hid (G2.out.put (by omega) _ _)
       have G3 : Hid (Got eAct (w3.setCell ⟨w.heap.size, 4, none⟩ (.slice A3 n3 c3)) (w.heap.size + 1 + 1) A3 r.log c3) := Lib.hid (G3.out.put (by omega) _ _)
       have HS3 := Lib.hid hC3
       clear hC3 hg hb
       have HSZ : Hid (C3.size = 5) := Lib.hid (by rw [← HS3.out, ← HS2.out, ← HS1.out]; simp only [Array.size_setIfInBounds]; exact HNA.out)
       have HFIN : Hid (C3 = (RvL.cells ⟨r.st, r.au, ⟨A1, c1, r.ap.xs⟩, ⟨A2, c2, r.fa.xs⟩, A3, c3, r.log⟩).toArray) := Lib.hid (by
         rw [← HS3.out, ← HS2.out, ← HS1.out, ← HKA.out, ← HL1.out, ← HL2.out, ← HL3.out]
         rfl)
       have H1C : Hid (C3.all (·.oneCell') = true) := Lib.hid (by rw [HFIN.out]; simp [RvL.cells, IL.val, Value.oneCell'])
       have INF := Lib.hid (infoRev HSZ.out)
       have IZ : Hid ((#[.int .i64 0, .int .i64 0, .slice none 0 0, .slice none 0 0, .slice none 0 0] : Array Value).size = C3.size) := Lib.hid HSZ.out.symm)
    | (at_builtin; refine wpList_appE (E := eI) rfl _ _ 22 rfl 3 iI (.int .i64 0) 8 rfl Tryz.underlying22 hiI hzI hsI hbI rfl (fun _ _ => trivial) (w1.heap.size) (by simp) rfl r.fa.A r.fa.c n2 r.fa.xs HL2.out rfl SL2.out (fun x hx _ => SL2.out.ins x hx) (by unfold maxLen; omega) sm2 ?_; intro A2 c2 w2 hg hb
       clear cf kf ff
       have HZ2w := Lib.hid (hb.blockAt HZ1.out)
       have HC2w := Lib.hid (hb.blockAt HC1.out)
       have G2 := Lib.hid (hg.low (show w.heap.size + 1 + 1 ≤ _ from blk_lt HZ1.out))
       have G1 := Lib.hid (G1.out.ext hb)
       have kf : w2.cell? ⟨w.heap.size, 3, none⟩ = some (.slice r.fa.A n2 r.fa.c) := (cell_of_row _ _ 3 _ _ _ HC2w.out).trans K3_1.out
       have ff : w2.frozen? ⟨w.heap.size, 3, none⟩ = false := frozen_of_row _ _ _ _ _ HC2w.out
       have HX2w := Lib.hid (HX1.out.trans hb)
       obtain ⟨C2, hC2⟩ : ∃ C, C1.setIfInBounds 3 (.slice A2 n2 c2) = C := ⟨_, rfl⟩
       have HZ2 : Hid ((w2.setCell ⟨w.heap.size, 3, none⟩ (.slice A2 n2 c2)).heap[w.heap.size + 1]? = some (.cells #[.int .i64 0, .int .i64 0, .slice none 0 0, .slice none 0 0, .slice none 0 0] 54 (0, 0))) := Lib.hid ((heap_setCell_other _ _ _ _ (by simp; try omega)).trans HZ2w.out)
       have HC2 : Hid ((w2.setCell ⟨w.heap.size, 3, none⟩ (.slice A2 n2 c2)).heap[w.heap.size]? = some (.cells C2 54 (0, 0))) := Lib.hid (by rw [← hC2]; exact heap_setCell_same _ _ _ _ _ _ HC2w.out)
       have HX2 : Hid (Ext w (w2.setCell ⟨w.heap.size, 3, none⟩ (.slice A2 n2 c2))) := Lib.hid (HX2w.out.setCell (show w.heap.size ≤ w.heap.size by omega) _)
       have G1 : Hid (Got eI (w2.setCell ⟨w.heap.size, 3, none⟩ (.slice A2 n2 c2)) (w.heap.size + 1 + 1) A1 r.ap.xs c1) := Lib.hid (G1.out.put (by omega) _ _)
       have G2 : Hid (Got eI (w2.setCell ⟨w.heap.size, 3, none⟩ (.slice A2 n2 c2)) (w.heap.size + 1 + 1) A2 r.fa.xs c2) := Lib.hid (G2.out.put (by omega) _ _)
       have K4_2 := Lib.hid ((by rw [← hC2, Array.getElem?_setIfInBounds_ne (by decide)] : C2[4]? = C1[4]?).trans K4_1.out)
       have HS2 := Lib.hid hC2
       clear hC2 hg hb
       have X1 : Ext (w2.setCell ⟨w.heap.size, 3, none⟩ (.slice A2 n2 c2)) ((w2.setCell ⟨w.heap.size, 3, none⟩ (.slice A2 n2 c2)).alloc (.cells #[] 116)) := (Ext.refl _).alloc _
       have cf : ((w2.setCell ⟨w.heap.size, 3, none⟩ (.slice A2 n2 c2)).alloc (.cells #[] 116)).cell? ⟨w.heap.size, 4, none⟩ = some (.slice r.lA n3 r.lc) := X1.keep ((cell_of_row _ _ 4 _ _ _ HC2.out).trans K4_2.out)
       have SL3 := Lib.hid (((H.out.ext HX2.out).log).ext X1)
       clear X1)
    | (at_builtin; refine wpList_appE (E := eI) rfl _ _ 22 rfl 3 iI (.int .i64 0) 8 rfl Tryz.underlying22 hiI hzI hsI hbI rfl (fun _ _ => trivial) (w.heap.size + 1 + 1) (by simp) rfl r.ap.A r.ap.c n1 r.ap.xs HL1.out rfl SL1.out (fun x hx _ => SL1.out.ins x hx) (by unfold maxLen; omega) sm1 ?_; intro A1 c1 w1 hg hb
       clear cf
       have HZ1w := Lib.hid (hb.blockAt HZ0.out)
       have HC1w := Lib.hid (hb.blockAt HC0.out)
       have G1 := Lib.hid (hg.low (show w.heap.size + 1 + 1 ≤ _ from blk_lt HZ0.out))
       have kf : w1.cell? ⟨w.heap.size, 2, none⟩ = some (.slice r.ap.A n1 r.ap.c) := (cell_of_row _ _ 2 _ _ _ HC1w.out).trans K2_0.out
       have ff : w1.frozen? ⟨w.heap.size, 2, none⟩ = false := frozen_of_row _ _ _ _ _ HC1w.out
       have HX1w := Lib.hid (HX0.out.trans hb)
       obtain ⟨C1, hC1⟩ : ∃ C, CA.setIfInBounds 2 (.slice A1 n1 c1) = C := ⟨_, rfl⟩
       have HZ1 : Hid ((w1.setCell ⟨w.heap.size, 2, none⟩ (.slice A1 n1 c1)).heap[w.heap.size + 1]? = some (.cells #[.int .i64 0, .int .i64 0, .slice none 0 0, .slice none 0 0, .slice none 0 0] 54 (0, 0))) := Lib.hid ((heap_setCell_other _ _ _ _ (by simp; try omega)).trans HZ1w.out)
       have HC1 : Hid ((w1.setCell ⟨w.heap.size, 2, none⟩ (.slice A1 n1 c1)).heap[w.heap.size]? = some (.cells C1 54 (0, 0))) := Lib.hid (by rw [← hC1]; exact heap_setCell_same _ _ _ _ _ _ HC1w.out)
       have HX1 : Hid (Ext w (w1.setCell ⟨w.heap.size, 2, none⟩ (.slice A1 n1 c1))) := Lib.hid (HX1w.out.setCell (show w.heap.size ≤ w.heap.size by omega) _)
       have G1 : Hid (Got eI (w1.setCell ⟨w.heap.size, 2, none⟩ (.slice A1 n1 c1)) (w.heap.size + 1 + 1) A1 r.ap.xs c1) := Lib.hid (G1.out.put (by omega) _ _)
       have K3_1 := Lib.hid ((by rw [← hC1, Array.getElem?_setIfInBounds_ne (by decide)] : C1[3]? = CA[3]?).trans K3_0.out)
       have K4_1 := Lib.hid ((by rw [← hC1, Array.getElem?_setIfInBounds_ne (by decide)] : C1[4]? = CA[4]?).trans K4_0.out)
       have HS1 := Lib.hid hC1
       clear hC1 hg hb
       have X1 : Ext (w1.setCell ⟨w.heap.size, 2, none⟩ (.slice A1 n1 c1)) ((w1.setCell ⟨w.heap.size, 2, none⟩ (.slice A1 n1 c1)).alloc (.cells #[] 3)) := (Ext.refl _).alloc _
       have cf : ((w1.setCell ⟨w.heap.size, 2, none⟩ (.slice A1 n1 c1)).alloc (.cells #[] 3)).cell? ⟨w.heap.size, 3, none⟩ = some (.slice r.fa.A n2 r.fa.c) := X1.keep ((cell_of_row _ _ 3 _ _ _ HC1.out).trans K3_1.out)
       have SL2 := Lib.hid ((SlX.ofI (H.out.ext HX1.out).fa.1 H.out.fa.2.2.2).ext X1)
       clear X1)
    )
  refine bodyPost_ret (v := .agg C3) (results_oneR Tryz.results82 _ _ (w.heap.size + 1) _ C3 _ _ rfl (setRow_heap _ _ _ _ _ _ HZ3.out) Tryz.underlying54 rfl INF.out) rfl ?_
  have XF : Ext w ((w3.setCell ⟨w.heap.size, 4, none⟩ (.slice A3 n3 c3)).setRow (w.heap.size + 1) C3) := HX3.out.rowSet (by omega) _
  have hlt : w.heap.size + 1 < w.heap.size + 1 + 1 := by omega
  have hb := But.setRow (w.heap.size + 1) (w3.setCell ⟨w.heap.size, 4, none⟩ (.slice A3 n3 c3)) C3
  have k1 := G1.out.but hb hlt
  have k2 := G2.out.but hb hlt
  have k3 := G3.out.but hb hlt
  have hl : w.heap.size ≤ w.heap.size + 1 + 1 := by omega
  refine ⟨⟨⟨r.st, r.au, ⟨A1, c1, r.ap.xs⟩, ⟨A2, c2, r.fa.xs⟩, A3, c3, r.log⟩, by rw [HFIN.out]; rfl, rfl, ⟨H.out.st, H.out.au, k1.low hl, k2.low hl, k3.low hl⟩⟩, XF⟩
end Bk
end Go.Proofs.YtfnmgcblhebdbaaGreatDoor
