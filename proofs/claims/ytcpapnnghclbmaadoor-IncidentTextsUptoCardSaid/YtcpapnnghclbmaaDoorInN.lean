/- The law's awake: its contract. Conditions: those of each theorem. -/
import Derived.Test.YtcpapnnghclbmaaDoorInM
import Derived.Test.YtcpapnnghclbmaaDoorInL
namespace Go.Proofs.YtcpapnnghclbmaaDoor
open Go.RowKit

namespace In
theorem aw1 : printV (1, 120, 30, 1) = [112, 111, 119, 101, 114, 32, 97, 116, 32, 49, 50, 48, 32, 108, 111, 115, 116, 32, 51, 48, 32, 103, 114, 97, 118, 101, 32, 49] := by simp [printV, line, vld, word, Lib.itoa, Lib.decDigits]
theorem aw2 : parseP (pcs ⟨#[112, 111, 119, 101, 114, 32, 97, 116, 32, 49, 50, 48, 32, 108, 111, 115, 116, 32, 51, 48, 32, 103, 114, 97, 118, 101, 32, 49]⟩) = ((1, 120, 30, 1), 0) := by decide +kernel
theorem aw3 : parseP (pcs ⟨#[112, 111, 119, 101, 114, 32, 97, 116, 32, 48, 55, 32, 108, 111, 115, 116, 32, 48, 32, 103, 114, 97, 118, 101, 32, 48]⟩) = (zero, 2) := by decide +kernel
theorem aw4 : parseP (pcs ⟨#[112, 111, 119, 101, 114, 32, 97, 116, 32, 49, 32, 108, 111, 115, 116, 32, 48, 32, 103, 114, 97, 118, 101, 32, 57, 57, 57, 57, 57, 57, 57, 57, 57, 57, 57, 57, 57, 57, 57, 57, 57, 57, 57, 57]⟩) = (zero, 3) := by decide +kernel
theorem aw5 : srt [(3, 5, 0, 0), (4, 2, 50, 2), (3, 5, 0, 0), (1, 120, 30, 1)] = [(4, 2, 50, 2), (3, 5, 0, 0), (3, 5, 0, 0), (1, 120, 30, 1)] := by
  unfold srt
  have h1 : lt (4, 2, 50, 2) (3, 5, 0, 0) = true := by decide +kernel
  have h2 : lt (1, 120, 30, 1) (3, 5, 0, 0) = false := by decide +kernel
  have h3 : lt (3, 5, 0, 0) (4, 2, 50, 2) = false := by decide +kernel
  have h4 : lt (3, 5, 0, 0) (3, 5, 0, 0) = false := by decide +kernel
  simp [List.mergeSort, List.MergeSort.Internal.splitInTwo, h1, h2, h3, h4]
theorem aw6 : mrg [(3, 5, 0, 0), (4, 2, 50, 2)] [(3, 5, 0, 0), (1, 120, 30, 1)] = [(4, 2, 50, 2), (3, 5, 0, 0), (1, 120, 30, 1)] := by
  unfold mrg
  rw [show ([(3, 5, 0, 0), (4, 2, 50, 2)] : List Inc) ++ [(3, 5, 0, 0), (1, 120, 30, 1)] = [(3, 5, 0, 0), (4, 2, 50, 2), (3, 5, 0, 0), (1, 120, 30, 1)] from rfl, aw5]
  decide +kernel
theorem aw7 : merE [(3, 5, 0, 0), (4, 2, 50, 2)] [(3, 5, 0, 0), (1, 120, 30, 1)] = 0 := by
  unfold merE
  rw [aw6]
  decide +kernel
theorem aw8 : merL [(3, 5, 0, 0), (4, 2, 50, 2)] [(3, 5, 0, 0), (1, 120, 30, 1)] = [(4, 2, 50, 2), (3, 5, 0, 0), (1, 120, 30, 1)] := by
  unfold merL
  rw [aw7, if_pos rfl, aw6]
theorem ok_all {l : List Inc} (h : (l.map vld).all (· == 0) = true) : ∀ p ∈ l, ok64 p := fun p hp => ok_of_vld (by
  have := List.all_eq_true.1 h (vld p) (List.mem_map_of_mem hp)
  simpa using this)
end In
theorem print_to (p : In.Inc) {l : List UInt8} {v : Int} (hl : In.printV p = l) (hv : In.vld p = v) (w : World) (ht : Tab w) :
    Calls Tryd.prog 25 #[.agg #[.int .i64 p.1, .int .i64 p.2.1, .int .i64 p.2.2.1, .int .i64 p.2.2.2]] w fun e w' => e = .returned (.tuple #[.string (In.str l), .int .i64 v]) ∧ Ext w w' := by
  subst hl hv
  exact print_any p w ht
theorem parse_to (s : ByteArray) (hs : s.size ≤ 140737488355328) (w : World) {r : In.Inc} {er : Int} (hr : In.parseP (In.pcs s) = (r, er)) :
    Calls Tryd.prog 27 #[.string s] w fun e w' => e = .returned (.tuple #[.agg #[.int .i64 r.1, .int .i64 r.2.1, .int .i64 r.2.2.1, .int .i64 r.2.2.2], .int .i64 er]) ∧ Ext w w' := parse_any s hs w hr
theorem merge_to (A : Option Addr) (c : Nat) (a : List In.Inc) (B : Option Addr) (d : Nat) (b : List In.Inc) {n m k : Nat} {ms : List In.Inc} {er : Int} (hn : a.length = n) (hm : b.length = m) (hms : In.merL a b = ms) (hk : ms.length = k) (he : In.merE a b = er) (w : World) (h : (⟨A, c, a⟩ : NL).In w) (h2 : (⟨B, d, b⟩ : NL).In w) :
    Calls Tryd.prog 10 #[.slice A n c, .slice B m d] w fun e w' => ∃ (X : Option Addr) (xc : Nat), e = .returned (.tuple #[.slice X k xc, .int .i64 er]) ∧ (⟨X, xc, ms⟩ : NL).In w' ∧ Ext w w' := by
  subst hn hm hms hk he
  exact merge_any A c a B d b w h h2
theorem lost_to (A : Option Addr) (c : Nat) (ps : List In.Inc) (most : Int) {n : Nat} {er : Int} (hn : ps.length = n) {t : Int} (ht : In.lostV ps most = t) (he : In.chk ps = er) (w : World) (h : (⟨A, c, ps⟩ : NL).In w) :
    Calls Tryd.prog 16 #[.slice A n c, .int .i64 most] w fun e w' => e = .returned (.tuple #[.int .i64 t, .int .i64 er]) ∧ Ext w w' := by
  subst hn ht he
  exact lost_any A c ps most w h
theorem worst_to (A : Option Addr) (c : Nat) (ps : List In.Inc) {n : Nat} {er : Int} (hn : ps.length = n) {t : Int} (ht : In.worstV ps = t) (he : In.chk ps = er) (w : World) (h : (⟨A, c, ps⟩ : NL).In w) :
    Calls Tryd.prog 18 #[.slice A n c] w fun e w' => e = .returned (.tuple #[.int .i64 t, .int .i64 er]) ∧ Ext w w' := by
  subst hn ht he
  exact worst_any A c ps w h
theorem hold_to (A : Option Addr) (c : Nat) (ps : List In.Inc) {n : Nat} {er : Int} (hn : ps.length = n) {t : Bool} (ht : In.holdV ps = t) (he : In.chk ps = er) (w : World) (h : (⟨A, c, ps⟩ : NL).In w) :
    Calls Tryd.prog 20 #[.slice A n c] w fun e w' => e = .returned (.tuple #[.bool t, .int .i64 er]) ∧ Ext w w' := by
  subst hn ht he
  exact hold_any A c ps w h
theorem counts_to (A : Option Addr) (c : Nat) (ps : List In.Inc) {n k : Nat} {xs : List Int} {er : Int} (hn : ps.length = n) (hx : In.countV ps = xs) (hk : xs.length = k) (he : In.chk ps = er) (w : World) (h : (⟨A, c, ps⟩ : NL).In w) :
    Calls Tryd.prog 22 #[.slice A n c] w fun e w' => (∃ (X : Option Addr) (xc : Nat), e = .returned (.tuple #[.slice X k xc, .int .i64 er]) ∧ SlI w' X xs) ∧ Ext w w' := by
  subst hn hx hk he
  exact counts_any A c ps w h
theorem nl_new (w : World) (ps : List In.Inc) {n : Nat} (hn : ps.length = n) (cs : Array Value) (hcs : cs.toList = (ps.map In.cells).flatten) (t : TypeId) (hok : ∀ p ∈ ps, In.ok64 p) (hb : n ≤ 1000) : (⟨some ⟨w.heap.size, 0, none⟩, n, ps⟩ : NL).In (w.alloc (.cells cs t)) := by
  refine ⟨Or.inr ⟨w.heap.size, 0, rfl, by simp, fun i c hi j v hv => ?_⟩, by simp only; omega, by simp only; unfold maxLen; omega, hok⟩
  have h4 : ∀ c ∈ ps.map In.cells, c.length = 4 := (inc_cells ps).1
  have := flatten_at h4 hi hv
  rw [← hcs] at this
  rw [World.cell?_alloc_new, Nat.zero_add]
  simpa using this
theorem nl_new_at (w : World) (ps : List In.Inc) {n g : Nat} (hg : g = w.heap.size) (hn : ps.length = n) (cs : Array Value) (hcs : cs.toList = (ps.map In.cells).flatten) (t : TypeId) (hok : ∀ p ∈ ps, In.ok64 p) (hb : n ≤ 1000) : (⟨some ⟨g, 0, none⟩, n, ps⟩ : NL).In (w.alloc (.cells cs t)) := by
  subst hg
  exact nl_new w ps hn cs hcs t hok hb
theorem sli_six (w : World) (a b c d e f : Int) (t : TypeId) : SlI (w.alloc (.cells #[.int .i64 a, .int .i64 b, .int .i64 c, .int .i64 d, .int .i64 e, .int .i64 f] t)) (some ⟨w.heap.size, 0, none⟩) [a, b, c, d, e, f] := Sl.new w [.int .i64 a, .int .i64 b, .int .i64 c, .int .i64 d, .int .i64 e, .int .i64 f] t
theorem BlkAt.new_at (w : World) (a b c d : Int) (t : TypeId) (n : Nat) (hn : n = w.heap.size) : BlkAt (w.alloc (.cells #[.int .i64 a, .int .i64 b, .int .i64 c, .int .i64 d] t)) n a b c d := by
  subst hn
  exact BlkAt.new w a b c d t
/-- The three examples lie in three blocks. -/
def Three (w : World) (b : Nat) : Prop := BlkAt w b 1 120 30 1 ∧ BlkAt w (b + 1) 4 2 50 2 ∧ BlkAt w (b + 1 + 1) 3 5 0 0
theorem Three.ext {w w' : World} {b : Nat} (h : Three w b) (he : Ext w w') : Three w' b := ⟨h.1.ext he, h.2.1.ext he, h.2.2.ext he⟩
set_option maxRecDepth 100000 in
set_option maxHeartbeats 12800000 in
theorem awake_any (w : World) (ht : Tab w) : Calls Tryd.prog 15 #[] w fun e w' => e = .returned (.bool true) ∧ Ext w w' := by
  have HT := Lib.hid ht
  clear ht
  go_enter Tryd.func15, Tryd.ntmps15
  go_wp2_with fail
  have x0 : Ext w (((w.alloc (.cells #[.int .i64 1, .int .i64 120, .int .i64 30, .int .i64 1] 23)).alloc (.cells #[.int .i64 4, .int .i64 2, .int .i64 50, .int .i64 2] 23)).alloc (.cells #[.int .i64 3, .int .i64 5, .int .i64 0, .int .i64 0] 23)) := (((Ext.refl w).alloc _).alloc _).alloc _
  have T0 : Hid (Three (((w.alloc (.cells #[.int .i64 1, .int .i64 120, .int .i64 30, .int .i64 1] 23)).alloc (.cells #[.int .i64 4, .int .i64 2, .int .i64 50, .int .i64 2] 23)).alloc (.cells #[.int .i64 3, .int .i64 5, .int .i64 0, .int .i64 0] 23)) w.heap.size) := Lib.hid ⟨((BlkAt.new w 1 120 30 1 _).ext (((Ext.refl _).alloc _).alloc _)), ((BlkAt.new_at (w.alloc (.cells #[.int .i64 1, .int .i64 120, .int .i64 30, .int .i64 1] 23)) 4 2 50 2 _ _ (by simp)).ext ((Ext.refl _).alloc _)), BlkAt.new_at _ 3 5 0 0 _ _ (by simp)⟩
  refine (print_to (1, 120, 30, 1) (v := 0) In.aw1 (by decide) _ (HT.out.ext x0)).mono ?_
  rintro e w1 ⟨rfl, hb1⟩
  have x1 := x0.trans hb1
  have T1 := Lib.hid (T0.out.ext hb1)
  obtain ⟨sv, hsv⟩ : ∃ sv, In.str [112, 111, 119, 101, 114, 32, 97, 116, 32, 49, 50, 48, 32, 108, 111, 115, 116, 32, 51, 48, 32, 103, 114, 97, 118, 101, 32, 49] = sv := ⟨_, rfl⟩
  have t1 : sv.toList = [112, 111, 119, 101, 114, 32, 97, 116, 32, 49, 50, 48, 32, 108, 111, 115, 116, 32, 51, 48, 32, 103, 114, 97, 118, 101, 32, 49] := In.tlT hsv.symm
  rw [hsv]
  clear hsv hb1 T0
  go_wp2_with fail
  refine (parse_to ⟨#[112, 111, 119, 101, 114, 32, 97, 116, 32, 49, 50, 48, 32, 108, 111, 115, 116, 32, 51, 48, 32, 103, 114, 97, 118, 101, 32, 49]⟩ (by decide) _ In.aw2).mono ?_
  rintro e w2 ⟨rfl, hb2⟩
  have x2 := x1.trans hb2
  have T2 := Lib.hid (T1.out.ext hb2)
  clear hb2 T1
  obtain ⟨pg, ⟨p0, p1, p2, p3⟩, -⟩ := T2.out.1
  go_wp2_with fail
  clear t1
  clear pg p0 p1 p2 p3
  refine (parse_to ⟨#[112, 111, 119, 101, 114, 32, 97, 116, 32, 48, 55, 32, 108, 111, 115, 116, 32, 48, 32, 103, 114, 97, 118, 101, 32, 48]⟩ (by decide) _ In.aw3).mono ?_
  rintro e w3 ⟨rfl, hb3⟩
  have x3 := (x2.alloc _).trans hb3
  have T3 := Lib.hid (T2.out.ext (((Ext.refl _).alloc _).trans hb3))
  clear hb3 T2
  go_wp2_with fail
  refine (parse_to ⟨#[112, 111, 119, 101, 114, 32, 97, 116, 32, 49, 32, 108, 111, 115, 116, 32, 48, 32, 103, 114, 97, 118, 101, 32, 57, 57, 57, 57, 57, 57, 57, 57, 57, 57, 57, 57, 57, 57, 57, 57, 57, 57, 57, 57]⟩ (by decide) _ In.aw4).mono ?_
  rintro e w4 ⟨rfl, hb4⟩
  have x4 := x3.trans hb4
  have T4 := Lib.hid (T3.out.ext hb4)
  clear hb4 T3
  obtain ⟨pg, ⟨p0, p1, p2, p3⟩, -⟩ := T4.out.1
  go_wp2_with fail
  clear pg p0 p1 p2 p3
  refine (valid_to (1, 120, 30, 1) (v := 0) (by decide) _).mono ?_
  rintro e w5 ⟨rfl, hb5⟩
  have x5 := x4.trans hb5
  have T5 := Lib.hid (T4.out.ext hb5)
  clear hb5 T4
  go_wp2_with fail
  refine (valid_to (0, -1, 0, 0) (v := 1) (by decide) _).mono ?_
  rintro e w6 ⟨rfl, hb6⟩
  have x6 := x5.trans hb6
  have T6 := Lib.hid (T5.out.ext hb6)
  clear hb6 T5
  go_wp2_with fail
  refine (valid_to (1, 0, 0, 4) (v := 3) (by decide) _).mono ?_
  rintro e w7 ⟨rfl, hb7⟩
  have x7 := x6.trans hb7
  have T7 := Lib.hid (T6.out.ext hb7)
  clear hb7 T6
  obtain ⟨pg, ⟨p0, p1, p2, p3⟩, -⟩ := T7.out.1
  obtain ⟨ag, ⟨a0, a1, a2, a3⟩, -⟩ := T7.out.2.1
  obtain ⟨ng, ⟨n0, n1, n2, n3⟩, -⟩ := T7.out.2.2
  go_wp2_with fail
  clear pg p0 p1 p2 p3
  clear ag a0 a1 a2 a3
  clear ng n0 n1 n2 n3
  have hN1 : (⟨some ⟨w7.heap.size, 0, none⟩, 2, [(3, 5, 0, 0), (4, 2, 50, 2)]⟩ : NL).In ((w7.alloc (.cells #[.int .i64 3, .int .i64 5, .int .i64 0, .int .i64 0, .int .i64 4, .int .i64 2, .int .i64 50, .int .i64 2] 23)).alloc (.cells #[.int .i64 3, .int .i64 5, .int .i64 0, .int .i64 0, .int .i64 1, .int .i64 120, .int .i64 30, .int .i64 1] 23)) := (nl_new_at w7 [(3, 5, 0, 0), (4, 2, 50, 2)] (n := 2) rfl rfl #[.int .i64 3, .int .i64 5, .int .i64 0, .int .i64 0, .int .i64 4, .int .i64 2, .int .i64 50, .int .i64 2] rfl _ (In.ok_all (by decide)) (by omega)).ext ((Ext.refl _).alloc _)
  have hN2 : (⟨some ⟨w7.heap.size + 1, 0, none⟩, 2, [(3, 5, 0, 0), (1, 120, 30, 1)]⟩ : NL).In ((w7.alloc (.cells #[.int .i64 3, .int .i64 5, .int .i64 0, .int .i64 0, .int .i64 4, .int .i64 2, .int .i64 50, .int .i64 2] 23)).alloc (.cells #[.int .i64 3, .int .i64 5, .int .i64 0, .int .i64 0, .int .i64 1, .int .i64 120, .int .i64 30, .int .i64 1] 23)) := nl_new_at (w7.alloc (.cells #[.int .i64 3, .int .i64 5, .int .i64 0, .int .i64 0, .int .i64 4, .int .i64 2, .int .i64 50, .int .i64 2] 23)) [(3, 5, 0, 0), (1, 120, 30, 1)] (n := 2) (by simp) rfl #[.int .i64 3, .int .i64 5, .int .i64 0, .int .i64 0, .int .i64 1, .int .i64 120, .int .i64 30, .int .i64 1] rfl _ (In.ok_all (by decide)) (by omega)
  have HN1 := Lib.hid hN1
  have HN2 := Lib.hid hN2
  clear hN1 hN2
  with_reducible refine (merge_to (some ⟨w7.heap.size, 0, none⟩) 2 [(3, 5, 0, 0), (4, 2, 50, 2)] (some ⟨w7.heap.size + 1, 0, none⟩) 2 [(3, 5, 0, 0), (1, 120, 30, 1)] (n := 2) (m := 2) (k := 3) rfl rfl In.aw8 rfl In.aw7 _ HN1.out HN2.out).mono ?_
  rintro e w8 ⟨X, xc, rfl, hX8, hb8⟩
  have x8 := ((x7.alloc _).alloc _).trans hb8
  have T8 := Lib.hid (T7.out.ext ((((Ext.refl _).alloc _).alloc _).trans hb8))
  have HX8 := Lib.hid hX8
  clear hb8 T7 hX8
  obtain ⟨pg, ⟨p0, p1, p2, p3⟩, -⟩ := T8.out.1
  obtain ⟨ag, ⟨a0, a1, a2, a3⟩, -⟩ := T8.out.2.1
  obtain ⟨ng, ⟨n0, n1, n2, n3⟩, -⟩ := T8.out.2.2
  go_wp2_with fail
  clear pg p0 p1 p2 p3
  clear ag a0 a1 a2 a3
  clear ng n0 n1 n2 n3
  have hN3 : (⟨some ⟨w8.heap.size, 0, none⟩, 3, [(4, 2, 50, 2), (3, 5, 0, 0), (1, 120, 30, 1)]⟩ : NL).In (w8.alloc (.cells #[.int .i64 4, .int .i64 2, .int .i64 50, .int .i64 2, .int .i64 3, .int .i64 5, .int .i64 0, .int .i64 0, .int .i64 1, .int .i64 120, .int .i64 30, .int .i64 1] 23)) := nl_new_at w8 [(4, 2, 50, 2), (3, 5, 0, 0), (1, 120, 30, 1)] (n := 3) rfl rfl #[.int .i64 4, .int .i64 2, .int .i64 50, .int .i64 2, .int .i64 3, .int .i64 5, .int .i64 0, .int .i64 0, .int .i64 1, .int .i64 120, .int .i64 30, .int .i64 1] rfl _ (In.ok_all (by decide)) (by omega)
  have HN3 := Lib.hid hN3
  clear hN3 HN1 HN2
  have HS8 : Hid (SlN (w8.alloc (.cells #[.int .i64 4, .int .i64 2, .int .i64 50, .int .i64 2, .int .i64 3, .int .i64 5, .int .i64 0, .int .i64 0, .int .i64 1, .int .i64 120, .int .i64 30, .int .i64 1] 23)) X [(4, 2, 50, 2), (3, 5, 0, 0), (1, 120, 30, 1)]) := Lib.hid (HX8.out.1.ext ((Ext.refl _).alloc _))
  have HS3 := Lib.hid HN3.out.1
  with_reducible refine (same_eq X xc (some ⟨w8.heap.size, 0, none⟩) 3 [(4, 2, 50, 2), (3, 5, 0, 0), (1, 120, 30, 1)] 3 rfl _ HS8.out HS3.out (by omega)).mono ?_
  rintro e w9 ⟨rfl, hb9⟩
  have x9 := (x8.alloc _).trans hb9
  have T9 := Lib.hid (T8.out.ext (((Ext.refl _).alloc _).trans hb9))
  have HX9 := Lib.hid (HX8.out.ext (((Ext.refl _).alloc _).trans hb9))
  clear hb9 T8 HX8
  go_wp2_with fail
  with_reducible refine (lost_to X xc [(4, 2, 50, 2), (3, 5, 0, 0), (1, 120, 30, 1)] 100 (n := 3) (t := 30) (er := 0) rfl (by decide +kernel) (by decide +kernel) _ HX9.out).mono ?_
  rintro e w10 ⟨rfl, hb10⟩
  have x10 := x9.trans hb10
  have T10 := Lib.hid (T9.out.ext hb10)
  have HX10 := Lib.hid (HX9.out.ext hb10)
  clear hb10 T9 HX9
  go_wp2_with fail
  with_reducible refine (lost_to X xc [(4, 2, 50, 2), (3, 5, 0, 0), (1, 120, 30, 1)] 20 (n := 3) (t := 20) (er := 0) rfl (by decide +kernel) (by decide +kernel) _ HX10.out).mono ?_
  rintro e w11 ⟨rfl, hb11⟩
  have x11 := x10.trans hb11
  have T11 := Lib.hid (T10.out.ext hb11)
  have HX11 := Lib.hid (HX10.out.ext hb11)
  clear hb11 T10 HX10
  go_wp2_with fail
  with_reducible refine (worst_to X xc [(4, 2, 50, 2), (3, 5, 0, 0), (1, 120, 30, 1)] (n := 3) (t := 2) (er := 0) rfl (by decide +kernel) (by decide +kernel) _ HX11.out).mono ?_
  rintro e w12 ⟨rfl, hb12⟩
  have x12 := x11.trans hb12
  have T12 := Lib.hid (T11.out.ext hb12)
  have HX12 := Lib.hid (HX11.out.ext hb12)
  clear hb12 T11 HX11
  go_wp2_with fail
  with_reducible refine (hold_to X xc [(4, 2, 50, 2), (3, 5, 0, 0), (1, 120, 30, 1)] (n := 3) (t := false) (er := 0) rfl (by decide +kernel) (by decide +kernel) _ HX12.out).mono ?_
  rintro e w13 ⟨rfl, hb13⟩
  have x13 := x12.trans hb13
  have T13 := Lib.hid (T12.out.ext hb13)
  have HX13 := Lib.hid (HX12.out.ext hb13)
  clear hb13 T12 HX12
  obtain ⟨ag, ⟨a0, a1, a2, a3⟩, -⟩ := T13.out.2.1
  go_wp2_with fail
  clear ag a0 a1 a2 a3
  have hN4 : (⟨some ⟨w13.heap.size, 0, none⟩, 2, [(4, 2, 50, 2), (4, 2, 50, 2)]⟩ : NL).In (w13.alloc (.cells #[.int .i64 4, .int .i64 2, .int .i64 50, .int .i64 2, .int .i64 4, .int .i64 2, .int .i64 50, .int .i64 2] 23)) := nl_new_at w13 [(4, 2, 50, 2), (4, 2, 50, 2)] (n := 2) rfl rfl #[.int .i64 4, .int .i64 2, .int .i64 50, .int .i64 2, .int .i64 4, .int .i64 2, .int .i64 50, .int .i64 2] rfl _ (In.ok_all (by decide)) (by omega)
  have HN4 := Lib.hid hN4
  clear hN4
  with_reducible refine (hold_to (some ⟨w13.heap.size, 0, none⟩) 2 [(4, 2, 50, 2), (4, 2, 50, 2)] (n := 2) (t := true) (er := 0) rfl (by decide +kernel) (by decide +kernel) _ HN4.out).mono ?_
  rintro e w14 ⟨rfl, hb14⟩
  have x14 := (x13.alloc _).trans hb14
  have HX14 := Lib.hid (HX13.out.ext (((Ext.refl _).alloc _).trans hb14))
  clear hb14 T13 HX13
  go_wp2_with fail
  with_reducible refine (counts_to X xc [(4, 2, 50, 2), (3, 5, 0, 0), (1, 120, 30, 1)] (n := 3) (k := 6) (xs := [1, 0, 1, 1, 0, 0]) (er := 0) rfl (by decide +kernel) rfl (by decide +kernel) _ HX14.out).mono ?_
  rintro e w15 ⟨⟨Y, yc, rfl, hY⟩, hb15⟩
  have x15 := x14.trans hb15
  have HY := Lib.hid hY
  clear hb15 hY HX14
  go_wp2_with fail
  with_reducible refine (sameInts_eq Y yc (some ⟨w15.heap.size, 0, none⟩) 6 [1, 0, 1, 1, 0, 0] 6 rfl _ (HY.out.ext ((Ext.refl _).alloc _)) (sli_six w15 1 0 1 1 0 0 _) (by omega)).mono ?_
  rintro e w16 ⟨rfl, hb16⟩
  have x16 := (x15.alloc _).trans hb16
  clear hb16 HY
  go_wp2
  go_ret
  exact ⟨rfl, x16⟩
end Go.Proofs.YtcpapnnghclbmaaDoor
