/- incident.word, strconv.Itoa, incident.Print: contracts. Conditions: those of each theorem. -/
import Derived.Test.YtcpapnnghclbmaaDoorInA
import Derived.Test.YtcpapnnghclbmaaDoorShIn
import Derived.Lib.SmallJoins
import Derived.Lib.AppendIntMem
namespace Go.Proofs.YtcpapnnghclbmaaDoor
open Go.RowKit Go.Sort

/-- The table of powers lies there. -/
def Tab (w : World) : Prop := Lib.TabIs Tryd.prog w "internal/strconv.uint64pow10" .u64 Lib.pow10Tab
theorem Tab.ext {w w' : World} (h : Tab w) (he : Ext w w') : Tab w' := Lib.tabBelow_of_tabIs h w' he
theorem grow_ext (w : World) (k : Nat) (os : Array Obj) : Ext w (grow (w.drewN k) os) := by
  refine ⟨rfl, rfl, rfl, ?_, fun i hi => ?_⟩
  · show _ ≤ (w.heap ++ os).size
    simp
  · show (w.heap ++ os)[i]? = _
    rw [Array.getElem?_append_left hi]
namespace In
def str (l : List UInt8) : ByteArray := ⟨l.toArray⟩
theorem str_append (a b : List UInt8) : str a ++ str b = str (a ++ b) := by
  apply ByteArray.ext
  simp [str]
theorem str_size (l : List UInt8) : (str l).size = l.length := by simp [str, ByteArray.size]
theorem str_inj {a b : List UInt8} (h : str a = str b) : a = b := congrArg (fun s : ByteArray => s.data.toList) h
theorem str_eta (s : ByteArray) : str s.data.toList = s := rfl
/-- The word of a kind. -/
def word (k : Int) : List UInt8 := if k = 1 then [112, 111, 119, 101, 114] else if k = 2 then [110, 101, 116, 119, 111, 114, 107] else if k = 3 then [110, 111, 105, 115, 101] else if k = 4 then [97, 105, 100] else if k = 5 then [105, 109, 112, 111, 115, 116, 101, 114] else if k = 6 then [111, 116, 104, 101, 114] else []
theorem word_len (k : Int) : (word k).length ≤ 8 := by
  unfold word
  repeat (split <;> try (simp; done))
/-- The line of an incident. -/
def line (p : Inc) : List UInt8 := word p.1 ++ [32, 97, 116, 32] ++ Lib.itoa p.2.1 ++ [32, 108, 111, 115, 116, 32] ++ Lib.itoa p.2.2.1 ++ [32, 103, 114, 97, 118, 101, 32] ++ Lib.itoa p.2.2.2
def printV (p : Inc) : List UInt8 := if vld p ≠ 0 then [] else line p
theorem decDigits_len : ∀ (k u : Nat), u < 10 ^ (k + 1) → (Lib.decDigits u).length ≤ k + 1
  | 0, u, h => by
    unfold Lib.decDigits
    rw [dif_pos (by simpa using h)]; simp
  | k + 1, u, h => by
    unfold Lib.decDigits
    by_cases h10 : u < 10
    · rw [dif_pos h10]; simp
    · rw [dif_neg h10, List.length_append]
      have := decDigits_len k (u / 10) (by rw [Nat.pow_succ] at h; omega)
      simp; omega
theorem itoa_len {n : Int} (h0 : 0 ≤ n) (h1 : n ≤ 1099511627776) : (Lib.itoa n).length ≤ 14 := by
  unfold Lib.itoa
  rw [if_neg (by omega)]
  exact decDigits_len 13 _ (by omega)
end In
theorem ret_str {a b : ByteArray} (h : a = b) : Ending.returned (.string a) = .returned (.string b) := by rw [h]
theorem ret_str2 {a b : ByteArray} {k : IntKind} {x y : Int} (h : a = b) (g : x = y) : Ending.returned (.tuple #[.string a, .int k x]) = .returned (.tuple #[.string b, .int k y]) := by rw [h, g]
theorem itoa_to {n : Int} {l : List UInt8} (hl : Lib.itoa n = l) (h0 : 0 ≤ n) (h1 : n ≤ 1099511627776) (w : World) (ht : Tab w) :
    Calls Tryd.prog 39 #[.int .i64 n] w fun e w' => e = .returned (.string (In.str l)) ∧ Ext w w' := by
  subst hl
  refine (Tryd.strconv_Itoa n (by omega) (by omega) w ht).mono ?_
  rintro e w' ⟨rfl, k, os, rfl⟩
  exact ⟨rfl, grow_ext w k os⟩
set_option maxRecDepth 100000 in
set_option maxHeartbeats 1600000 in
theorem word_any (k : Int) (w : World) : Calls Tryd.prog 38 #[.int .i64 k] w fun e w' => e = .returned (.string (In.str (In.word k))) ∧ w' = w := by
  have hc : k = 1 ∨ k = 2 ∨ k = 3 ∨ k = 4 ∨ k = 5 ∨ k = 6 ∨ (k ≠ 1 ∧ k ≠ 2 ∧ k ≠ 3 ∧ k ≠ 4 ∧ k ≠ 5 ∧ k ≠ 6) := by omega
  rcases hc with rfl | rfl | rfl | rfl | rfl | rfl | ⟨h1, h2, h3, h4, h5, h6⟩
  · go_enter Tryd.func38, Tryd.ntmps38
    go_wp2
    go_ret
    exact ⟨rfl, rfl⟩
  · go_enter Tryd.func38, Tryd.ntmps38
    go_wp2
    go_ret
    exact ⟨rfl, rfl⟩
  · go_enter Tryd.func38, Tryd.ntmps38
    go_wp2
    go_ret
    exact ⟨rfl, rfl⟩
  · go_enter Tryd.func38, Tryd.ntmps38
    go_wp2
    go_ret
    exact ⟨rfl, rfl⟩
  · go_enter Tryd.func38, Tryd.ntmps38
    go_wp2
    go_ret
    exact ⟨rfl, rfl⟩
  · go_enter Tryd.func38, Tryd.ntmps38
    go_wp2
    go_ret
    exact ⟨rfl, rfl⟩
  · have HW : Hid (In.word k = []) := Lib.hid (by unfold In.word; rw [if_neg h1, if_neg h2, if_neg h3, if_neg h4, if_neg h5, if_neg h6])
    have q1 : (k == 1) = false := by rw [beq_eq_false_iff_ne]; exact h1
    have q2 : (k == 2) = false := by rw [beq_eq_false_iff_ne]; exact h2
    have q3 : (k == 3) = false := by rw [beq_eq_false_iff_ne]; exact h3
    have q4 : (k == 4) = false := by rw [beq_eq_false_iff_ne]; exact h4
    have q5 : (k == 5) = false := by rw [beq_eq_false_iff_ne]; exact h5
    have q6 : (k == 6) = false := by rw [beq_eq_false_iff_ne]; exact h6
    clear h1 h2 h3 h4 h5 h6
    go_enter Tryd.func38, Tryd.ntmps38
    go_wp2
    go_ret
    exact ⟨ret_str (by rw [HW.out]; rfl), rfl⟩
theorem word_to {k : Int} {l : List UInt8} (hl : In.word k = l) (w : World) : Calls Tryd.prog 38 #[.int .i64 k] w fun e w' => e = .returned (.string (In.str l)) ∧ w' = w := by
  subst hl
  exact word_any k w
set_option maxRecDepth 100000 in
set_option maxHeartbeats 3200000 in
theorem print_any (p : In.Inc) (w : World) (ht : Tab w) : Calls Tryd.prog 25 #[In.agg p] w fun e w' => e = .returned (.tuple #[.string (In.str (In.printV p)), .int .i64 (In.vld p)]) ∧ Ext w w' := by
  obtain ⟨p1, p2, p3, p4⟩ := p
  unfold In.agg
  simp only
  obtain ⟨v, hv⟩ : ∃ v, In.vld (p1, p2, p3, p4) = v := ⟨_, rfl⟩
  have HV := Lib.hid hv
  have HT := Lib.hid ht
  clear hv ht
  by_cases hz : v = 0
  · have hz' : (v != 0) = false := by rw [hz]; rfl
    have HVZ : Hid (In.vld (p1, p2, p3, p4) = 0) := Lib.hid (by rw [HV.out, hz])
    obtain ⟨⟨v1, v2⟩, ⟨v3, v4⟩, ⟨v5, v6⟩, ⟨v7, v8⟩⟩ := In.vld_zero.1 HVZ.out
    simp only at v1 v2 v3 v4 v5 v6 v7 v8
    obtain ⟨sw, hsw⟩ : ∃ l, In.word p1 = l := ⟨_, rfl⟩
    obtain ⟨st, hst⟩ : ∃ l, Lib.itoa p2 = l := ⟨_, rfl⟩
    obtain ⟨sl, hsl⟩ : ∃ l, Lib.itoa p3 = l := ⟨_, rfl⟩
    obtain ⟨sg, hsg⟩ : ∃ l, Lib.itoa p4 = l := ⟨_, rfl⟩
    have HR : Hid (In.printV (p1, p2, p3, p4) = sw ++ [32, 97, 116, 32] ++ st ++ [32, 108, 111, 115, 116, 32] ++ sl ++ [32, 103, 114, 97, 118, 101, 32] ++ sg) := Lib.hid (by unfold In.printV In.line; rw [if_neg (by rw [HVZ.out]; simp)]; simp only [hsw, hst, hsl, hsg])
    have l1 : (In.str sw).size ≤ 8 := by rw [In.str_size, ← hsw]; exact In.word_len _
    have l2 : (In.str st).size ≤ 14 := by rw [In.str_size, ← hst]; exact In.itoa_len (by omega) (by omega)
    have l3 : (In.str sl).size ≤ 14 := by rw [In.str_size, ← hsl]; exact In.itoa_len (by omega) (by omega)
    have l4 : (In.str sg).size ≤ 14 := by rw [In.str_size, ← hsg]; exact In.itoa_len (by omega) (by omega)
    have m1 : ¬ 9223372036854775807 < (In.str sw).size + 4 := by omega
    have m2 : ¬ 9223372036854775807 < (In.str sw).size + 4 + (In.str st).size := by omega
    have m3 : ¬ 9223372036854775807 < (In.str sw).size + 4 + (In.str st).size + 6 := by omega
    have m4 : ¬ 9223372036854775807 < (In.str sw).size + 4 + (In.str st).size + 6 + (In.str sl).size := by omega
    have m5 : ¬ 9223372036854775807 < (In.str sw).size + 4 + (In.str st).size + 6 + (In.str sl).size + 7 := by omega
    have m6 : ¬ 9223372036854775807 < (In.str sw).size + 4 + (In.str st).size + 6 + (In.str sl).size + 7 + (In.str sg).size := by omega
    have HSW := Lib.hid hsw
    have HST := Lib.hid hst
    have HSL := Lib.hid hsl
    have HSG := Lib.hid hsg
    clear hsw hst hsl hsg hz
    go_enter Tryd.func25, Tryd.ntmps25
    go_wp2_with fail
    refine (valid_to (p1, p2, p3, p4) HV.out _).mono ?_
    rintro e W ⟨rfl, hb1⟩
    obtain ⟨hc1, hf1⟩ := hb1.cells
    have x1 : Ext w W := ((Ext.refl w).alloc _).trans hb1
    have HTW : Hid (Tab W) := Lib.hid (HT.out.ext x1)
    have k0 : W.cell? ⟨w.heap.size, 0, none⟩ = some (.int .i64 p1) := hb1.keep (by simp [go_sem])
    have k1 : W.cell? ⟨w.heap.size, 1, none⟩ = some (.int .i64 p2) := hb1.keep (by simp [go_sem])
    have k2 : W.cell? ⟨w.heap.size, 2, none⟩ = some (.int .i64 p3) := hb1.keep (by simp [go_sem])
    have k3 : W.cell? ⟨w.heap.size, 3, none⟩ = some (.int .i64 p4) := hb1.keep (by simp [go_sem])
    clear hc1 hf1
    go_wp2_with fail
    have hdr : Ext W W.drew := (Ext.refl W).drew
    go_region_held3 (fun w' => w'.cell? ⟨w.heap.size, 0, none⟩ = some (.int .i64 p1) ∧ w'.cell? ⟨w.heap.size, 1, none⟩ = some (.int .i64 p2) ∧ w'.cell? ⟨w.heap.size, 2, none⟩ = some (.int .i64 p3) ∧ w'.cell? ⟨w.heap.size, 3, none⟩ = some (.int .i64 p4))
      (first
        | (with_reducible exact ⟨hdr.keep k0, hdr.keep k1, hdr.keep k2, hdr.keep k3⟩)
        | (with_reducible exact ⟨hE4.keep k0, hE4.keep k1, hE4.keep k2, hE4.keep k3⟩)
        | (with_reducible exact ⟨hE3.keep k0, hE3.keep k1, hE3.keep k2, hE3.keep k3⟩)
        | (with_reducible exact ⟨hE2.keep k0, hE2.keep k1, hE2.keep k2, hE2.keep k3⟩))
      (first
        | (have hq := hE3; go_at_call 39; clear hq; (with_reducible refine (itoa_to HSG.out (by omega) (by omega) _ (HTW.out.ext hE3)).mono ?_); rintro e w4 ⟨rfl, hb4⟩; have hE4 : Ext W w4 := hE3.trans hb4)
        | (have hq := hE2; go_at_call 39; clear hq; (with_reducible refine (itoa_to HSL.out (by omega) (by omega) _ (HTW.out.ext hE2)).mono ?_); rintro e w3 ⟨rfl, hb3⟩; have hE3 : Ext W w3 := hE2.trans hb3)
        | (go_at_call 39; (with_reducible refine (itoa_to HST.out (by omega) (by omega) _ (HTW.out.ext hdr)).mono ?_); rintro e w2 ⟨rfl, hb2⟩; have hE2 : Ext W w2 := hdr.trans hb2)
        | (go_at_call 38; (with_reducible refine (word_to HSW.out _).mono ?_); rintro e w5 ⟨rfl, rfl⟩))
    go_wp2
    go_ret2
    refine ⟨ret_str2 ?_ HVZ.out.symm, x1.trans hE4⟩
    rw [HR.out, ← In.str_append, ← In.str_append, ← In.str_append, ← In.str_append, ← In.str_append, ← In.str_append]
    rfl
  · have hz' : (v != 0) = true := by rw [bne_iff_ne]; exact hz
    have HR : Hid (In.printV (p1, p2, p3, p4) = []) := Lib.hid (by unfold In.printV; rw [if_pos (by rw [HV.out]; exact hz)])
    clear hz
    go_enter Tryd.func25, Tryd.ntmps25
    go_wp2_with fail
    refine (valid_to (p1, p2, p3, p4) HV.out _).mono ?_
    rintro e W ⟨rfl, hb1⟩
    go_wp2
    go_ret2
    exact ⟨ret_str2 (by rw [HR.out]; rfl) HV.out.symm, ((Ext.refl w).alloc _).trans hb1⟩
end Go.Proofs.YtcpapnnghclbmaaDoor
