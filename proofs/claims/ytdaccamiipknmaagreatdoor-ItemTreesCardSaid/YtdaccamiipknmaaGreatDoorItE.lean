/- Equality of lists, add, the reference's Diff, the law's sameNames and contains: contracts. Conditions: those of each theorem. -/
import Derived.Test.YtdaccamiipknmaaGreatDoorItB
namespace Go.Proofs.YtdaccamiipknmaaGreatDoor
open Go.RowKit

namespace It
def eqI (xs ys : List Int) : Bool := decide (xs = ys)
def eqS (xs ys : List ByteArray) : Bool := decide (xs = ys)
def eqB (a b : ByteArray) : Bool := decide (a = b)
theorem neqB (a b : ByteArray) : (a.toList != b.toList) = !eqB a b := by
  unfold eqB
  by_cases h : a = b
  · subst h; simp
  · have : ¬ (a.toList = b.toList) := fun e => h (by
      rw [ByteArray.toList_eq, ByteArray.toList_eq] at e
      cases a; cases b; simp at e; rw [e])
    simp [h, this]
theorem beqB (a b : ByteArray) : (a.toList == b.toList) = eqB a b := by
  have := neqB a b
  rw [bne] at this
  cases h : (a.toList == b.toList) <;> cases g : eqB a b <;> simp_all
theorem eq_at {α : Type} {xs ys : List α} (hl : xs.length = ys.length) (h : ∀ i, i < xs.length → xs[i]? = ys[i]?) : xs = ys := by
  apply List.ext_getElem?
  intro i
  by_cases hi : i < xs.length
  · exact h i hi
  · rw [List.getElem?_eq_none (by omega), List.getElem?_eq_none (by omega)]
def addL (xs : List ByteArray) (d : Bool) (name : ByteArray) : List ByteArray := if d then xs ++ [name] else xs
def foldN (ps : List (Bool × ByteArray)) : List ByteArray := ps.foldl (fun xs p => addL xs p.1 p.2) []
theorem foldN_snoc {ps : List (Bool × ByteArray)} {k : Nat} {p : Bool × ByteArray} (h : ps[k]? = some p) : foldN (ps.take (k + 1)) = addL (foldN (ps.take k)) p.1 p.2 := by
  unfold foldN; rw [List.take_add_one, h, List.foldl_append]; rfl
theorem addL_len (xs : List ByteArray) (d : Bool) (name : ByteArray) : (addL xs d name).length ≤ xs.length + 1 := by unfold addL; split <;> simp
theorem addL_no (xs : List ByteArray) (name : ByteArray) : addL xs false name = xs := rfl
theorem addL_yes (xs : List ByteArray) (name : ByteArray) : addL xs true name = xs ++ [name] := rfl
/-- The fields' names, each with whether two items differ there. -/
def pairs (a b : Item) : List (Bool × ByteArray) := [(a.id != b.id, ⟨#[73, 100]⟩), (a.ver != b.ver, ⟨#[86, 101, 114, 115, 105, 111, 110]⟩), (a.kind != b.kind, ⟨#[75, 105, 110, 100]⟩), (!eqB a.stem b.stem, ⟨#[83, 116, 101, 109]⟩), (!eqS a.opts b.opts, ⟨#[79, 112, 116, 105, 111, 110, 115]⟩), (!eqI a.chs b.chs, ⟨#[67, 104, 111, 105, 99, 101, 115]⟩), (a.value != b.value, ⟨#[86, 97, 108, 117, 101]⟩), (a.tol != b.tol, ⟨#[84, 111, 108]⟩), (!eqS a.texts b.texts, ⟨#[84, 101, 120, 116, 115]⟩), (a.pts != b.pts, ⟨#[80, 111, 105, 110, 116, 115]⟩), (!eqB a.cont b.cont, ⟨#[67, 111, 110, 116, 101, 110, 116]⟩), (a.fam != b.fam, ⟨#[70, 97, 109, 105, 108, 121]⟩), (a.set_ != b.set_, ⟨#[83, 101, 116]⟩), (a.wrd != b.wrd, ⟨#[87, 111, 114, 100, 115]⟩), (a.sec != b.sec, ⟨#[83, 101, 99, 111, 110, 100, 115]⟩), (!eqI a.assets b.assets, ⟨#[65, 115, 115, 101, 116, 115]⟩), (a.rub != b.rub, ⟨#[82, 117, 98, 114, 105, 99]⟩)]
/-- The names of the fields in which two items differ. -/
def diff (a b : Item) : List ByteArray := foldN (pairs a b)
theorem foldN_le : ∀ (ps : List (Bool × ByteArray)), (foldN ps).length ≤ ps.length := by
  intro ps
  suffices h : ∀ (ps : List (Bool × ByteArray)) (xs : List ByteArray), (ps.foldl (fun xs p => addL xs p.1 p.2) xs).length ≤ xs.length + ps.length by have := h ps []; simpa [foldN] using this
  intro ps
  induction ps with
  | nil => intro xs; simp
  | cons p ps ih => intro xs; rw [List.foldl_cons]; have := ih (addL xs p.1 p.2); have := addL_len xs p.1 p.2; simp only [List.length_cons]; omega
theorem diff_le (a b : Item) : (diff a b).length ≤ 17 := foldN_le (pairs a b)
end It
theorem hne_of (a b : ByteArray) (h : a ≠ b) : (a.toList != b.toList) = true := by rw [It.neqB]; simp [It.eqB, h]
theorem hbeq_of (a b : ByteArray) (h : a ≠ b) : (a.toList == b.toList) = false := by rw [It.beqB]; simp [It.eqB, h]
theorem heq_of (a b : ByteArray) (h : a = b) : (a.toList != b.toList) = false := by rw [It.neqB]; simp [It.eqB, h]


set_option maxRecDepth 100000 in
set_option maxHeartbeats 3200000 in
theorem rsameInts_any (X : Option Addr) (xc : Nat) (Y : Option Addr) (yc : Nat) (xs ys : List Int) (w : World) (ha : SlI w X xs) (hb : SlI w Y ys) (hl1 : xs.length ≤ 9223372036854775807) (hl2 : ys.length ≤ 9223372036854775807) :
    Calls Tryz.prog 29 #[.slice X xs.length xc, .slice Y ys.length yc] w fun e w' => e = .returned (.bool (It.eqI xs ys)) ∧ Ext w w' := by
  have HA := Lib.hid ha
  have HB := Lib.hid hb
  clear ha hb
  by_cases hln : xs.length = ys.length
  case neg =>
    have HF : Hid (It.eqI xs ys = false) := Lib.hid (decide_eq_false (fun e => hln (by rw [e])))
    have hne : ((xs.length : Int) != (ys.length : Int)) = true := by rw [bne_iff_ne]; omega
    clear hln
    go_enter Tryz.func29, Tryz.ntmps29
    go_wp2
    go_ret
    exact ⟨ret_bool HF.out.symm, Ext.refl _⟩
  have HL := Lib.hid hln
  have hne : ((xs.length : Int) != (ys.length : Int)) = false := by rw [bne_eq_false_iff_eq]; omega
  have hle : xs.length ≤ ys.length := by omega
  clear hln
  go_enter Tryz.func29, Tryz.ntmps29
  go_wp2
  go_loopw [13] (fun i wr => ∃ k : Nat, k ≤ xs.length ∧ i = .int .i64 k ∧ Hid (∀ i, i < k → xs[i]? = ys[i]?) ∧ Ext w wr) (fun i _ => xs.length - (intOf i).toNat)
  case atStart => exact ⟨0, by omega, rfl, Lib.hid (fun i hi => by omega), Ext.refl _⟩
  case round =>
    obtain ⟨k, hk, rfl, HP, he⟩ := hrel
    by_cases hlt : k < xs.length
    · have hlt2 : k < ys.length := by omega
      obtain ⟨gb, go, x, rfl, hgb, hx, x0⟩ := (HA.out.ext he).at_ hlt
      obtain ⟨fb, fo, y, rfl, hfb, hy, y0⟩ := (HB.out.ext he).at_ hlt2
      have ki0 : (0 : Int) ≤ (k : Int) := by omega
      have ki1 : (k : Int) < (xs.length : Int) := by omega
      have ki2 : (k : Int) < (ys.length : Int) := by omega
      have HX := Lib.hid hx
      have HY := Lib.hid hy
      clear hx hy
      by_cases hxy : x = y
      · have HN : Hid (∀ i, i < k + 1 → xs[i]? = ys[i]?) := Lib.hid fun i hi => by
          rcases Nat.lt_or_ge i k with g | g
          · exact HP.out i g
          · obtain rfl : i = k := by omega
            rw [HX.out, HY.out, hxy]
        subst hxy
        have hq : (x != x) = false := by simp
        go_wp2
        go_quiet (fail)
        go_wp2
        go_roundw
        case rel => exact ⟨k + 1, by omega, by go_num, HN, he.drewN _⟩
        case measure => simp [intOf]; omega
      · have HF : Hid (It.eqI xs ys = false) := Lib.hid (decide_eq_false (fun e => hxy (by
          have h1 := HX.out
          rw [e, HY.out] at h1
          exact (Option.some.inj h1).symm)))
        have hq : ((x != y) = true) := by rw [bne_iff_ne]; exact hxy
        clear hxy
        go_wp2
        go_quiet (fail)
        go_wp2
        go_ret
        exact ⟨ret_bool HF.out.symm, he.drewN _⟩
    · have HF : Hid (It.eqI xs ys = true) := Lib.hid (decide_eq_true (It.eq_at HL.out (fun i hi => HP.out i (by omega))))
      go_wp2
      go_ret
      exact ⟨ret_bool HF.out.symm, he⟩


set_option maxRecDepth 100000 in
set_option maxHeartbeats 3200000 in
theorem rsameStrings_any (X : Option Addr) (xc : Nat) (Y : Option Addr) (yc : Nat) (xs ys : List ByteArray) (w : World) (ha : SlS w X xs) (hb : SlS w Y ys) (hl1 : xs.length ≤ 9223372036854775807) (hl2 : ys.length ≤ 9223372036854775807) :
    Calls Tryz.prog 28 #[.slice X xs.length xc, .slice Y ys.length yc] w fun e w' => e = .returned (.bool (It.eqS xs ys)) ∧ Ext w w' := by
  have HA := Lib.hid ha
  have HB := Lib.hid hb
  clear ha hb
  by_cases hln : xs.length = ys.length
  case neg =>
    have HF : Hid (It.eqS xs ys = false) := Lib.hid (decide_eq_false (fun e => hln (by rw [e])))
    have hne : ((xs.length : Int) != (ys.length : Int)) = true := by rw [bne_iff_ne]; omega
    clear hln
    go_enter Tryz.func28, Tryz.ntmps28
    go_wp2
    go_ret
    exact ⟨ret_bool HF.out.symm, Ext.refl _⟩
  have HL := Lib.hid hln
  have hne : ((xs.length : Int) != (ys.length : Int)) = false := by rw [bne_eq_false_iff_eq]; omega
  have hle : xs.length ≤ ys.length := by omega
  clear hln
  go_enter Tryz.func28, Tryz.ntmps28
  go_wp2
  go_loopw [13] (fun i wr => ∃ k : Nat, k ≤ xs.length ∧ i = .int .i64 k ∧ Hid (∀ i, i < k → xs[i]? = ys[i]?) ∧ Ext w wr) (fun i _ => xs.length - (intOf i).toNat)
  case atStart => exact ⟨0, by omega, rfl, Lib.hid (fun i hi => by omega), Ext.refl _⟩
  case round =>
    obtain ⟨k, hk, rfl, HP, he⟩ := hrel
    by_cases hlt : k < xs.length
    · have hlt2 : k < ys.length := by omega
      obtain ⟨gb, go, rfl, hgb, x0⟩ := (HA.out.ext he).at_ hlt
      obtain ⟨fb, fo, rfl, hfb, y0⟩ := (HB.out.ext he).at_ hlt2
      obtain ⟨x, hx'⟩ : ∃ x, xs[k] = x := ⟨_, rfl⟩
      obtain ⟨y, hy'⟩ : ∃ y, ys[k] = y := ⟨_, rfl⟩
      have hx : xs[k]? = some x := by rw [List.getElem?_eq_getElem hlt, hx']
      have hy : ys[k]? = some y := by rw [List.getElem?_eq_getElem hlt2, hy']
      rw [hx'] at x0
      rw [hy'] at y0
      clear hx' hy'
      have ki0 : (0 : Int) ≤ (k : Int) := by omega
      have ki1 : (k : Int) < (xs.length : Int) := by omega
      have ki2 : (k : Int) < (ys.length : Int) := by omega
      have HX := Lib.hid hx
      have HY := Lib.hid hy
      clear hx hy
      by_cases hxy : x = y
      · have HN : Hid (∀ i, i < k + 1 → xs[i]? = ys[i]?) := Lib.hid fun i hi => by
          rcases Nat.lt_or_ge i k with g | g
          · exact HP.out i g
          · obtain rfl : i = k := by omega
            rw [HX.out, HY.out, hxy]
        subst hxy
        have hq : (x.toList == x.toList) = true := by simp
        go_wp2
        go_quiet (fail)
        go_wp2
        go_roundw
        case rel => exact ⟨k + 1, by omega, by go_num, HN, he.drewN _⟩
        case measure => simp [intOf]; omega
      · have HF : Hid (It.eqS xs ys = false) := Lib.hid (decide_eq_false (fun e => hxy (by
          have h1 := HX.out
          rw [e, HY.out] at h1
          exact (Option.some.inj h1).symm)))
        have hq : ((x.toList == y.toList) = false) := by exact hbeq_of _ _ hxy
        clear hxy
        go_wp2
        go_quiet (fail)
        go_wp2
        go_ret
        exact ⟨ret_bool HF.out.symm, he.drewN _⟩
    · have HF : Hid (It.eqS xs ys = true) := Lib.hid (decide_eq_true (It.eq_at HL.out (fun i hi => HP.out i (by omega))))
      go_wp2
      go_ret
      exact ⟨ret_bool HF.out.symm, he⟩


set_option maxRecDepth 100000 in
set_option maxHeartbeats 3200000 in
theorem sameNames_any (X : Option Addr) (xc : Nat) (Y : Option Addr) (yc : Nat) (xs ys : List ByteArray) (w : World) (ha : SlS w X xs) (hb : SlS w Y ys) (hl1 : xs.length ≤ 9223372036854775807) (hl2 : ys.length ≤ 9223372036854775807) :
    Calls Tryz.prog 6 #[.slice X xs.length xc, .slice Y ys.length yc] w fun e w' => e = .returned (.bool (It.eqS xs ys)) ∧ Ext w w' := by
  have HA := Lib.hid ha
  have HB := Lib.hid hb
  clear ha hb
  by_cases hln : xs.length = ys.length
  case neg =>
    have HF : Hid (It.eqS xs ys = false) := Lib.hid (decide_eq_false (fun e => hln (by rw [e])))
    have hne : ((xs.length : Int) != (ys.length : Int)) = true := by rw [bne_iff_ne]; omega
    clear hln
    go_enter Tryz.func6, Tryz.ntmps6
    go_wp2
    go_ret
    exact ⟨ret_bool HF.out.symm, Ext.refl _⟩
  have HL := Lib.hid hln
  have hne : ((xs.length : Int) != (ys.length : Int)) = false := by rw [bne_eq_false_iff_eq]; omega
  have hle : xs.length ≤ ys.length := by omega
  clear hln
  go_enter Tryz.func6, Tryz.ntmps6
  go_wp2
  go_loopw [13] (fun i wr => ∃ k : Nat, k ≤ xs.length ∧ i = .int .i64 k ∧ Hid (∀ i, i < k → xs[i]? = ys[i]?) ∧ Ext w wr) (fun i _ => xs.length - (intOf i).toNat)
  case atStart => exact ⟨0, by omega, rfl, Lib.hid (fun i hi => by omega), Ext.refl _⟩
  case round =>
    obtain ⟨k, hk, rfl, HP, he⟩ := hrel
    by_cases hlt : k < xs.length
    · have hlt2 : k < ys.length := by omega
      obtain ⟨gb, go, rfl, hgb, x0⟩ := (HA.out.ext he).at_ hlt
      obtain ⟨fb, fo, rfl, hfb, y0⟩ := (HB.out.ext he).at_ hlt2
      obtain ⟨x, hx'⟩ : ∃ x, xs[k] = x := ⟨_, rfl⟩
      obtain ⟨y, hy'⟩ : ∃ y, ys[k] = y := ⟨_, rfl⟩
      have hx : xs[k]? = some x := by rw [List.getElem?_eq_getElem hlt, hx']
      have hy : ys[k]? = some y := by rw [List.getElem?_eq_getElem hlt2, hy']
      rw [hx'] at x0
      rw [hy'] at y0
      clear hx' hy'
      have ki0 : (0 : Int) ≤ (k : Int) := by omega
      have ki1 : (k : Int) < (xs.length : Int) := by omega
      have ki2 : (k : Int) < (ys.length : Int) := by omega
      have HX := Lib.hid hx
      have HY := Lib.hid hy
      clear hx hy
      by_cases hxy : x = y
      · have HN : Hid (∀ i, i < k + 1 → xs[i]? = ys[i]?) := Lib.hid fun i hi => by
          rcases Nat.lt_or_ge i k with g | g
          · exact HP.out i g
          · obtain rfl : i = k := by omega
            rw [HX.out, HY.out, hxy]
        subst hxy
        have hq : (x.toList == x.toList) = true := by simp
        go_wp2
        go_quiet (fail)
        go_wp2
        go_roundw
        case rel => exact ⟨k + 1, by omega, by go_num, HN, he.drewN _⟩
        case measure => simp [intOf]; omega
      · have HF : Hid (It.eqS xs ys = false) := Lib.hid (decide_eq_false (fun e => hxy (by
          have h1 := HX.out
          rw [e, HY.out] at h1
          exact (Option.some.inj h1).symm)))
        have hq : ((x.toList == y.toList) = false) := by exact hbeq_of _ _ hxy
        clear hxy
        go_wp2
        go_quiet (fail)
        go_wp2
        go_ret
        exact ⟨ret_bool HF.out.symm, he.drewN _⟩
    · have HF : Hid (It.eqS xs ys = true) := Lib.hid (decide_eq_true (It.eq_at HL.out (fun i hi => HP.out i (by omega))))
      go_wp2
      go_ret
      exact ⟨ret_bool HF.out.symm, he⟩


theorem Tryz.infoStr : (Tryz.prog.info? 9).map (fun i => (i.zero, i.size, i.bytes)) = some (some (.string ⟨#[]⟩), 1, 16) := by kernel_rfl
/-- A row of names that the call owns. -/
def RowS (base : Nat) (xs : List ByteArray) (w : World) (v : Value) : Prop := w.ownsRow base 9 1 v xs.length (xs.map Value.string)
theorem RowS.sl {base : Nat} {xs : List ByteArray} {w : World} {v : Value} (h : RowS base xs w v) : ∃ A c, v = .slice A xs.length c ∧ xs.length ≤ c ∧ c ≤ maxLen ∧ SlS w A xs := by
  have h' : w.ownsRow base 9 1 v xs.length (xs.map fun s => [Value.string s]).flatten := by
    have e : (xs.map fun s => [Value.string s]).flatten = xs.map Value.string := by clear h; induction xs with | nil => rfl | cons x xs ih => simp only [List.map_cons, List.flatten_cons, ih]; rfl
    rw [e]; exact h
  obtain ⟨A, c, h1, h2, h3, h4⟩ := Sl.of_own (xs := xs.map fun s => [Value.string s]) (fun c hc => by obtain ⟨s, _, rfl⟩ := List.mem_map.1 hc; rfl) (by simp) h'
  rw [List.length_map] at h1 h2
  exact ⟨A, c, h1, h2, h3, h4⟩
set_option maxRecDepth 100000 in
set_option maxHeartbeats 1600000 in
theorem add_any (W0 : World) (base : Nat) (hB : W0.heap.size ≤ base) (v : Value) (xs : List ByteArray) (d : Bool) (name : ByteArray) (w : World) (hX : Ext W0 w) (hb : base ≤ w.heap.size) (hn : xs.length ≤ 1000) (h : RowS base xs w v) :
    Calls Tryz.prog 27 #[v, .bool d, .string name] w fun e w' => ∃ v', e = .returned v' ∧ RowS base (It.addL xs d name) w' v' ∧ Ext W0 w' := by
  cases d with
  | false =>
    go_enter Tryz.func27, Tryz.ntmps27
    go_wp2
    go_ret
    exact ⟨v, rfl, h, hX⟩
  | true =>
    obtain ⟨i0, hi0, hz0, hz1, hz2⟩ := info_parts Tryz.infoStr
    obtain ⟨A, c, rfl⟩ := own_form h
    have HO := Lib.hid h
    clear h
    obtain ⟨n, hxn⟩ : ∃ n, xs.length = n := ⟨_, rfl⟩
    have HN := Lib.hid hxn
    have HO2 : Hid (w.ownsRow base 9 1 (.slice A n c) n (xs.map Value.string)) := Lib.hid (by rw [← hxn]; exact HO.out)
    rw [hxn] at hn ⊢
    clear hxn HO
    go_enter Tryz.func27, Tryz.ntmps27
    go_wp2_with (at_builtin; refine wpList_append_lies _ rfl _ _ 22 rfl base 9 i0 (.string ⟨#[]⟩) 1 16 Tryz.underlying22 hi0 hz0 hz1 hz2 rfl (by decide) _ _ _ rfl (HO2.out.alloc _) ⟨w.heap.size, 0, none⟩ 1 1 [.string name] rfl rfl (cell_one_new _ _ _) (by simp [Value.oneCell']) (by decide) (by unfold maxLen; omega) (by omega) (by simp; omega) (w.heap.size + 1) (by simp) ?_; intro gg cap w2 hown2 hgrow2 hat hlt2)
    have HO3 := Lib.hid hown2
    have he2 : Ext W0 w2 := (hX.alloc _).grown hgrow2 (fun q hq => Nat.le_trans hB (own_ge HO2.out q hq))
    clear hown2
    go_wp2
    go_ret
    refine ⟨_, rfl, ?_, he2⟩
    unfold RowS
    rw [It.addL_yes, List.length_append, List.map_append, HN.out]
    exact HO3.out
theorem add_to (W0 : World) (base : Nat) (hB : W0.heap.size ≤ base) (v : Value) {xs : List ByteArray} (d : Bool) (name : ByteArray) {ys : List ByteArray} (hy : It.addL xs d name = ys) (w : World) (hX : Ext W0 w) (hb : base ≤ w.heap.size) (hn : xs.length ≤ 1000) (h : RowS base xs w v) :
    Calls Tryz.prog 27 #[v, .bool d, .string name] w fun e w' => ∃ v', e = .returned v' ∧ RowS base ys w' v' ∧ Ext W0 w' := by
  subst hy; exact add_any W0 base hB v xs d name w hX hb hn h
end Go.Proofs.YtdaccamiipknmaaGreatDoor
