/- Slices of intervals; timing.check: its contract. Conditions: those of each theorem. -/
import Derived.Test.YtpdboefaedocfaaApp
namespace Go.Proofs.Ytpdboefaedocfaa
open Go.RowKit

namespace Tm
def cells (p : Int × Int) : List Value := [.int .i64 p.1, .int .i64 p.2]
def rng (p : Int × Int) : Bool := decide (p.1 < 0 ∨ 1099511627776 < p.1 ∨ p.2 < 0 ∨ 1099511627776 < p.2)
def ord (p : Int × Int) : Bool := decide (p.2 ≤ p.1)
def big (l : List (Int × Int)) : Bool := decide (300 < l.length)
/-- The first rule that lists of intervals violate. -/
def chk (ls : List (List (Int × Int))) : Int := if ls.any big then 5 else if ls.any (·.any rng) then 3 else if ls.any (·.any ord) then 23 else 0
theorem any_step {α : Type} {l : List α} {k : Nat} {x : α} {p : α → Bool} (h : l[k]? = some x) : (l.take (k + 1)).any p = ((l.take k).any p || p x) := by
  rw [List.take_add_one, h, List.any_append]; simp
theorem any_yes {α : Type} {l : List α} {k : Nat} {x : α} {p : α → Bool} (h : l[k]? = some x) (hp : p x = true) : l.any p = true := List.any_eq_true.2 ⟨x, List.mem_of_getElem? h, hp⟩
theorem any_end {α : Type} {l : List α} {k : Nat} {p : α → Bool} (hk : l.length ≤ k) (h : (l.take k).any p = false) : l.any p = false := by rw [List.take_of_length_le hk] at h; exact h
theorem chk_big {ls : List (List (Int × Int))} (h : ls.any big = true) : chk ls = 5 := by unfold chk; rw [if_pos h]
theorem chk_rng {ls : List (List (Int × Int))} (h : ls.any big = false) (h2 : ls.any (·.any rng) = true) : chk ls = 3 := by unfold chk; rw [if_neg (by simp [h]), if_pos h2]
theorem chk_ord {ls : List (List (Int × Int))} (h : ls.any big = false) (h2 : ls.any (·.any rng) = false) (h3 : ls.any (·.any ord) = true) : chk ls = 23 := by unfold chk; rw [if_neg (by simp [h]), if_neg (by simp [h2]), if_pos h3]
theorem chk_ok {ls : List (List (Int × Int))} (h : ls.any big = false) (h2 : ls.any (·.any rng) = false) (h3 : ls.any (·.any ord) = false) : chk ls = 0 := by unfold chk; rw [if_neg (by simp [h]), if_neg (by simp [h2]), if_neg (by simp [h3])]
end Tm
/-- The intervals lie at A. -/
def SlP (w : World) (A : Option Addr) (ps : List (Int × Int)) : Prop := Sl w 2 A (ps.map Tm.cells)
theorem SlP.ext {w w' : World} {A : Option Addr} {ps : List (Int × Int)} (h : SlP w A ps) (he : Ext w w') : SlP w' A ps := Sl.ext h he
theorem SlP.nil (w : World) (A : Option Addr) : SlP w A [] := Or.inl rfl
theorem SlP.at_ {w : World} {A : Option Addr} {ps : List (Int × Int)} (h : SlP w A ps) {i : Nat} {p : Int × Int} (hi : ps[i]? = some p) :
    ∃ b off, A = some ⟨b, off, none⟩ ∧ b < w.heap.size ∧ w.cell? ⟨b, off + i * 2, none⟩ = some (.int .i64 p.1) ∧ w.cell? ⟨b, off + i * 2 + 1, none⟩ = some (.int .i64 p.2) := by
  obtain ⟨b, off, hA, hb, hc⟩ := Sl.at_ (i := i) (cs := Tm.cells p) h (by simp [hi])
  exact ⟨b, off, hA, hb, hc 0 _ rfl, hc 1 _ rfl⟩
/-- A slice of intervals with where it lies. -/
structure PL where
  A : Option Addr
  c : Nat
  xs : List (Int × Int)
instance : Inhabited PL := ⟨⟨none, 0, []⟩⟩
def PL.val (h : PL) : Value := .slice h.A h.xs.length h.c
def PL.In (w : World) (h : PL) : Prop := SlP w h.A h.xs ∧ h.xs.length ≤ h.c ∧ h.c ≤ maxLen ∧ ∀ p ∈ h.xs, In64 p.1 ∧ In64 p.2
theorem PL.In.ext {w w' : World} {h : PL} (hi : h.In w) (he : Ext w w') : h.In w' := ⟨hi.1.ext he, hi.2⟩
/-- A slice of slices of intervals. -/
def SlLP (w : World) (L : Option Addr) (ls : List PL) : Prop := Sl w 1 L (ls.map fun h => [h.val]) ∧ ∀ h ∈ ls, h.In w
theorem SlLP.ext {w w' : World} {L : Option Addr} {ls : List PL} (h : SlLP w L ls) (he : Ext w w') : SlLP w' L ls := ⟨h.1.ext he, fun x hx => (h.2 x hx).ext he⟩
theorem SlLP.at_ {w : World} {L : Option Addr} {ls : List PL} (h : SlLP w L ls) {i : Nat} {x : PL} (hi : ls[i]? = some x) :
    ∃ b off, L = some ⟨b, off, none⟩ ∧ b < w.heap.size ∧ w.cell? ⟨b, off + i, none⟩ = some (.slice x.A x.xs.length x.c) ∧ x.In w := by
  obtain ⟨b, off, hA, hb, hc⟩ := Sl.at_ (i := i) (cs := [x.val]) h.1 (by simp [hi])
  exact ⟨b, off, hA, hb, by simpa [PL.val] using hc 0 _ rfl, h.2 x (List.mem_of_getElem? hi)⟩

set_option maxRecDepth 100000 in
set_option maxHeartbeats 3200000 in
theorem check_any (L : Option Addr) (d : Nat) (ls : List PL) (w : World) (hL : SlLP w L ls) (hd : ls.length ≤ maxLen) :
    Calls Try.prog 25 #[.slice L ls.length d] w fun e w' => e = .returned (.int .i64 (Tm.chk (ls.map PL.xs))) ∧ Ext w w' := by
  have HL := Lib.hid hL
  unfold maxLen at hd
  clear hL
  go_enter Try.func25, Try.ntmps25
  go_wp2
  go_loopw [15] (fun i wr => ∃ k : Nat, k ≤ ls.length ∧ i = .int .i64 k ∧ ((ls.map PL.xs).take k).any Tm.big = false ∧ Ext w wr) (fun i _ => ls.length - (intOf i).toNat)
  case atStart => exact ⟨0, by omega, rfl, by simp, Ext.refl _⟩
  case round =>
    obtain ⟨k, hk, rfl, hno, he⟩ := hrel
    have HNO := Lib.hid hno
    clear hno
    by_cases hlt : k < ls.length
    · obtain ⟨x, hx⟩ : ∃ x, ls[k]? = some x := ⟨ls[k], List.getElem?_eq_getElem hlt⟩
      obtain ⟨b, off, rfl, hb, c0, hin⟩ := (HL.out.ext he).at_ hx
      have HM : Hid ((ls.map PL.xs)[k]? = some x.xs) := Lib.hid (by rw [List.getElem?_map, hx]; rfl)
      have ki0 : (0 : Int) ≤ (k : Int) := by omega
      have ki1 : (k : Int) < (ls.length : Int) := by omega
      have hxl : x.xs.length ≤ maxLen := Nat.le_trans hin.2.1 hin.2.2.1
      unfold maxLen at hxl
      clear hx hin
      by_cases h300 : 300 < x.xs.length
      · have h3 : (300 : Int) < (x.xs.length : Int) := by omega
        have HB : Hid (Tm.chk (ls.map PL.xs) = 5) := Lib.hid (Tm.chk_big (Tm.any_yes HM.out (by unfold Tm.big; simpa using h300)))
        go_wp2
        go_ret
        exact ⟨ret_int HB.out.symm, he⟩
      · have h3 : ¬ (300 : Int) < (x.xs.length : Int) := by omega
        have HB : Hid (Tm.big x.xs = false) := Lib.hid (by unfold Tm.big; simpa using h300)
        go_wp2
        go_roundw
        case rel => exact ⟨k + 1, by omega, by go_num, by rw [Tm.any_step HM.out, HNO.out, HB.out]; rfl, he⟩
        case measure => simp [intOf]; omega
    · have HBIG : Hid ((ls.map PL.xs).any Tm.big = false) := Lib.hid (Tm.any_end (by rw [List.length_map]; omega) HNO.out)
      have hx0 : Ext w wr := he
      obtain ⟨w0, rfl⟩ : ∃ w0 : World, w0 = wr := ⟨_, rfl⟩
      go_wp2
      clear hlt
      go_loopw [25] (fun i wr => ∃ k : Nat, k ≤ ls.length ∧ i = .int .i64 k ∧ ((ls.map PL.xs).take k).any (·.any Tm.rng) = false ∧ Ext w wr) (fun i _ => ls.length - (intOf i).toNat)
      case atStart => exact ⟨0, by omega, rfl, by simp, hx0⟩
      case round =>
        obtain ⟨k, hk, rfl, hno, he⟩ := hrel
        obtain ⟨wo, rfl⟩ : ∃ wo : World, wo = wr := ⟨_, rfl⟩
        have HNO := Lib.hid hno
        clear hno
        by_cases hlt : k < ls.length
        · obtain ⟨x, hx⟩ : ∃ x, ls[k]? = some x := ⟨ls[k], List.getElem?_eq_getElem hlt⟩
          obtain ⟨b, off, rfl, hb, c0, hin⟩ := (HL.out.ext he).at_ hx
          have HM : Hid ((ls.map PL.xs)[k]? = some x.xs) := Lib.hid (by rw [List.getElem?_map, hx]; rfl)
          have HIN := Lib.hid hin
          have ki0 : (0 : Int) ≤ (k : Int) := by omega
          have ki1 : (k : Int) < (ls.length : Int) := by omega
          have hxl : x.xs.length ≤ maxLen := Nat.le_trans hin.2.1 hin.2.2.1
          unfold maxLen at hxl
          clear hx hin
          go_wp2
          go_loopw [31] (fun i wr => ∃ j : Nat, j ≤ x.xs.length ∧ i = .int .i64 j ∧ (x.xs.take j).any Tm.rng = false ∧ Ext wo wr) (fun i _ => x.xs.length - (intOf i).toNat)
          case atStart => exact ⟨0, by omega, rfl, by simp, Ext.refl _⟩
          case round =>
            obtain ⟨j, hj, rfl, hnj, hej⟩ := hrel
            have HNJ := Lib.hid hnj
            clear hnj
            by_cases hlj : j < x.xs.length
            · obtain ⟨p, hp⟩ : ∃ p, x.xs[j]? = some p := ⟨x.xs[j], List.getElem?_eq_getElem hlj⟩
              obtain ⟨pb, po, hpA, hpb, d0, d1⟩ := (HIN.out.1.ext hej).at_ hp
              obtain ⟨xA, xc, xx⟩ := x
              simp only at hpA hp hj hlj hxl HIN HM HNJ c0 d0 d1
              subst hpA
              obtain ⟨p1, p2⟩ := p
              simp only at d0 d1
              have HP := Lib.hid hp
              have ji0 : (0 : Int) ≤ (j : Int) := by omega
              have ji1 : (j : Int) < (xx.length : Int) := by omega
              clear hp
              by_cases hbad : p1 < 0 ∨ 1099511627776 < p1 ∨ p2 < 0 ∨ 1099511627776 < p2
              · have HB : Hid (Tm.chk (ls.map PL.xs) = 3) := Lib.hid (Tm.chk_rng HBIG.out (Tm.any_yes HM.out (Tm.any_yes HP.out (by unfold Tm.rng; simpa using hbad))))
                have hb4 : p1 < 0 ∨ (0 ≤ p1 ∧ 1099511627776 < p1) ∨ (0 ≤ p1 ∧ p1 ≤ 1099511627776 ∧ p2 < 0) ∨ (0 ≤ p1 ∧ p1 ≤ 1099511627776 ∧ 0 ≤ p2 ∧ 1099511627776 < p2) := by omega
                clear hbad
                rcases hb4 with g1 | ⟨g1, g2⟩ | ⟨g1, g2, g3⟩ | ⟨g1, g2, g3, g4⟩
                all_goals
                  go_wp2
                  go_ret
                  exact ⟨ret_int HB.out.symm, he.trans (hej.alloc _)⟩
              · have HB : Hid (Tm.rng (p1, p2) = false) := Lib.hid (by unfold Tm.rng; simpa using hbad)
                have g1 : 0 ≤ p1 := by omega
                have g2 : p1 ≤ 1099511627776 := by omega
                have g3 : 0 ≤ p2 := by omega
                have g4 : p2 ≤ 1099511627776 := by omega
                clear hbad
                go_wp2
                go_roundw
                case rel => exact ⟨j + 1, by omega, by go_num, by rw [Tm.any_step HP.out, HNJ.out, HB.out]; rfl, hej.alloc _⟩
                case measure => simp [intOf]; omega
            · have HXX : Hid (x.xs.any Tm.rng = false) := Lib.hid (Tm.any_end (by omega) HNJ.out)
              go_wp2
              go_roundw
              case rel => exact ⟨k + 1, by omega, by go_num, by rw [Tm.any_step HM.out, HNO.out]; simp only [HXX.out]; rfl, he.trans hej⟩
              case measure => simp [intOf]; omega
        · have HRNG : Hid ((ls.map PL.xs).any (·.any Tm.rng) = false) := Lib.hid (Tm.any_end (by rw [List.length_map]; omega) HNO.out)
          have hx0 : Ext w wo := he
          go_wp2
          clear hlt
          go_loopw [57] (fun i wr => ∃ k : Nat, k ≤ ls.length ∧ i = .int .i64 k ∧ ((ls.map PL.xs).take k).any (·.any Tm.ord) = false ∧ Ext w wr) (fun i _ => ls.length - (intOf i).toNat)
          case atStart => exact ⟨0, by omega, rfl, by simp, hx0⟩
          case round =>
            obtain ⟨k, hk, rfl, hno, he⟩ := hrel
            obtain ⟨wo, rfl⟩ : ∃ wo : World, wo = wr := ⟨_, rfl⟩
            have HNO := Lib.hid hno
            clear hno
            by_cases hlt : k < ls.length
            · obtain ⟨x, hx⟩ : ∃ x, ls[k]? = some x := ⟨ls[k], List.getElem?_eq_getElem hlt⟩
              obtain ⟨b, off, rfl, hb, c0, hin⟩ := (HL.out.ext he).at_ hx
              have HM : Hid ((ls.map PL.xs)[k]? = some x.xs) := Lib.hid (by rw [List.getElem?_map, hx]; rfl)
              have HIN := Lib.hid hin
              have ki0 : (0 : Int) ≤ (k : Int) := by omega
              have ki1 : (k : Int) < (ls.length : Int) := by omega
              have hxl : x.xs.length ≤ maxLen := Nat.le_trans hin.2.1 hin.2.2.1
              unfold maxLen at hxl
              clear hx hin
              go_wp2
              go_loopw [63] (fun i wr => ∃ j : Nat, j ≤ x.xs.length ∧ i = .int .i64 j ∧ (x.xs.take j).any Tm.ord = false ∧ Ext wo wr) (fun i _ => x.xs.length - (intOf i).toNat)
              case atStart => exact ⟨0, by omega, rfl, by simp, Ext.refl _⟩
              case round =>
                obtain ⟨j, hj, rfl, hnj, hej⟩ := hrel
                have HNJ := Lib.hid hnj
                clear hnj
                by_cases hlj : j < x.xs.length
                · obtain ⟨p, hp⟩ : ∃ p, x.xs[j]? = some p := ⟨x.xs[j], List.getElem?_eq_getElem hlj⟩
                  obtain ⟨pb, po, hpA, hpb, d0, d1⟩ := (HIN.out.1.ext hej).at_ hp
                  obtain ⟨xA, xc, xx⟩ := x
                  simp only at hpA hp hj hlj hxl HIN HM HNJ c0 d0 d1
                  subst hpA
                  obtain ⟨p1, p2⟩ := p
                  simp only at d0 d1
                  have HP := Lib.hid hp
                  have ji0 : (0 : Int) ≤ (j : Int) := by omega
                  have ji1 : (j : Int) < (xx.length : Int) := by omega
                  clear hp
                  by_cases hbad : p2 ≤ p1
                  · have HB : Hid (Tm.chk (ls.map PL.xs) = 23) := Lib.hid (Tm.chk_ord HBIG.out HRNG.out (Tm.any_yes HM.out (Tm.any_yes HP.out (by unfold Tm.ord; simpa using hbad))))
                    go_wp2
                    go_ret
                    exact ⟨ret_int HB.out.symm, he.trans (hej.alloc _)⟩
                  · have HB : Hid (Tm.ord (p1, p2) = false) := Lib.hid (by unfold Tm.ord; simpa using hbad)
                    have g1 : ¬ p2 ≤ p1 := hbad
                    have g2 : p1 < p2 := by omega
                    clear hbad
                    go_wp2
                    go_roundw
                    case rel => exact ⟨j + 1, by omega, by go_num, by rw [Tm.any_step HP.out, HNJ.out, HB.out]; rfl, hej.alloc _⟩
                    case measure => simp [intOf]; omega
                · have HXX : Hid (x.xs.any Tm.ord = false) := Lib.hid (Tm.any_end (by omega) HNJ.out)
                  go_wp2
                  go_roundw
                  case rel => exact ⟨k + 1, by omega, by go_num, by rw [Tm.any_step HM.out, HNO.out]; simp only [HXX.out]; rfl, he.trans hej⟩
                  case measure => simp [intOf]; omega
            · have HORD : Hid ((ls.map PL.xs).any (·.any Tm.ord) = false) := Lib.hid (Tm.any_end (by rw [List.length_map]; omega) HNO.out)
              go_wp2
              go_ret
              exact ⟨ret_int (Tm.chk_ok HBIG.out HRNG.out HORD.out).symm, he⟩

end Go.Proofs.Ytpdboefaedocfaa
