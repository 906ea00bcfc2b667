/- Big numbers of the reference: Print: its contract. Conditions: those of each theorem. -/
import Derived.Test.YtcpapnnghclbmaaDoorNatB
import Derived.Lib.ItoaMem
namespace Go.Proofs.YtcpapnnghclbmaaDoor
open Go.ChangeShapes Go.WideShapes Go.ChangeAt Go.RowKit

namespace Na
/-- The digits of a number, none of 0. -/
def dec1 (u : Nat) : List UInt8 := if u = 0 then [] else Lib.decDigits u
theorem dec1_step {u : Nat} (h : u ≠ 0) : dec1 u = dec1 (u / 10) ++ [UInt8.ofNat (48 + u % 10)] := by
  unfold dec1
  rw [if_neg h]
  by_cases hu : u < 10
  · rw [Lib.decDigits_one hu, if_pos (by omega), Nat.mod_eq_of_lt hu]; rfl
  · rw [if_neg (by omega)]
    have e : Lib.decDigits u = Lib.decDigits (u / 10) ++ [UInt8.ofNat (48 + u % 10)] := by rw [Lib.decDigits, dif_neg hu]
    exact e
theorem digit_nat (u : Nat) : (UInt8.ofNat (48 + u % 10)).toNat = 48 + u % 10 := by
  simp
  omega
end Na
theorem make_cap {P : Program} (t e : TypeId) (z : Value) (bytes : Nat) (ht : P.underlying t = some (.slice e)) (hinfo : (P.info? e).map (fun i => (i.zero, i.size, i.bytes)) = some (some z, 1, bytes)) (hz1 : z.cells = #[z])
    (n : Nat) (x : Int) (hx : x = (n : Int)) (hbytes : bytes * n ≤ 281474976710656) (h63 : n ≤ 9223372036854775807) (w : World) :
    (Instr.makeSlice t (.int .i64 0) (.int .i64 x)).run P w = .ok (.slice (some ⟨w.heap.size, 0, none⟩) 0 n) (w.alloc (.cells (madeCells #[z] n) e)) := by
  subst hx
  obtain ⟨i, hi, hzz⟩ := Option.map_eq_some_iff.1 hinfo
  simp only [Prod.mk.injEq] at hzz
  obtain ⟨hz, hs, hb⟩ := hzz
  have hb' : (i.bytes : Int) * (n : Int) ≤ 281474976710656 := by
    rw [hb]
    have h : ((bytes * n : Nat) : Int) ≤ 281474976710656 := by omega
    rwa [Int.natCast_mul] at h
  have hr := run_make (P := P) w t e i z ht hi hz .i64 .i64 0 n (by omega) (by omega) hb' (by omega)
  simp only [Int.toNat_natCast, Int.toNat_zero, hs, Nat.mul_one, hz1] at hr
  exact hr
theorem Tryd.infoU8 : (Tryd.prog.info? 5).map (fun i => (i.zero, i.size, i.bytes)) = some (some (.int .u8 0), 1, 1) := by kernel_rfl
def byte (c : UInt8) : Value := .int .u8 (c.toNat : Int)

theorem short_10 (A : Option Addr) (c : Nat) (xs : List Nat) (n : Nat) (hn : xs.length = n) {ys : List Nat} {m r : Nat} (hy : Na.nrm (Na.quo 10 xs).1 = ys) (hm : ys.length = m) (hr : (Na.quo 10 xs).2 = r) (w : World) (h : SlU w A xs) (hx : ∀ x ∈ xs, x < 4294967296) (hb : n ≤ 1000) :
    Calls Tryd.prog 68 #[.slice A n c, .int .u64 10] w fun e w' => ∃ b, e = .returned (.tuple #[.slice (some ⟨b, 0, none⟩) m m, .int .u64 (r : Int)]) ∧ w.heap.size ≤ b ∧ SlU w' (some ⟨b, 0, none⟩) ys ∧ Ext w w' :=
  short_any A c xs n hn 10 (by omega) (by omega) hy hm hr w h hx hb
theorem sl_one8 (w : World) (x : Int) (t : TypeId) : Sl (w.alloc (.cells #[.int .u8 x] t)) 1 (some ⟨w.heap.size, 0, none⟩) [[.int .u8 x]] := Sl.new w [.int .u8 x] t
theorem own_byte {w : World} {base : Nat} {e : TypeId} {D : Option Addr} {j dc : Nat} {ds : List UInt8} (h : w.ownsRow base e 1 (.slice D j dc) j (ds.map byte)) {i : Nat} {x : UInt8} (hi : ds[i]? = some x) : ∃ g, D = some ⟨g, 0, none⟩ ∧ g < w.heap.size ∧ w.cell? ⟨g, i, none⟩ = some (.int .u8 (x.toNat : Int)) := by
  rcases h.2 with ⟨e1, e2⟩ | ⟨g, cap, cur, e1, h2, h3, h4, h5, h6, h7⟩
  · have h1 := h.1
    simp at h1
    subst e2
    rw [List.eq_nil_of_length_eq_zero h1] at hi
    simp at hi
  · injection e1 with e1 _ _
    subst e1
    refine ⟨g, rfl, ?_, ?_⟩
    · rcases Nat.lt_or_ge g w.heap.size with e | e
      · exact e
      · rw [Array.getElem?_eq_none e] at h3; cases h3
    · rw [cell_of_row w g i cur _ (0, 0) h3]
      have hij : i < j := by
        have h1 := h.1
        simp at h1
        have := (List.getElem?_eq_some_iff.1 hi).1
        omega
      have h8 : (cur.toList.take (j * 1))[i]? = some (byte x) := by rw [h7, List.getElem?_map, hi]; rfl
      rw [List.getElem?_take_of_lt (by omega)] at h8
      unfold byte at h8
      simpa using h8
set_option maxRecDepth 100000 in
set_option maxHeartbeats 6400000 in
theorem natPrint_any (A : Option Addr) (c : Nat) (xs : List Nat) (n : Nat) (hn : xs.length = n) {l : List UInt8} (hl : Lib.decDigits (Na.val xs) = l) (w : World) (h : SlU w A xs) (hx : ∀ x ∈ xs, x < 4294967296) (hb : n ≤ 1000) (hv : Na.val xs ≤ 1099511627776) :
    Calls Tryd.prog 52 #[.slice A n c] w fun e w' => e = .returned (.string ⟨l.toArray⟩) ∧ Ext w w' := by
  obtain ⟨ys, hy⟩ : ∃ ys, Na.nrm xs = ys := ⟨_, rfl⟩
  obtain ⟨m, hm⟩ : ∃ m, ys.length = m := ⟨_, rfl⟩
  have hm1 : m ≤ 1000 := by
    have := Na.nrm_len xs
    rw [hy, hm, hn] at this
    omega
  have hvy : Na.val ys = Na.val xs := by rw [← hy, Na.val_nrm]
  have hyn : Na.nrm ys = ys := by rw [← hy, Na.nrm_nrm]
  have hyx : ∀ x ∈ ys, x < 4294967296 := fun x hxx => hx x (Na.nrm_mem (by rw [hy]; exact hxx))
  have H := Lib.hid h
  have HN := Lib.hid hn
  have HL := Lib.hid hl
  have HY := Lib.hid hy
  have HM := Lib.hid hm
  have HVY := Lib.hid hvy
  have HYN := Lib.hid hyn
  have HYX := Lib.hid hyx
  clear h hn hl hx hy hm hvy hyn hyx
  by_cases hm0 : m = 0
  · have HLL : Hid (l = [48]) := Lib.hid (by
      have : ys = [] := List.eq_nil_of_length_eq_zero (by rw [HM.out, hm0])
      rw [← HL.out, ← HVY.out, this]
      rw [Na.val, Lib.decDigits_one (by omega)]; rfl)
    subst hm0
    go_enter Tryd.func52, Tryd.ntmps52
    go_wp2_with fail
    with_reducible refine (norm_any A c xs n HN.out HY.out HM.out _ H.out hb).mono ?_
    rintro e w1 ⟨b, rfl, hbb, hS, hb1⟩
    go_wp2
    go_ret
    rw [HLL.out]
    exact ⟨rfl, hb1⟩
  · have hmz : ((m : Int) == 0) = false := by rw [beq_eq_false_iff_ne]; omega
    have hw10 : IntKind.i64.wrap (10 * (m : Int)) = 10 * (m : Int) := IntWalk.i64_in _ (by omega)
    have hmk := make_cap (P := Tryd.prog) 86 5 (.int .u8 0) 1 Tryd.underlying86 Tryd.infoU8 rfl (10 * m) (10 * (m : Int)) (by omega) (by omega) (by omega)
    obtain ⟨i0, hi0, hz0, hz1, hz2⟩ := info_parts Tryd.infoU8
    have HM0 := Lib.hid hm0
    go_enter Tryd.func52, Tryd.ntmps52
    go_wp2_with fail
    with_reducible refine (norm_any A c xs n HN.out HY.out HM.out _ H.out hb).mono ?_
    rintro e w1 ⟨b, rfl, hbb, hS, hb1⟩
    have HS := Lib.hid hS
    clear hS
    go_wp2
    go_loopw [0, 3] (fun a v wr => ∃ (ab k : Nat) (zs : List Nat) (ds : List UInt8) (D : Option Addr) (j dc : Nat), a = .slice (some ⟨ab, 0, none⟩) k k ∧ v = .slice D j dc ∧ zs.length = k ∧ ds.length = j ∧ k ≤ 1000 ∧ SlU wr (some ⟨ab, 0, none⟩) zs ∧ Na.nrm zs = zs ∧ (∀ x ∈ zs, x < 4294967296) ∧ wr.ownsRow w1.heap.size 5 1 (.slice D j dc) j (ds.map byte) ∧ Na.dec1 (Na.val zs) ++ ds.reverse = l ∧ j + Na.val zs ≤ 1099511627776 ∧ Ext w1 wr) (fun a v wr => 1099511627776 - (match v with | .slice _ j _ => j | _ => 0))
    case atStart =>
      refine ⟨b, m, ys, [], some ⟨w1.heap.size, 0, none⟩, 0, 10 * m, rfl, rfl, HM.out, rfl, hm1, HS.out.ext ((Ext.refl _).alloc _), HYN.out, HYX.out, World.ownsRow_made _ _ _ (Nat.le_refl _) (by unfold maxLen; omega) (by simp [madeCells]), ?_, by rw [HVY.out]; omega, (Ext.refl _).alloc _⟩
      rw [← HL.out, ← HVY.out]
      unfold Na.dec1
      rw [if_neg (fun e => ?_)]
      · simp
      · have := Na.nrm_nil.2 e
        rw [HYN.out] at this
        rw [this] at HM
        exact HM0.out HM.out.symm
    case round =>
      obtain ⟨ab, k, zs, ds, D, j, dc, rfl, rfl, hzl, hdl, hk, hSz, hzn, hzx, hown, hdec, hj, he⟩ := hrel
      have HZL := Lib.hid hzl
      have HDL := Lib.hid hdl
      have HSZ := Lib.hid hSz
      have HZN := Lib.hid hzn
      have HZX := Lib.hid hzx
      have HOWN := Lib.hid hown
      have HDEC := Lib.hid hdec
      clear hzl hdl hSz hzn hzx hown hdec
      by_cases hk0 : k = 0
      · have HLL : Hid (ds.reverse = l) := Lib.hid (by
          have : zs = [] := List.eq_nil_of_length_eq_zero (by rw [HZL.out, hk0])
          rw [← HDEC.out, this]; rfl)
        have k1 : ¬ (0 : Int) < (k : Int) := by omega
        have k2 : ¬ 0 < k := by omega
        have k3 : decide (0 < k) = false := by rw [decide_eq_false_iff_not]; exact k2
        have hj2 : j ≤ 1099511627776 := by omega
        have hmk2 := run_make_row' (P := Tryd.prog) 86 5 (.int .u8 0) 1 Tryd.underlying86 Tryd.infoU8 rfl .i64 .i64 j (by omega) (by omega)
        have HSD : Hid (∀ (i : Nat) (x : UInt8), ds[i]? = some x → ∃ g, D = some ⟨g, 0, none⟩ ∧ g < wr.heap.size ∧ wr.cell? ⟨g, i, none⟩ = some (.int .u8 (x.toNat : Int))) := Lib.hid (fun i x hix => own_byte HOWN.out hix)
        clear hk0 hmk
        obtain ⟨w5, hw5⟩ : ∃ w5, w5 = wr := ⟨_, rfl⟩
        subst hw5
        go_wp2
        go_loopw [7] (fun i wx => ∃ q : Nat, q ≤ j ∧ i = .int .i64 q ∧ wx.rowIs w5.heap.size 5 j (fun p => .int .u8 ((if j - q ≤ p then (ds.getD (j - 1 - p) 0).toNat else 0 : Nat) : Int)) ∧ Ext w5 wx) (fun i _ => j - (intOf i).toNat)
        case atStart => exact ⟨0, Nat.zero_le _, rfl, (World.rowIs_made w5 (.int .u8 0) j 5).congr (fun i hi => by rw [if_neg (by omega)]; rfl), (Ext.refl _).alloc _⟩
        case round =>
          obtain ⟨q, hq, rfl, hrow, he2⟩ := hrel
          have HW := Lib.hid hrow
          by_cases hlt : q < j
          · obtain ⟨x, hx⟩ : ∃ x, ds[q]? = some x := ⟨ds[q]'(by rw [HDL.out]; exact hlt), List.getElem?_eq_getElem _⟩
            obtain ⟨g, rfl, hg, hc⟩ := HSD.out q x hx
            have hcx := he2.keep hc
            have ki0 : (0 : Int) ≤ (q : Int) := by omega
            have ki1 : (q : Int) < (j : Int) := by omega
            have hw1 : IntKind.i64.wrap ((j : Int) - 1) = (j : Int) - 1 := IntWalk.i64_in _ (by omega)
            have hw2 : IntKind.i64.wrap ((j : Int) - 1 - (q : Int)) = (j : Int) - 1 - (q : Int) := IntWalk.i64_in _ (by omega)
            have kj0 : (0 : Int) ≤ (j : Int) - 1 - (q : Int) := by omega
            have kj1 : (j : Int) - 1 - (q : Int) < (j : Int) := by omega
            have e1 : ((j : Int) - 1 - (q : Int)).toNat = j - 1 - q := by omega
            have ck := hrow.cell (i := j - 1 - q) (by omega)
            have fk := hrow.frozen (j - 1 - q)
            have zlt := hrow.lt
            have HXQ := Lib.hid hx
            clear hx hrow hc
            go_wp2
            go_roundw
            case rel =>
              refine ⟨q + 1, by omega, by go_num, (HW.out.set (j - 1 - q) _).congr (fun p hp => ?_), he2.setCell (Nat.le_refl _) _⟩
              by_cases hpq : p = j - 1 - q
              · subst hpq
                rw [if_pos rfl, if_pos (by omega), show j - 1 - (j - 1 - q) = q by omega, List.getD_eq_getElem?_getD, HXQ.out]
                rfl
              · rw [if_neg hpq]
                by_cases hp2 : j - q ≤ p
                · rw [if_pos hp2, if_pos (by omega)]
                · rw [if_neg hp2, if_neg (by omega)]
            case measure => simp [intOf]; omega
          · obtain rfl : q = j := by omega
            have hconv : (convert 86 9 (.slice (some ⟨w5.heap.size, 0, none⟩) q q)).run Tryd.prog wr = .ok (.string ⟨l.toArray⟩) wr := by
              have hll : l.length = q := by rw [← HLL.out, List.length_reverse, HDL.out]
              have := run_convert_bytes_back (P := Tryd.prog) (l := l) wr 86 9 5 ⟨w5.heap.size, 0, none⟩ q Tryd.underlying86 Tryd.underlying5 Tryd.underlying9 (fun p hp => by
                have hpq : p < q := by omega
                have hcell := HW.out.cell (i := p) hpq
                rw [if_pos (by omega)] at hcell
                have hlp : l[p] = ds.getD (q - 1 - p) 0 := by
                  have e : l[p]? = ds[q - 1 - p]? := by
                    rw [← HLL.out, List.getElem?_reverse (by rw [HDL.out]; exact hpq), HDL.out]
                  rw [List.getD_eq_getElem?_getD, ← e, List.getElem?_eq_getElem hp]; rfl
                rw [add_plain, Nat.zero_add, hlp]
                exact hcell)
              rw [hll] at this
              exact this
            clear hrow
            go_wp2
            go_ret
            exact ⟨rfl, (hb1.trans he).trans he2⟩
      · obtain ⟨qs, hqs⟩ : ∃ qs, Na.nrm (Na.quo 10 zs).1 = qs := ⟨_, rfl⟩
        obtain ⟨mq, hmq⟩ : ∃ mq, qs.length = mq := ⟨_, rfl⟩
        obtain ⟨r, hr⟩ : ∃ r, (Na.quo 10 zs).2 = r := ⟨_, rfl⟩
        obtain ⟨d1, d2⟩ := Na.quo_div (d := 10) (by omega) zs
        have hvq : Na.val qs = Na.val zs / 10 := by rw [← hqs, Na.val_nrm, d1]
        have hrr : r = Na.val zs % 10 := by rw [← hr, d2]
        have hr10 : r < 10 := by omega
        have hvz : Na.val zs ≠ 0 := fun e => by
          have := Na.nrm_nil.2 e
          rw [HZN.out] at this
          have h2 := HZL.out
          rw [this] at h2
          exact hk0 h2.symm
        have hmq1 : mq ≤ 1000 := by
          have := Na.nrm_len (Na.quo 10 zs).1
          rw [hqs, hmq, Na.quo_len, HZL.out] at this
          omega
        have HQN : Hid (Na.nrm qs = qs) := Lib.hid (by rw [← hqs, Na.nrm_nrm])
        have HQX : Hid (∀ x ∈ qs, x < 4294967296) := Lib.hid (fun x hxx => Na.quo_limb (d := 10) (by omega) HZX.out x (Na.nrm_mem (by rw [hqs]; exact hxx)))
        have HJ : Hid (j + 1 + Na.val qs ≤ 1099511627776) := Lib.hid (by rw [hvq]; omega)
        have HDE : Hid (Na.dec1 (Na.val qs) ++ (ds ++ [UInt8.ofNat (48 + r)]).reverse = l) := Lib.hid (by
          rw [← HDEC.out, Na.dec1_step hvz, hvq, hrr]; simp)
        have HRB : Hid (byte (UInt8.ofNat (48 + r)) = .int .u8 (48 + (r : Int))) := Lib.hid (by
          unfold byte
          have e : (UInt8.ofNat (48 + r)).toNat = 48 + r := by simp; omega
          rw [e]; congr 1)
        have HQS := Lib.hid hqs
        have HMQ := Lib.hid hmq
        have HR := Lib.hid hr
        have hj2 : j + 1 ≤ 1099511627776 := by omega
        clear hqs hmq hr d1 d2 hvq hrr hvz
        have k1 : (0 : Int) < (k : Int) := by omega
        have k2 : 0 < k := by omega
        have k3 : decide (0 < k) = true := by rw [decide_eq_true_eq]; exact k2
        go_wp2_with fail
        with_reducible refine (short_10 (some ⟨ab, 0, none⟩) k zs k HZL.out HQS.out HMQ.out HR.out _ HSZ.out HZX.out hk).mono ?_
        rintro e w2 ⟨qb, rfl, hqb, hSq, hb2⟩
        have HSQ := Lib.hid hSq
        have HOW2 := Lib.hid (own_ext HOWN.out hb2)
        have hs2 : w1.heap.size ≤ w2.heap.size := Nat.le_trans he.size hb2.size
        clear hSq
        go_wp2_with (at_builtin; refine wpList_app rfl _ _ 86 rfl w1.heap.size 5 i0 (.int .u8 0) 1 1 Tryd.underlying86 hi0 hz0 hz1 hz2 rfl (by decide) (.slice D j dc) j (ds.map byte) rfl (own_ext HOW2.out ((Ext.refl _).alloc _)) (some ⟨w2.heap.size, 0, none⟩) 1 1 [[.int .u8 (48 + (r : Int))]] rfl rfl (sl_one8 _ _ _) (fun c hc => by simp at hc; rw [hc]; rfl) (fun c hc u hu => by simp at hc; rw [hc] at hu; simp at hu; rw [hu]; rfl) (by unfold maxLen; omega) (by omega) (by simp; omega) ?_; intro D' dc' w3 hown3 hgr3)
        have HO3 : Hid (w3.ownsRow w1.heap.size 5 1 (.slice D' (j + 1) dc') (j + 1) ((ds ++ [UInt8.ofNat (48 + r)]).map byte)) := Lib.hid (by
          rw [List.map_append, List.map_singleton, HRB.out]
          simpa using hown3)
        have hb3 : Ext w1 w3 := ((he.trans hb2).alloc _).grown hgr3 (fun q hq => own_ge HOW2.out q hq)
        have HSQ3 : Hid (SlU w3 (some ⟨qb, 0, none⟩) qs) := Lib.hid (Sl.grown (HSQ.out.ext ((Ext.refl _).alloc _)) hgr3 (fun e => by
          have := own_lt HOWN.out qb e.symm
          omega))
        clear hown3 hgr3
        go_wp2
        go_roundw
        case rel => exact ⟨qb, mq, qs, ds ++ [UInt8.ofNat (48 + r)], D', j + 1, dc', rfl, rfl, HMQ.out, by rw [List.length_append, HDL.out]; rfl, hmq1, HSQ3.out, HQN.out, HQX.out, HO3.out, HDE.out, HJ.out, hb3⟩
        case measure => simp; omega
end Go.Proofs.YtcpapnnghclbmaaDoor
