/- The reference's Same of banks: a contract. Conditions: those of each theorem. -/
import Derived.Test.YtfnmgcblhebdbaaGreatDoorBkSp
import Derived.Test.YtfnmgcblhebdbaaGreatDoorBkM
namespace Go.Proofs.YtfnmgcblhebdbaaGreatDoor
open Go.RowKit
namespace Bk
/-- What each operation of the region leaves. -/
def sbkL (n0 kk b1 o1 b2 o2 n c d : Nat) (vx vy : Value) (bq : Bool) : List (Option Value → World → Prop) := [fun u _ => u = some (.pointer (some ⟨n0, 5, none⟩)),
  fun u _ => u = some (.slice (some ⟨b1, o1, none⟩) n c),
  fun u _ => u = some (.int .i64 (kk : Int)),
  fun u _ => u = some (.pointer (some ⟨b1, o1 + kk * 7, none⟩)),
  fun u _ => u = some (vx),
  fun u _ => u = some (.pointer (some ⟨n0 + 1, 5, none⟩)),
  fun u _ => u = some (.slice (some ⟨b2, o2, none⟩) n d),
  fun u _ => u = some (.int .i64 (kk : Int)),
  fun u _ => u = some (.pointer (some ⟨b2, o2 + kk * 7, none⟩)),
  fun u _ => u = some (vy),
  fun u _ => u = some (.bool bq),
  fun u _ => u = some (.bool (!bq))]
theorem sbkL_mono (n0 kk b1 o1 b2 o2 n c d : Nat) (vx vy : Value) (bq : Bool) : AllMono (sbkL n0 kk b1 o1 b2 o2 n c d vx vy bq) := ⟨mono_val _, mono_val _, mono_val _, mono_val _, mono_val _, mono_val _, mono_val _, mono_val _, mono_val _, mono_val _, mono_val _, mono_val _, trivial⟩
def sbkR (n0 kk b1 o1 b2 o2 n c d : Nat) (vx vy : Value) (bq : Bool) (j : Nat) (u : Option Value) (w : World) : Prop := (sbkL n0 kk b1 o1 b2 o2 n c d vx vy bq).getD j (fun _ _ => True) u w
theorem sbkR_ext (n0 kk b1 o1 b2 o2 n c d : Nat) (vx vy : Value) (bq : Bool) (j : Nat) (u : Option Value) (w w' : World) (he : Ext w w') (hR : sbkR n0 kk b1 o1 b2 o2 n c d vx vy bq j u w) : sbkR n0 kk b1 o1 b2 o2 n c d vx vy bq j u w' := ((sbkL_mono n0 kk b1 o1 b2 o2 n c d vx vy bq).at_ j) u w w' he hR
def sbkD : List Nat := [129, 130, 131, 132, 133, 134, 135, 136, 137, 138, 139, 140]
def sbkE (n0 kk : Nat) (t : Array Value) : Prop := t.getD 2 undef = .pointer (some ⟨n0, 0, none⟩) ∧ t.getD 3 undef = .pointer (some ⟨n0 + 1, 0, none⟩) ∧ t.getD 8 undef = .int .i64 (kk : Int) ∧ t.size = 141

set_option maxRecDepth 100000 in
set_option maxHeartbeats 25600000 in
theorem rSame_any (x y : BankL) {v : Bool} (hv : v = true ↔ x.bank = y.bank) (w : World) (hx : x.In w) (hy : y.In w) :
    Calls Tryz.prog 12 #[x.agg, y.agg] w fun e w' => e = .returned (.bool v) ∧ Ext w w' := by
  obtain ⟨CA, hca, hna, -, hka⟩ := x.packed
  obtain ⟨CB, hcb, hnb, -, hkb⟩ := y.packed
  rw [hca, hcb]
  have HV := Lib.hid hv
  have EN := Lib.hid (enters_of Tryz.func23 (by kernel_rfl) rfl)
  clear hv
  obtain ⟨n_gp, hn_gp⟩ : ∃ n, x.gp.xs.length = n := ⟨_, rfl⟩
  obtain ⟨m_gp, hm_gp⟩ : ∃ n, y.gp.xs.length = n := ⟨_, rfl⟩
  obtain ⟨VA_gp, va_gp⟩ : ∃ A, x.gp.A = A := ⟨_, rfl⟩
  obtain ⟨VB_gp, vb_gp⟩ : ∃ A, y.gp.A = A := ⟨_, rfl⟩
  obtain ⟨n_gq, hn_gq⟩ : ∃ n, x.gq.xs.length = n := ⟨_, rfl⟩
  obtain ⟨m_gq, hm_gq⟩ : ∃ n, y.gq.xs.length = n := ⟨_, rfl⟩
  obtain ⟨VA_gq, va_gq⟩ : ∃ A, x.gq.A = A := ⟨_, rfl⟩
  obtain ⟨VB_gq, vb_gq⟩ : ∃ A, y.gq.A = A := ⟨_, rfl⟩
  obtain ⟨n_outl, hn_outl⟩ : ∃ n, x.outl.length = n := ⟨_, rfl⟩
  obtain ⟨m_outl, hm_outl⟩ : ∃ n, y.outl.length = n := ⟨_, rfl⟩
  obtain ⟨VA_outl, va_outl⟩ : ∃ A, x.oA = A := ⟨_, rfl⟩
  obtain ⟨VB_outl, vb_outl⟩ : ∃ A, y.oA = A := ⟨_, rfl⟩
  obtain ⟨n_assets, hn_assets⟩ : ∃ n, x.assets.length = n := ⟨_, rfl⟩
  obtain ⟨m_assets, hm_assets⟩ : ∃ n, y.assets.length = n := ⟨_, rfl⟩
  obtain ⟨VA_assets, va_assets⟩ : ∃ A, x.aA = A := ⟨_, rfl⟩
  obtain ⟨VB_assets, vb_assets⟩ : ∃ A, y.aA = A := ⟨_, rfl⟩
  obtain ⟨n_ents, hn_ents⟩ : ∃ n, x.ents.length = n := ⟨_, rfl⟩
  obtain ⟨m_ents, hm_ents⟩ : ∃ n, y.ents.length = n := ⟨_, rfl⟩
  obtain ⟨VA_ents, va_ents⟩ : ∃ A, x.eA = A := ⟨_, rfl⟩
  obtain ⟨VB_ents, vb_ents⟩ : ∃ A, y.eA = A := ⟨_, rfl⟩
  obtain ⟨n_enem, hn_enem⟩ : ∃ n, x.enem.length = n := ⟨_, rfl⟩
  obtain ⟨m_enem, hm_enem⟩ : ∃ n, y.enem.length = n := ⟨_, rfl⟩
  obtain ⟨VA_enem, va_enem⟩ : ∃ A, x.nA = A := ⟨_, rfl⟩
  obtain ⟨VB_enem, vb_enem⟩ : ∃ A, y.nA = A := ⟨_, rfl⟩
  have J0 : Hid (CA[0]? = some (.int .i64 x.now) ∧ CB[0]? = some (.int .i64 y.now)) := Lib.hid ⟨by rw [← hka]; rfl, by rw [← hkb]; rfl⟩
  have J1 : Hid (CA[1]? = some (.slice VA_gp n_gp x.gp.c) ∧ CB[1]? = some (.slice VB_gp m_gp y.gp.c)) := Lib.hid ⟨by rw [← hka, ← hn_gp, ← va_gp]; rfl, by rw [← hkb, ← hm_gp, ← vb_gp]; rfl⟩
  have J2 : Hid (CA[2]? = some (.slice VA_gq n_gq x.gq.c) ∧ CB[2]? = some (.slice VB_gq m_gq y.gq.c)) := Lib.hid ⟨by rw [← hka, ← hn_gq, ← va_gq]; rfl, by rw [← hkb, ← hm_gq, ← vb_gq]; rfl⟩
  have J3 : Hid (CA[3]? = some (.slice VA_outl n_outl x.oc) ∧ CB[3]? = some (.slice VB_outl m_outl y.oc)) := Lib.hid ⟨by rw [← hka, ← hn_outl, ← va_outl]; rfl, by rw [← hkb, ← hm_outl, ← vb_outl]; rfl⟩
  have J4 : Hid (CA[4]? = some (.slice VA_assets n_assets x.ac) ∧ CB[4]? = some (.slice VB_assets m_assets y.ac)) := Lib.hid ⟨by rw [← hka, ← hn_assets, ← va_assets]; rfl, by rw [← hkb, ← hm_assets, ← vb_assets]; rfl⟩
  have J5 : Hid (CA[5]? = some (.slice VA_ents n_ents x.ec) ∧ CB[5]? = some (.slice VB_ents m_ents y.ec)) := Lib.hid ⟨by rw [← hka, ← hn_ents, ← va_ents]; rfl, by rw [← hkb, ← hm_ents, ← vb_ents]; rfl⟩
  have J6 : Hid (CA[6]? = some (.slice VA_enem n_enem x.nc) ∧ CB[6]? = some (.slice VB_enem m_enem y.nc)) := Lib.hid ⟨by rw [← hka, ← hn_enem, ← va_enem]; rfl, by rw [← hkb, ← hm_enem, ← vb_enem]; rfl⟩
  have K1 := Lib.hid (fun (v : Bool) (hv : v = true ↔ x.gp.xs = y.gp.xs) (W : World) (h : Ext w W) => rints_any x.gp.A x.gp.c x.gp.xs y.gp.A y.gp.c y.gp.xs hn_gp hm_gp (v := v) hv (by rw [← hn_gp]; exact sl_len63 ⟨hx.gp.2.1, hx.gp.2.2.1⟩) W (hx.gp.ext h).1 (hy.gp.ext h).1)
  rw [va_gp, vb_gp] at K1
  have K2 := Lib.hid (fun (v : Bool) (hv : v = true ↔ x.gq.xs = y.gq.xs) (W : World) (h : Ext w W) => rints_any x.gq.A x.gq.c x.gq.xs y.gq.A y.gq.c y.gq.xs hn_gq hm_gq (v := v) hv (by rw [← hn_gq]; exact sl_len63 ⟨hx.gq.2.1, hx.gq.2.2.1⟩) W (hx.gq.ext h).1 (hy.gq.ext h).1)
  rw [va_gq, vb_gq] at K2
  have S1_outl : Hid (SlX eTpc w VA_outl x.outl) := Lib.hid (by rw [← va_outl]; exact hx.outl)
  have S2_outl : Hid (SlX eTpc w VB_outl y.outl) := Lib.hid (by rw [← vb_outl]; exact hy.outl)
  have HN_outl := Lib.hid hn_outl
  have HM_outl := Lib.hid hm_outl
  have hl_outl : n_outl ≤ 9223372036854775807 := by rw [← hn_outl]; exact sl_len63 hx.oc
  have S1_assets : Hid (SlX eAst w VA_assets x.assets) := Lib.hid (by rw [← va_assets]; exact hx.assets)
  have S2_assets : Hid (SlX eAst w VB_assets y.assets) := Lib.hid (by rw [← vb_assets]; exact hy.assets)
  have HN_assets := Lib.hid hn_assets
  have HM_assets := Lib.hid hm_assets
  have hl_assets : n_assets ≤ 9223372036854775807 := by rw [← hn_assets]; exact sl_len63 hx.ac
  have S1_ents : Hid (SlX eEnt w VA_ents x.ents) := Lib.hid (by rw [← va_ents]; exact hx.ents)
  have S2_ents : Hid (SlX eEnt w VB_ents y.ents) := Lib.hid (by rw [← vb_ents]; exact hy.ents)
  have HN_ents := Lib.hid hn_ents
  have HM_ents := Lib.hid hm_ents
  have hl_ents : n_ents ≤ 9223372036854775807 := by rw [← hn_ents]; exact sl_len63 hx.ec
  have S1_enem : Hid (SlX ePar w VA_enem x.enem) := Lib.hid (by rw [← va_enem]; exact hx.enem)
  have S2_enem : Hid (SlX ePar w VB_enem y.enem) := Lib.hid (by rw [← vb_enem]; exact hy.enem)
  have HN_enem := Lib.hid hn_enem
  have HM_enem := Lib.hid hm_enem
  have hl_enem : n_enem ≤ 9223372036854775807 := by rw [← hn_enem]; exact sl_len63 hx.nc
  clear hx hy hca hcb hna hnb hka hkb hn_gp hm_gp va_gp vb_gp hn_gq hm_gq va_gq vb_gq hn_outl hm_outl va_outl vb_outl hn_assets hm_assets va_assets vb_assets hn_ents hm_ents va_ents vb_ents hn_enem hm_enem va_enem vb_enem
  have X_0 : Hid (Ext w ((w.alloc (.cells CA 31)).alloc (.cells CB 31))) := Lib.hid (((Ext.refl _).alloc _).alloc _)
  have HA_0 : Hid (((w.alloc (.cells CA 31)).alloc (.cells CB 31)).heap[w.heap.size]? = some (.cells CA 31 (0, 0))) := Lib.hid (two_fst' _ _ _)
  have HB_0 : Hid (((w.alloc (.cells CA 31)).alloc (.cells CB 31)).heap[w.heap.size + 1]? = some (.cells CB 31 (0, 0))) := Lib.hid (heap_new_at _ _ _ (by simp))
  have ca0 : ((w.alloc (.cells CA 31)).alloc (.cells CB 31)).cell? ⟨w.heap.size, 0, none⟩ = some (.int .i64 x.now) := (cell_of_row _ _ 0 _ _ _ HA_0.out).trans J0.out.1
  have cb0 : ((w.alloc (.cells CA 31)).alloc (.cells CB 31)).cell? ⟨w.heap.size + 1, 0, none⟩ = some (.int .i64 y.now) := (cell_of_row _ _ 0 _ _ _ HB_0.out).trans J0.out.2
  have ca1 : ((w.alloc (.cells CA 31)).alloc (.cells CB 31)).cell? ⟨w.heap.size, 1, none⟩ = some (.slice VA_gp n_gp x.gp.c) := (cell_of_row _ _ 1 _ _ _ HA_0.out).trans J1.out.1
  have cb1 : ((w.alloc (.cells CA 31)).alloc (.cells CB 31)).cell? ⟨w.heap.size + 1, 1, none⟩ = some (.slice VB_gp m_gp y.gp.c) := (cell_of_row _ _ 1 _ _ _ HB_0.out).trans J1.out.2
  go_enter Tryz.func12, Tryz.ntmps12
  by_cases hq : x.now = y.now
  case neg =>
    have HF := Lib.hid (no_eq HV.out (fun e => hq (congrArg Bank.now e)))
    have t0 : (x.now != y.now) = true := by rw [bne_iff_ne]; exact hq
    clear hq
    go_wp2
    go_ret
    exact ⟨ret_bool HF.out.symm, X_0.out⟩
  have Q0 := Lib.hid hq
  have t0 : (x.now != y.now) = false := by rw [hq]; simp
  clear hq
  by_cases hq : x.gp.xs = y.gp.xs
  case neg =>
    have HF := Lib.hid (no_eq HV.out (fun e => hq (congrArg Bank.pts e)))
    have K := Lib.hid (K1.out false (fa hq))
    clear hq
    go_wp2_with fail
    with_reducible refine (K.out _ X_0.out).mono ?_
    rintro e w9 ⟨rfl, hb⟩
    go_wp2
    go_ret
    exact ⟨ret_bool HF.out.symm, X_0.out.trans hb⟩
  have Q1 := Lib.hid hq
  have K := Lib.hid (K1.out true (tr hq))
  clear hq
  go_wp2_with fail
  with_reducible refine (K.out _ X_0.out).mono ?_
  rintro e w1 ⟨rfl, hb⟩
  have X_1 := Lib.hid (X_0.out.trans hb)
  have HA_1 := Lib.hid (hb.blockAt HA_0.out)
  have HB_1 := Lib.hid (hb.blockAt HB_0.out)
  clear hb K X_0 HA_0 HB_0 ca0 cb0 ca1 cb1 t0
  have ca2 : w1.cell? ⟨w.heap.size, 2, none⟩ = some (.slice VA_gq n_gq x.gq.c) := (cell_of_row _ _ 2 _ _ _ HA_1.out).trans J2.out.1
  have cb2 : w1.cell? ⟨w.heap.size + 1, 2, none⟩ = some (.slice VB_gq m_gq y.gq.c) := (cell_of_row _ _ 2 _ _ _ HB_1.out).trans J2.out.2
  by_cases hq : x.gq.xs = y.gq.xs
  case neg =>
    have HF := Lib.hid (no_eq HV.out (fun e => hq (congrArg Bank.prior e)))
    have K := Lib.hid (K2.out false (fa hq))
    clear hq
    go_wp2_with fail
    with_reducible refine (K.out _ X_1.out).mono ?_
    rintro e w9 ⟨rfl, hb⟩
    go_wp2
    go_ret
    exact ⟨ret_bool HF.out.symm, X_1.out.trans hb⟩
  have Q2 := Lib.hid hq
  have K := Lib.hid (K2.out true (tr hq))
  clear hq
  go_wp2_with fail
  with_reducible refine (K.out _ X_1.out).mono ?_
  rintro e w2 ⟨rfl, hb⟩
  have X_2 := Lib.hid (X_1.out.trans hb)
  have HA_2 := Lib.hid (hb.blockAt HA_1.out)
  have HB_2 := Lib.hid (hb.blockAt HB_1.out)
  clear hb K X_1 HA_1 HB_1 ca2 cb2
  have ca3 : w2.cell? ⟨w.heap.size, 3, none⟩ = some (.slice VA_outl n_outl x.oc) := (cell_of_row _ _ 3 _ _ _ HA_2.out).trans J3.out.1
  have cb3 : w2.cell? ⟨w.heap.size + 1, 3, none⟩ = some (.slice VB_outl m_outl y.oc) := (cell_of_row _ _ 3 _ _ _ HB_2.out).trans J3.out.2
  have ca4 : w2.cell? ⟨w.heap.size, 4, none⟩ = some (.slice VA_assets n_assets x.ac) := (cell_of_row _ _ 4 _ _ _ HA_2.out).trans J4.out.1
  have cb4 : w2.cell? ⟨w.heap.size + 1, 4, none⟩ = some (.slice VB_assets m_assets y.ac) := (cell_of_row _ _ 4 _ _ _ HB_2.out).trans J4.out.2
  have ca5 : w2.cell? ⟨w.heap.size, 5, none⟩ = some (.slice VA_ents n_ents x.ec) := (cell_of_row _ _ 5 _ _ _ HA_2.out).trans J5.out.1
  have cb5 : w2.cell? ⟨w.heap.size + 1, 5, none⟩ = some (.slice VB_ents m_ents y.ec) := (cell_of_row _ _ 5 _ _ _ HB_2.out).trans J5.out.2
  have ca6 : w2.cell? ⟨w.heap.size, 6, none⟩ = some (.slice VA_enem n_enem x.nc) := (cell_of_row _ _ 6 _ _ _ HA_2.out).trans J6.out.1
  have cb6 : w2.cell? ⟨w.heap.size + 1, 6, none⟩ = some (.slice VB_enem m_enem y.nc) := (cell_of_row _ _ 6 _ _ _ HB_2.out).trans J6.out.2
  by_cases hnm : n_outl = m_outl
  case neg =>
    have l3 : ((n_outl : Int) != (m_outl : Int)) = true := by rw [bne_iff_ne]; omega
    have HF := Lib.hid (no_eq HV.out (fun e => hnm (by rw [← HN_outl.out, ← HM_outl.out]; have := congrArg (fun r : Bank => r.outl.length) e; simpa [BankL.bank] using this)))
    clear hnm
    go_wp2
    go_ret
    exact ⟨ret_bool HF.out.symm, X_2.out⟩
  subst hnm
  have l3 : ((n_outl : Int) != (n_outl : Int)) = false := by simp
  by_cases hnm : n_assets = m_assets
  case neg =>
    have l4 : ((n_assets : Int) != (m_assets : Int)) = true := by rw [bne_iff_ne]; omega
    have HF := Lib.hid (no_eq HV.out (fun e => hnm (by rw [← HN_assets.out, ← HM_assets.out]; have := congrArg (fun r : Bank => r.assets.length) e; simpa [BankL.bank] using this)))
    clear hnm
    go_wp2
    go_ret
    exact ⟨ret_bool HF.out.symm, X_2.out⟩
  subst hnm
  have l4 : ((n_assets : Int) != (n_assets : Int)) = false := by simp
  by_cases hnm : n_ents = m_ents
  case neg =>
    have l5 : ((n_ents : Int) != (m_ents : Int)) = true := by rw [bne_iff_ne]; omega
    have HF := Lib.hid (no_eq HV.out (fun e => hnm (by rw [← HN_ents.out, ← HM_ents.out]; have := congrArg (fun r : Bank => r.ents.length) e; simpa [BankL.bank] using this)))
    clear hnm
    go_wp2
    go_ret
    exact ⟨ret_bool HF.out.symm, X_2.out⟩
  subst hnm
  have l5 : ((n_ents : Int) != (n_ents : Int)) = false := by simp
  by_cases hnm : n_enem = m_enem
  case neg =>
    have l6 : ((n_enem : Int) != (m_enem : Int)) = true := by rw [bne_iff_ne]; omega
    have HF := Lib.hid (no_eq HV.out (fun e => hnm (by rw [← HN_enem.out, ← HM_enem.out]; have := congrArg (fun r : Bank => r.enem.length) e; simpa [BankL.bank] using this)))
    clear hnm
    go_wp2
    go_ret
    exact ⟨ret_bool HF.out.symm, X_2.out⟩
  subst hnm
  have l6 : ((n_enem : Int) != (n_enem : Int)) = false := by simp
  have DA3 := Lib.hid ca3
  have DB3 := Lib.hid cb3
  have DA4 := Lib.hid ca4
  have DB4 := Lib.hid cb4
  have DA5 := Lib.hid ca5
  have DB5 := Lib.hid cb5
  have DA6 := Lib.hid ca6
  have DB6 := Lib.hid cb6
  clear HA_2 HB_2
  go_wp2
  clear ca3 cb3 ca4 cb4 ca6 cb6 ca5 cb5 l3 l4 l6 l5
  go_loopw [5] (fun i wr => ∃ k : Nat, k ≤ n_outl ∧ i = .int .i64 k ∧ Hid (∀ j, j < k → (x.outl)[j]? = (y.outl)[j]?) ∧ Hid (Ext w2 wr)) (fun i _ => n_outl - (intOf i).toNat)
  case atStart => exact ⟨0, by omega, rfl, Lib.hid (fun j hj => absurd hj (by omega)), Lib.hid (Ext.refl _)⟩
  case round =>
  obtain ⟨k, hk, rfl, HALL, HE⟩ := hrel
  have ca := HE.out.keep DA3.out
  have cb := HE.out.keep DB3.out
  by_cases hlt : k < n_outl
  · obtain ⟨a, ha⟩ : ∃ a, x.outl[k]? = some a := ⟨x.outl[k]'(by rw [HN_outl.out]; exact hlt), List.getElem?_eq_getElem _⟩
    obtain ⟨b, hb⟩ : ∃ a, y.outl[k]? = some a := ⟨y.outl[k]'(by rw [HM_outl.out]; exact hlt), List.getElem?_eq_getElem _⟩
    obtain ⟨b1, o1, rfl, hb1, hc1, hi1⟩ := (S1_outl.out.ext (X_2.out.trans HE.out)).at_ ha
    obtain ⟨b2, o2, rfl, hb2, hc2, hi2⟩ := (S2_outl.out.ext (X_2.out.trans HE.out)).at_ hb
    have ki0 : (0 : Int) ≤ (k : Int) := by omega
    have ki1 : (k : Int) < (n_outl : Int) := by omega
    have x0 : wr.cell? ⟨b1, o1 + k * 2, none⟩ = some (.string (a.1)) := hc1 0 _ rfl
    have x1 : wr.cell? ⟨b1, o1 + k * 2 + 1, none⟩ = some (.string (a.2)) := hc1 1 _ rfl
    have y0 : wr.cell? ⟨b2, o2 + k * 2, none⟩ = some (.string (b.1)) := hc2 0 _ rfl
    have y1 : wr.cell? ⟨b2, o2 + k * 2 + 1, none⟩ = some (.string (b.2)) := hc2 1 _ rfl
    have HP := Lib.hid ha
    have HQ := Lib.hid hb
    clear ha hb hc1 hc2 hi1 hi2
    by_cases h0 : a.1 = b.1
    case neg =>
      have HF := Lib.hid (no_eq HV.out (fun e => ne_at HP.out HQ.out (fun e2 => h0 (by rw [e2])) (congrArg Bank.outl e)))
      have u0 : (a.1.toList == b.1.toList) = false := strF h0
      clear h0
      go_wp2
      go_quiet (fail)
      go_wp2
      go_ret
      exact ⟨ret_bool HF.out.symm, (X_2.out.trans HE.out).drewN _⟩
    by_cases h1 : a.2 = b.2
    case neg =>
      have HF := Lib.hid (no_eq HV.out (fun e => ne_at HP.out HQ.out (fun e2 => h1 (by rw [e2])) (congrArg Bank.outl e)))
      have u0 : (a.1.toList == b.1.toList) = true := strT h0
      have u1 : (a.2.toList == b.2.toList) = false := strF h1
      clear h0 h1
      go_wp2
      go_quiet (fail)
      go_wp2
      go_ret
      exact ⟨ret_bool HF.out.symm, (X_2.out.trans HE.out).drewN _⟩
    have hab : a = b := by
      cases a; cases b
      simp only at h0 h1
      rw [h0, h1]
    clear h0 h1
    have HF := Lib.hid (all_next HP.out HQ.out hab HALL.out)
    subst hab
    go_wp2
    go_quiet (fail)
    go_wp2
    go_roundw
    case rel => exact ⟨k + 1, by omega, by go_num, HF, Lib.hid (HE.out.drewN _)⟩
    case measure => simp [intOf]; omega
  obtain rfl : n_outl = k := by omega
  have Q3 := Lib.hid (all_eq HN_outl.out HM_outl.out HALL.out)
  obtain ⟨w3, rfl⟩ : ∃ W, W = wr := ⟨_, rfl⟩
  have X_3 := Lib.hid (X_2.out.trans HE.out)
  have DA4' := Lib.hid (HE.out.keep DA4.out)
  have DB4' := Lib.hid (HE.out.keep DB4.out)
  clear DA4 DB4
  have DA4 := DA4'
  have DB4 := DB4'
  clear DA4' DB4'
  have DA6' := Lib.hid (HE.out.keep DA6.out)
  have DB6' := Lib.hid (HE.out.keep DB6.out)
  clear DA6 DB6
  have DA6 := DA6'
  have DB6 := DB6'
  clear DA6' DB6'
  have DA5' := Lib.hid (HE.out.keep DA5.out)
  have DB5' := Lib.hid (HE.out.keep DB5.out)
  clear DA5 DB5
  have DA5 := DA5'
  have DB5 := DB5'
  clear DA5' DB5'
  clear DA3 DB3 X_2 HE HALL hk hlt
  have ca1 := DA4.out
  have cb1 := DB4.out
  go_wp2
  clear ca cb ca1 cb1
  go_loopw [6] (fun i wr => ∃ k : Nat, k ≤ n_assets ∧ i = .int .i64 k ∧ Hid (∀ j, j < k → (x.assets)[j]? = (y.assets)[j]?) ∧ Hid (Ext w3 wr)) (fun i _ => n_assets - (intOf i).toNat)
  case atStart => exact ⟨0, by omega, rfl, Lib.hid (fun j hj => absurd hj (by omega)), Lib.hid (Ext.refl _)⟩
  case round =>
  obtain ⟨k, hk, rfl, HALL, HE⟩ := hrel
  have ca := HE.out.keep DA4.out
  have cb := HE.out.keep DB4.out
  by_cases hlt : k < n_assets
  · obtain ⟨a, ha⟩ : ∃ a, x.assets[k]? = some a := ⟨x.assets[k]'(by rw [HN_assets.out]; exact hlt), List.getElem?_eq_getElem _⟩
    obtain ⟨b, hb⟩ : ∃ a, y.assets[k]? = some a := ⟨y.assets[k]'(by rw [HM_assets.out]; exact hlt), List.getElem?_eq_getElem _⟩
    obtain ⟨b1, o1, rfl, hb1, hc1, hi1⟩ := (S1_assets.out.ext (X_3.out.trans HE.out)).at_ ha
    obtain ⟨b2, o2, rfl, hb2, hc2, hi2⟩ := (S2_assets.out.ext (X_3.out.trans HE.out)).at_ hb
    have ki0 : (0 : Int) ≤ (k : Int) := by omega
    have ki1 : (k : Int) < (n_assets : Int) := by omega
    have x0 : wr.cell? ⟨b1, o1 + k * 5, none⟩ = some (.int .i64 (a.id)) := hc1 0 _ rfl
    have x1 : wr.cell? ⟨b1, o1 + k * 5 + 1, none⟩ = some (.int .i64 (a.bytes)) := hc1 1 _ rfl
    have x2 : wr.cell? ⟨b1, o1 + k * 5 + 2, none⟩ = some (.string (a.alt)) := hc1 2 _ rfl
    have x3 : wr.cell? ⟨b1, o1 + k * 5 + 3, none⟩ = some (.int .i64 (a.frm)) := hc1 3 _ rfl
    have x4 : wr.cell? ⟨b1, o1 + k * 5 + 4, none⟩ = some (.int .i64 (a.unt)) := hc1 4 _ rfl
    have y0 : wr.cell? ⟨b2, o2 + k * 5, none⟩ = some (.int .i64 (b.id)) := hc2 0 _ rfl
    have y1 : wr.cell? ⟨b2, o2 + k * 5 + 1, none⟩ = some (.int .i64 (b.bytes)) := hc2 1 _ rfl
    have y2 : wr.cell? ⟨b2, o2 + k * 5 + 2, none⟩ = some (.string (b.alt)) := hc2 2 _ rfl
    have y3 : wr.cell? ⟨b2, o2 + k * 5 + 3, none⟩ = some (.int .i64 (b.frm)) := hc2 3 _ rfl
    have y4 : wr.cell? ⟨b2, o2 + k * 5 + 4, none⟩ = some (.int .i64 (b.unt)) := hc2 4 _ rfl
    have HP := Lib.hid ha
    have HQ := Lib.hid hb
    clear ha hb hc1 hc2 hi1 hi2
    by_cases h0 : a.id = b.id
    case neg =>
      have HF := Lib.hid (no_eq HV.out (fun e => ne_at HP.out HQ.out (fun e2 => h0 (by rw [e2])) (congrArg Bank.assets e)))
      have u0 : (a.id == b.id) = false := by rw [beq_eq_false_iff_ne]; exact h0
      clear h0
      go_wp2
      go_quiet (fail)
      go_wp2
      go_ret
      exact ⟨ret_bool HF.out.symm, (X_3.out.trans HE.out).drewN _⟩
    by_cases h1 : a.bytes = b.bytes
    case neg =>
      have HF := Lib.hid (no_eq HV.out (fun e => ne_at HP.out HQ.out (fun e2 => h1 (by rw [e2])) (congrArg Bank.assets e)))
      have u0 : (a.id == b.id) = true := by rw [h0]; simp
      have u1 : (a.bytes == b.bytes) = false := by rw [beq_eq_false_iff_ne]; exact h1
      clear h0 h1
      go_wp2
      go_quiet (fail)
      go_wp2
      go_ret
      exact ⟨ret_bool HF.out.symm, (X_3.out.trans HE.out).drewN _⟩
    by_cases h2 : a.alt = b.alt
    case neg =>
      have HF := Lib.hid (no_eq HV.out (fun e => ne_at HP.out HQ.out (fun e2 => h2 (by rw [e2])) (congrArg Bank.assets e)))
      have u0 : (a.id == b.id) = true := by rw [h0]; simp
      have u1 : (a.bytes == b.bytes) = true := by rw [h1]; simp
      have u2 : (a.alt.toList == b.alt.toList) = false := strF h2
      clear h0 h1 h2
      go_wp2
      go_quiet (fail)
      go_wp2
      go_ret
      exact ⟨ret_bool HF.out.symm, (X_3.out.trans HE.out).drewN _⟩
    by_cases h3 : a.frm = b.frm
    case neg =>
      have HF := Lib.hid (no_eq HV.out (fun e => ne_at HP.out HQ.out (fun e2 => h3 (by rw [e2])) (congrArg Bank.assets e)))
      have u0 : (a.id == b.id) = true := by rw [h0]; simp
      have u1 : (a.bytes == b.bytes) = true := by rw [h1]; simp
      have u2 : (a.alt.toList == b.alt.toList) = true := strT h2
      have u3 : (a.frm == b.frm) = false := by rw [beq_eq_false_iff_ne]; exact h3
      clear h0 h1 h2 h3
      go_wp2
      go_quiet (fail)
      go_wp2
      go_ret
      exact ⟨ret_bool HF.out.symm, (X_3.out.trans HE.out).drewN _⟩
    by_cases h4 : a.unt = b.unt
    case neg =>
      have HF := Lib.hid (no_eq HV.out (fun e => ne_at HP.out HQ.out (fun e2 => h4 (by rw [e2])) (congrArg Bank.assets e)))
      have u0 : (a.id == b.id) = true := by rw [h0]; simp
      have u1 : (a.bytes == b.bytes) = true := by rw [h1]; simp
      have u2 : (a.alt.toList == b.alt.toList) = true := strT h2
      have u3 : (a.frm == b.frm) = true := by rw [h3]; simp
      have u4 : (a.unt == b.unt) = false := by rw [beq_eq_false_iff_ne]; exact h4
      clear h0 h1 h2 h3 h4
      go_wp2
      go_quiet (fail)
      go_wp2
      go_ret
      exact ⟨ret_bool HF.out.symm, (X_3.out.trans HE.out).drewN _⟩
    have hab : a = b := by
      cases a; cases b
      simp only at h0 h1 h2 h3 h4
      rw [h0, h1, h2, h3, h4]
    clear h0 h1 h2 h3 h4
    have HF := Lib.hid (all_next HP.out HQ.out hab HALL.out)
    subst hab
    go_wp2
    go_quiet (fail)
    go_wp2
    go_roundw
    case rel => exact ⟨k + 1, by omega, by go_num, HF, Lib.hid (HE.out.drewN _)⟩
    case measure => simp [intOf]; omega
  obtain rfl : n_assets = k := by omega
  have Q4 := Lib.hid (all_eq HN_assets.out HM_assets.out HALL.out)
  obtain ⟨w4, rfl⟩ : ∃ W, W = wr := ⟨_, rfl⟩
  have X_4 := Lib.hid (X_3.out.trans HE.out)
  have DA6' := Lib.hid (HE.out.keep DA6.out)
  have DB6' := Lib.hid (HE.out.keep DB6.out)
  clear DA6 DB6
  have DA6 := DA6'
  have DB6 := DB6'
  clear DA6' DB6'
  have DA5' := Lib.hid (HE.out.keep DA5.out)
  have DB5' := Lib.hid (HE.out.keep DB5.out)
  clear DA5 DB5
  have DA5 := DA5'
  have DB5 := DB5'
  clear DA5' DB5'
  clear DA4 DB4 X_3 HE HALL hk hlt
  have ca1 := DA6.out
  have cb1 := DB6.out
  go_wp2
  clear ca cb ca1 cb1
  go_loopw [7] (fun i wr => ∃ k : Nat, k ≤ n_enem ∧ i = .int .i64 k ∧ Hid (∀ j, j < k → (x.enem)[j]? = (y.enem)[j]?) ∧ Hid (Ext w4 wr)) (fun i _ => n_enem - (intOf i).toNat)
  case atStart => exact ⟨0, by omega, rfl, Lib.hid (fun j hj => absurd hj (by omega)), Lib.hid (Ext.refl _)⟩
  case round =>
  obtain ⟨k, hk, rfl, HALL, HE⟩ := hrel
  have ca := HE.out.keep DA6.out
  have cb := HE.out.keep DB6.out
  by_cases hlt : k < n_enem
  · obtain ⟨a, ha⟩ : ∃ a, x.enem[k]? = some a := ⟨x.enem[k]'(by rw [HN_enem.out]; exact hlt), List.getElem?_eq_getElem _⟩
    obtain ⟨b, hb⟩ : ∃ a, y.enem[k]? = some a := ⟨y.enem[k]'(by rw [HM_enem.out]; exact hlt), List.getElem?_eq_getElem _⟩
    obtain ⟨b1, o1, rfl, hb1, hc1, hi1⟩ := (S1_enem.out.ext (X_4.out.trans HE.out)).at_ ha
    obtain ⟨b2, o2, rfl, hb2, hc2, hi2⟩ := (S2_enem.out.ext (X_4.out.trans HE.out)).at_ hb
    have ki0 : (0 : Int) ≤ (k : Int) := by omega
    have ki1 : (k : Int) < (n_enem : Int) := by omega
    have x0 : wr.cell? ⟨b1, o1 + k * 2, none⟩ = some (.int .i64 (a.1)) := hc1 0 _ rfl
    have x1 : wr.cell? ⟨b1, o1 + k * 2 + 1, none⟩ = some (.int .i64 (a.2)) := hc1 1 _ rfl
    have y0 : wr.cell? ⟨b2, o2 + k * 2, none⟩ = some (.int .i64 (b.1)) := hc2 0 _ rfl
    have y1 : wr.cell? ⟨b2, o2 + k * 2 + 1, none⟩ = some (.int .i64 (b.2)) := hc2 1 _ rfl
    have HP := Lib.hid ha
    have HQ := Lib.hid hb
    clear ha hb hc1 hc2 hi1 hi2
    by_cases h0 : a.1 = b.1
    case neg =>
      have HF := Lib.hid (no_eq HV.out (fun e => ne_at HP.out HQ.out (fun e2 => h0 (by rw [e2])) (congrArg Bank.enem e)))
      have u0 : (a.1 == b.1) = false := by rw [beq_eq_false_iff_ne]; exact h0
      clear h0
      go_wp2
      go_quiet (fail)
      go_wp2
      go_ret
      exact ⟨ret_bool HF.out.symm, (X_4.out.trans HE.out).drewN _⟩
    by_cases h1 : a.2 = b.2
    case neg =>
      have HF := Lib.hid (no_eq HV.out (fun e => ne_at HP.out HQ.out (fun e2 => h1 (by rw [e2])) (congrArg Bank.enem e)))
      have u0 : (a.1 == b.1) = true := by rw [h0]; simp
      have u1 : (a.2 == b.2) = false := by rw [beq_eq_false_iff_ne]; exact h1
      clear h0 h1
      go_wp2
      go_quiet (fail)
      go_wp2
      go_ret
      exact ⟨ret_bool HF.out.symm, (X_4.out.trans HE.out).drewN _⟩
    have hab : a = b := by
      cases a; cases b
      simp only at h0 h1
      rw [h0, h1]
    clear h0 h1
    have HF := Lib.hid (all_next HP.out HQ.out hab HALL.out)
    subst hab
    go_wp2
    go_quiet (fail)
    go_wp2
    go_roundw
    case rel => exact ⟨k + 1, by omega, by go_num, HF, Lib.hid (HE.out.drewN _)⟩
    case measure => simp [intOf]; omega
  obtain rfl : n_enem = k := by omega
  have Q6 := Lib.hid (all_eq HN_enem.out HM_enem.out HALL.out)
  obtain ⟨w5, rfl⟩ : ∃ W, W = wr := ⟨_, rfl⟩
  have X_5 := Lib.hid (X_4.out.trans HE.out)
  have DA5' := Lib.hid (HE.out.keep DA5.out)
  have DB5' := Lib.hid (HE.out.keep DB5.out)
  clear DA5 DB5
  have DA5 := DA5'
  have DB5 := DB5'
  clear DA5' DB5'
  clear DA6 DB6 X_4 HE HALL hk hlt
  have ca1 := DA5.out
  have cb1 := DB5.out
  go_wp2
  clear ca cb ca1 cb1
  go_loopw [8] (fun i wr => ∃ k : Nat, k ≤ n_ents ∧ i = .int .i64 k ∧ Hid (∀ j, j < k → (x.ents.map EntL.ent)[j]? = (y.ents.map EntL.ent)[j]?) ∧ Hid (Ext w5 wr)) (fun i _ => n_ents - (intOf i).toNat)
  case atStart => exact ⟨0, by omega, rfl, Lib.hid (fun j hj => absurd hj (by omega)), Lib.hid (Ext.refl _)⟩
  case round =>
  obtain ⟨k, hk, rfl, HALL, HE⟩ := hrel
  have ca := HE.out.keep DA5.out
  have cb := HE.out.keep DB5.out
  by_cases hlt : k < n_ents
  · obtain ⟨a, ha⟩ : ∃ a, x.ents[k]? = some a := ⟨x.ents[k]'(by rw [HN_ents.out]; exact hlt), List.getElem?_eq_getElem _⟩
    obtain ⟨b, hb⟩ : ∃ a, y.ents[k]? = some a := ⟨y.ents[k]'(by rw [HM_ents.out]; exact hlt), List.getElem?_eq_getElem _⟩
    obtain ⟨b1, o1, rfl, hb1, hc1, hi1⟩ := (S1_ents.out.ext (X_5.out.trans HE.out)).at_ ha
    obtain ⟨b2, o2, rfl, hb2, hc2, hi2⟩ := (S2_ents.out.ext (X_5.out.trans HE.out)).at_ hb
    have ki0 : (0 : Int) ≤ (k : Int) := by omega
    have ki1 : (k : Int) < (n_ents : Int) := by omega
    obtain ⟨C1, hc1a, hn1, -, hk1⟩ := a.packed
    obtain ⟨C2, hc2a, hn2, -, hk2⟩ := b.packed
    have RA : Hid (wr.rangeAt b1 (o1 + k * 7) C1.toList) := Lib.hid (by rw [← hk1]; exact hc1)
    have RB : Hid (wr.rangeAt b2 (o2 + k * 7) C2.toList) := Lib.hid (by rw [← hk2]; exact hc2)
    have I1 := Lib.hid (infoEn hn1)
    have I2 := Lib.hid (infoEn hn2)
    have CA := Lib.hid ca
    have CB := Lib.hid cb
    have KI := Lib.hid (And.intro ki0 ki1)
    have HP : Hid ((x.ents.map EntL.ent)[k]? = some a.ent) := Lib.hid (by rw [List.getElem?_map, ha]; rfl)
    have HQ : Hid ((y.ents.map EntL.ent)[k]? = some b.ent) := Lib.hid (by rw [List.getElem?_map, hb]; rfl)
    have G1 : Hid (a.In wr) := Lib.hid hi1
    have G2 : Hid (b.In wr) := Lib.hid hi2
    have KK := Lib.hid (fun (v : Bool) (hv : v = true ↔ a.ent = b.ent) (wz : World) (hx : Ext wr wz) => rsameEntry_any a b hv wz (G1.out.ext hx) (G2.out.ext hx))
    rw [hc1a, hc2a] at KK
    clear ha hb hc1 hc2 hi1 hi2 hc1a hc2a hn1 hn2 hk1 hk2
    by_cases hpq : a.ent = b.ent
    · have HF := Lib.hid (all_next HP.out HQ.out hpq HALL.out)
      have K := Lib.hid (KK.out true (tr hpq))
      clear hpq
      go_wp2_with fail
      refine region_tb (by kernel_rfl) (by decide +kernel) (sbkE w.heap.size k) ⟨rfl, rfl, rfl, rfl⟩ 12 sbkD (fun _ => none) (sbkR w.heap.size k b1 o1 b2 o2 n_ents x.ec y.ec (.agg C1) (.agg C2) true) wr (Ext.refl _) (fun i h1 h2 => absurd h2 (Nat.not_lt.2 h1)) ?_ ?_
      · intro Tv dd lv U wz i o hE ho hlv hd hT
        obtain ⟨t2, t3, t8, tz⟩ := hE
        have hx := hT.ext
        match i, ho, hlv, hd with
        | 0, ho, hlv, hd =>
          obtain rfl := Option.some.inj ho
          have v0 := eval_old (d := dd) (hT.out 2 (by decide)) (by omega) t2
          refine tbw_yield (v := .pointer (some ⟨w.heap.size, 5, none⟩)) (sbkR_ext w.heap.size k b1 o1 b2 o2 n_ents x.ec y.ec (.agg C1) (.agg C2) true) hT ho hd (wanted_plain rfl) rfl (by decide) (by decide) ?_ (Ext.refl _) rfl
          generalize Act.eval ⟨over Tv U, dd⟩ = ev at *
          simp [execOp, go_sem, v0]
        | 1, ho, hlv, hd =>
          obtain rfl := Option.some.inj ho
          have f0 : U 129 = some (.pointer (some ⟨w.heap.size, 5, none⟩)) := hT.facts 0 (by decide) (dep hd 0 (by kernel_rfl)) (fun c e => by cases e)
          have v0 : Act.eval ⟨over Tv U, dd⟩ (.tmp 129) = _ := eval_new (t := Tv) (d := dd) f0 (by show 129 < Tv.size; omega)
          have hc := hx.keep CA.out
          refine tbw_yield (v := .slice (some ⟨b1, o1, none⟩) n_ents x.ec) (sbkR_ext w.heap.size k b1 o1 b2 o2 n_ents x.ec y.ec (.agg C1) (.agg C2) true) hT ho hd (wanted_plain rfl) rfl (by decide) (by decide) ?_ (Ext.refl _) rfl
          generalize Act.eval ⟨over Tv U, dd⟩ = ev at *
          simp [execOp, go_sem, v0, hc]
        | 2, ho, hlv, hd =>
          obtain rfl := Option.some.inj ho
          have v0 := eval_old (d := dd) (hT.out 8 (by decide)) (by omega) t8
          refine tbw_yield (v := .int .i64 (k : Int)) (sbkR_ext w.heap.size k b1 o1 b2 o2 n_ents x.ec y.ec (.agg C1) (.agg C2) true) hT ho hd (wanted_plain rfl) rfl (by decide) (by decide) ?_ (Ext.refl _) rfl
          generalize Act.eval ⟨over Tv U, dd⟩ = ev at *
          simp [execOp, go_sem, v0]
        | 3, ho, hlv, hd =>
          obtain rfl := Option.some.inj ho
          have f0 : U 130 = some (.slice (some ⟨b1, o1, none⟩) n_ents x.ec) := hT.facts 1 (by decide) (dep hd 1 (by kernel_rfl)) (fun c e => by cases e)
          have v0 : Act.eval ⟨over Tv U, dd⟩ (.tmp 130) = _ := eval_new (t := Tv) (d := dd) f0 (by show 130 < Tv.size; omega)
          have f1 : U 131 = some (.int .i64 (k : Int)) := hT.facts 2 (by decide) (dep hd 2 (by kernel_rfl)) (fun c e => by cases e)
          have v1 : Act.eval ⟨over Tv U, dd⟩ (.tmp 131) = _ := eval_new (t := Tv) (d := dd) f1 (by show 131 < Tv.size; omega)
          have ki := KI.out
          refine tbw_yield (v := .pointer (some ⟨b1, o1 + k * 7, none⟩)) (sbkR_ext w.heap.size k b1 o1 b2 o2 n_ents x.ec y.ec (.agg C1) (.agg C2) true) hT ho hd (wanted_plain rfl) rfl (by decide) (by decide) ?_ (Ext.refl _) rfl
          generalize Act.eval ⟨over Tv U, dd⟩ = ev at *
          simp [execOp, go_sem, v0, v1, ki]
        | 4, ho, hlv, hd =>
          obtain rfl := Option.some.inj ho
          have f0 : U 132 = some (.pointer (some ⟨b1, o1 + k * 7, none⟩)) := hT.facts 3 (by decide) (dep hd 3 (by kernel_rfl)) (fun c e => by cases e)
          have v0 : Act.eval ⟨over Tv U, dd⟩ (.tmp 132) = _ := eval_new (t := Tv) (d := dd) f0 (by show 132 < Tv.size; omega)
          refine tbw_yield (v := .agg C1) (sbkR_ext w.heap.size k b1 o1 b2 o2 n_ents x.ec y.ec (.agg C1) (.agg C2) true) hT ho hd (wanted_plain rfl) rfl (by decide) (by decide) (exec_load_arr _ _ rfl b1 (o1 + k * 7) v0 C1 _ (hx.range RA.out) Tryz.underlying56 rfl I1.out) (Ext.refl _) rfl
        | 5, ho, hlv, hd =>
          obtain rfl := Option.some.inj ho
          have v0 := eval_old (d := dd) (hT.out 3 (by decide)) (by omega) t3
          refine tbw_yield (v := .pointer (some ⟨w.heap.size + 1, 5, none⟩)) (sbkR_ext w.heap.size k b1 o1 b2 o2 n_ents x.ec y.ec (.agg C1) (.agg C2) true) hT ho hd (wanted_plain rfl) rfl (by decide) (by decide) ?_ (Ext.refl _) rfl
          generalize Act.eval ⟨over Tv U, dd⟩ = ev at *
          simp [execOp, go_sem, v0]
        | 6, ho, hlv, hd =>
          obtain rfl := Option.some.inj ho
          have f0 : U 134 = some (.pointer (some ⟨w.heap.size + 1, 5, none⟩)) := hT.facts 5 (by decide) (dep hd 5 (by kernel_rfl)) (fun c e => by cases e)
          have v0 : Act.eval ⟨over Tv U, dd⟩ (.tmp 134) = _ := eval_new (t := Tv) (d := dd) f0 (by show 134 < Tv.size; omega)
          have hc := hx.keep CB.out
          refine tbw_yield (v := .slice (some ⟨b2, o2, none⟩) n_ents y.ec) (sbkR_ext w.heap.size k b1 o1 b2 o2 n_ents x.ec y.ec (.agg C1) (.agg C2) true) hT ho hd (wanted_plain rfl) rfl (by decide) (by decide) ?_ (Ext.refl _) rfl
          generalize Act.eval ⟨over Tv U, dd⟩ = ev at *
          simp [execOp, go_sem, v0, hc]
        | 7, ho, hlv, hd =>
          obtain rfl := Option.some.inj ho
          have v0 := eval_old (d := dd) (hT.out 8 (by decide)) (by omega) t8
          refine tbw_yield (v := .int .i64 (k : Int)) (sbkR_ext w.heap.size k b1 o1 b2 o2 n_ents x.ec y.ec (.agg C1) (.agg C2) true) hT ho hd (wanted_plain rfl) rfl (by decide) (by decide) ?_ (Ext.refl _) rfl
          generalize Act.eval ⟨over Tv U, dd⟩ = ev at *
          simp [execOp, go_sem, v0]
        | 8, ho, hlv, hd =>
          obtain rfl := Option.some.inj ho
          have f0 : U 135 = some (.slice (some ⟨b2, o2, none⟩) n_ents y.ec) := hT.facts 6 (by decide) (dep hd 6 (by kernel_rfl)) (fun c e => by cases e)
          have v0 : Act.eval ⟨over Tv U, dd⟩ (.tmp 135) = _ := eval_new (t := Tv) (d := dd) f0 (by show 135 < Tv.size; omega)
          have f1 : U 136 = some (.int .i64 (k : Int)) := hT.facts 7 (by decide) (dep hd 7 (by kernel_rfl)) (fun c e => by cases e)
          have v1 : Act.eval ⟨over Tv U, dd⟩ (.tmp 136) = _ := eval_new (t := Tv) (d := dd) f1 (by show 136 < Tv.size; omega)
          have ki := KI.out
          refine tbw_yield (v := .pointer (some ⟨b2, o2 + k * 7, none⟩)) (sbkR_ext w.heap.size k b1 o1 b2 o2 n_ents x.ec y.ec (.agg C1) (.agg C2) true) hT ho hd (wanted_plain rfl) rfl (by decide) (by decide) ?_ (Ext.refl _) rfl
          generalize Act.eval ⟨over Tv U, dd⟩ = ev at *
          simp [execOp, go_sem, v0, v1, ki]
        | 9, ho, hlv, hd =>
          obtain rfl := Option.some.inj ho
          have f0 : U 137 = some (.pointer (some ⟨b2, o2 + k * 7, none⟩)) := hT.facts 8 (by decide) (dep hd 8 (by kernel_rfl)) (fun c e => by cases e)
          have v0 : Act.eval ⟨over Tv U, dd⟩ (.tmp 137) = _ := eval_new (t := Tv) (d := dd) f0 (by show 137 < Tv.size; omega)
          refine tbw_yield (v := .agg C2) (sbkR_ext w.heap.size k b1 o1 b2 o2 n_ents x.ec y.ec (.agg C1) (.agg C2) true) hT ho hd (wanted_plain rfl) rfl (by decide) (by decide) (exec_load_arr _ _ rfl b2 (o2 + k * 7) v0 C2 _ (hx.range RB.out) Tryz.underlying56 rfl I2.out) (Ext.refl _) rfl
        | 10, ho, hlv, hd =>
          obtain rfl := Option.some.inj ho
          have f0 : U 133 = some (.agg C1) := hT.facts 4 (by decide) (dep hd 4 (by kernel_rfl)) (fun c e => by cases e)
          have v0 : Act.eval ⟨over Tv U, dd⟩ (.tmp 133) = _ := eval_new (t := Tv) (d := dd) f0 (by show 133 < Tv.size; omega)
          have f1 : U 138 = some (.agg C2) := hT.facts 9 (by decide) (dep hd 9 (by kernel_rfl)) (fun c e => by cases e)
          have v1 : Act.eval ⟨over Tv U, dd⟩ (.tmp 138) = _ := eval_new (t := Tv) (d := dd) f1 (by show 138 < Tv.size; omega)
          refine tbw_call (f := 23) (args := #[.agg C1, .agg C2]) (sbkR_ext w.heap.size k b1 o1 b2 o2 n_ents x.ec y.ec (.agg C1) (.agg C2) true) hT ho hd (wanted_plain rfl) rfl (by decide) (by decide) (exec_call2 rfl rfl v0 v1 EN.out) ?_
          refine (K.out wz hx).mono ?_
          rintro e w' ⟨rfl, hb⟩
          exact ⟨_, rfl, hb, rfl⟩
        | 11, ho, hlv, hd =>
          obtain rfl := Option.some.inj ho
          have f0 : U 139 = some (.bool true) := hT.facts 10 (by decide) (dep hd 10 (by kernel_rfl)) (fun c e => by cases e)
          have v0 : Act.eval ⟨over Tv U, dd⟩ (.tmp 139) = _ := eval_new (t := Tv) (d := dd) f0 (by show 139 < Tv.size; omega)
          refine tbw_yield (v := .bool (!true)) (sbkR_ext w.heap.size k b1 o1 b2 o2 n_ents x.ec y.ec (.agg C1) (.agg C2) true) hT ho hd (wanted_plain rfl) rfl (by decide) (by decide) ?_ (Ext.refl _) rfl
          generalize Act.eval ⟨over Tv U, dd⟩ = ev at *
          simp [execOp, go_sem, v0]
        | i + 12, ho, _, _ => exact absurd ho (by simp)
      intro U wz hex hout hfin
      have f140 : U 140 = some (.bool (!true)) := hfin 11 (by decide) rfl
      have XE := Lib.hid hex
      clear hex hfin
      rw [over_list]
      simp (disch := decide) only [overL, Nat.reduceAdd, hout, Option.getD_none]
      rw [f140]
      simp only [Option.getD_some]
      clear hout f140
      go_wp2
      go_roundw
      case rel => exact ⟨k + 1, by omega, by go_num, HF, Lib.hid (HE.out.trans XE.out)⟩
      case measure => simp [intOf]; omega
    · have HF := Lib.hid (no_eq HV.out (fun e => ne_at HP.out HQ.out hpq (congrArg Bank.ents e)))
      have K := Lib.hid (KK.out false (fa hpq))
      clear hpq
      go_wp2_with fail
      refine region_tb (by kernel_rfl) (by decide +kernel) (sbkE w.heap.size k) ⟨rfl, rfl, rfl, rfl⟩ 12 sbkD (fun _ => none) (sbkR w.heap.size k b1 o1 b2 o2 n_ents x.ec y.ec (.agg C1) (.agg C2) false) wr (Ext.refl _) (fun i h1 h2 => absurd h2 (Nat.not_lt.2 h1)) ?_ ?_
      · intro Tv dd lv U wz i o hE ho hlv hd hT
        obtain ⟨t2, t3, t8, tz⟩ := hE
        have hx := hT.ext
        match i, ho, hlv, hd with
        | 0, ho, hlv, hd =>
          obtain rfl := Option.some.inj ho
          have v0 := eval_old (d := dd) (hT.out 2 (by decide)) (by omega) t2
          refine tbw_yield (v := .pointer (some ⟨w.heap.size, 5, none⟩)) (sbkR_ext w.heap.size k b1 o1 b2 o2 n_ents x.ec y.ec (.agg C1) (.agg C2) false) hT ho hd (wanted_plain rfl) rfl (by decide) (by decide) ?_ (Ext.refl _) rfl
          generalize Act.eval ⟨over Tv U, dd⟩ = ev at *
          simp [execOp, go_sem, v0]
        | 1, ho, hlv, hd =>
          obtain rfl := Option.some.inj ho
          have f0 : U 129 = some (.pointer (some ⟨w.heap.size, 5, none⟩)) := hT.facts 0 (by decide) (dep hd 0 (by kernel_rfl)) (fun c e => by cases e)
          have v0 : Act.eval ⟨over Tv U, dd⟩ (.tmp 129) = _ := eval_new (t := Tv) (d := dd) f0 (by show 129 < Tv.size; omega)
          have hc := hx.keep CA.out
          refine tbw_yield (v := .slice (some ⟨b1, o1, none⟩) n_ents x.ec) (sbkR_ext w.heap.size k b1 o1 b2 o2 n_ents x.ec y.ec (.agg C1) (.agg C2) false) hT ho hd (wanted_plain rfl) rfl (by decide) (by decide) ?_ (Ext.refl _) rfl
          generalize Act.eval ⟨over Tv U, dd⟩ = ev at *
          simp [execOp, go_sem, v0, hc]
        | 2, ho, hlv, hd =>
          obtain rfl := Option.some.inj ho
          have v0 := eval_old (d := dd) (hT.out 8 (by decide)) (by omega) t8
          refine tbw_yield (v := .int .i64 (k : Int)) (sbkR_ext w.heap.size k b1 o1 b2 o2 n_ents x.ec y.ec (.agg C1) (.agg C2) false) hT ho hd (wanted_plain rfl) rfl (by decide) (by decide) ?_ (Ext.refl _) rfl
          generalize Act.eval ⟨over Tv U, dd⟩ = ev at *
          simp [execOp, go_sem, v0]
        | 3, ho, hlv, hd =>
          obtain rfl := Option.some.inj ho
          have f0 : U 130 = some (.slice (some ⟨b1, o1, none⟩) n_ents x.ec) := hT.facts 1 (by decide) (dep hd 1 (by kernel_rfl)) (fun c e => by cases e)
          have v0 : Act.eval ⟨over Tv U, dd⟩ (.tmp 130) = _ := eval_new (t := Tv) (d := dd) f0 (by show 130 < Tv.size; omega)
          have f1 : U 131 = some (.int .i64 (k : Int)) := hT.facts 2 (by decide) (dep hd 2 (by kernel_rfl)) (fun c e => by cases e)
          have v1 : Act.eval ⟨over Tv U, dd⟩ (.tmp 131) = _ := eval_new (t := Tv) (d := dd) f1 (by show 131 < Tv.size; omega)
          have ki := KI.out
          refine tbw_yield (v := .pointer (some ⟨b1, o1 + k * 7, none⟩)) (sbkR_ext w.heap.size k b1 o1 b2 o2 n_ents x.ec y.ec (.agg C1) (.agg C2) false) hT ho hd (wanted_plain rfl) rfl (by decide) (by decide) ?_ (Ext.refl _) rfl
          generalize Act.eval ⟨over Tv U, dd⟩ = ev at *
          simp [execOp, go_sem, v0, v1, ki]
        | 4, ho, hlv, hd =>
          obtain rfl := Option.some.inj ho
          have f0 : U 132 = some (.pointer (some ⟨b1, o1 + k * 7, none⟩)) := hT.facts 3 (by decide) (dep hd 3 (by kernel_rfl)) (fun c e => by cases e)
          have v0 : Act.eval ⟨over Tv U, dd⟩ (.tmp 132) = _ := eval_new (t := Tv) (d := dd) f0 (by show 132 < Tv.size; omega)
          refine tbw_yield (v := .agg C1) (sbkR_ext w.heap.size k b1 o1 b2 o2 n_ents x.ec y.ec (.agg C1) (.agg C2) false) hT ho hd (wanted_plain rfl) rfl (by decide) (by decide) (exec_load_arr _ _ rfl b1 (o1 + k * 7) v0 C1 _ (hx.range RA.out) Tryz.underlying56 rfl I1.out) (Ext.refl _) rfl
        | 5, ho, hlv, hd =>
          obtain rfl := Option.some.inj ho
          have v0 := eval_old (d := dd) (hT.out 3 (by decide)) (by omega) t3
          refine tbw_yield (v := .pointer (some ⟨w.heap.size + 1, 5, none⟩)) (sbkR_ext w.heap.size k b1 o1 b2 o2 n_ents x.ec y.ec (.agg C1) (.agg C2) false) hT ho hd (wanted_plain rfl) rfl (by decide) (by decide) ?_ (Ext.refl _) rfl
          generalize Act.eval ⟨over Tv U, dd⟩ = ev at *
          simp [execOp, go_sem, v0]
        | 6, ho, hlv, hd =>
          obtain rfl := Option.some.inj ho
          have f0 : U 134 = some (.pointer (some ⟨w.heap.size + 1, 5, none⟩)) := hT.facts 5 (by decide) (dep hd 5 (by kernel_rfl)) (fun c e => by cases e)
          have v0 : Act.eval ⟨over Tv U, dd⟩ (.tmp 134) = _ := eval_new (t := Tv) (d := dd) f0 (by show 134 < Tv.size; omega)
          have hc := hx.keep CB.out
          refine tbw_yield (v := .slice (some ⟨b2, o2, none⟩) n_ents y.ec) (sbkR_ext w.heap.size k b1 o1 b2 o2 n_ents x.ec y.ec (.agg C1) (.agg C2) false) hT ho hd (wanted_plain rfl) rfl (by decide) (by decide) ?_ (Ext.refl _) rfl
          generalize Act.eval ⟨over Tv U, dd⟩ = ev at *
          simp [execOp, go_sem, v0, hc]
        | 7, ho, hlv, hd =>
          obtain rfl := Option.some.inj ho
          have v0 := eval_old (d := dd) (hT.out 8 (by decide)) (by omega) t8
          refine tbw_yield (v := .int .i64 (k : Int)) (sbkR_ext w.heap.size k b1 o1 b2 o2 n_ents x.ec y.ec (.agg C1) (.agg C2) false) hT ho hd (wanted_plain rfl) rfl (by decide) (by decide) ?_ (Ext.refl _) rfl
          generalize Act.eval ⟨over Tv U, dd⟩ = ev at *
          simp [execOp, go_sem, v0]
        | 8, ho, hlv, hd =>
          obtain rfl := Option.some.inj ho
          have f0 : U 135 = some (.slice (some ⟨b2, o2, none⟩) n_ents y.ec) := hT.facts 6 (by decide) (dep hd 6 (by kernel_rfl)) (fun c e => by cases e)
          have v0 : Act.eval ⟨over Tv U, dd⟩ (.tmp 135) = _ := eval_new (t := Tv) (d := dd) f0 (by show 135 < Tv.size; omega)
          have f1 : U 136 = some (.int .i64 (k : Int)) := hT.facts 7 (by decide) (dep hd 7 (by kernel_rfl)) (fun c e => by cases e)
          have v1 : Act.eval ⟨over Tv U, dd⟩ (.tmp 136) = _ := eval_new (t := Tv) (d := dd) f1 (by show 136 < Tv.size; omega)
          have ki := KI.out
          refine tbw_yield (v := .pointer (some ⟨b2, o2 + k * 7, none⟩)) (sbkR_ext w.heap.size k b1 o1 b2 o2 n_ents x.ec y.ec (.agg C1) (.agg C2) false) hT ho hd (wanted_plain rfl) rfl (by decide) (by decide) ?_ (Ext.refl _) rfl
          generalize Act.eval ⟨over Tv U, dd⟩ = ev at *
          simp [execOp, go_sem, v0, v1, ki]
        | 9, ho, hlv, hd =>
          obtain rfl := Option.some.inj ho
          have f0 : U 137 = some (.pointer (some ⟨b2, o2 + k * 7, none⟩)) := hT.facts 8 (by decide) (dep hd 8 (by kernel_rfl)) (fun c e => by cases e)
          have v0 : Act.eval ⟨over Tv U, dd⟩ (.tmp 137) = _ := eval_new (t := Tv) (d := dd) f0 (by show 137 < Tv.size; omega)
          refine tbw_yield (v := .agg C2) (sbkR_ext w.heap.size k b1 o1 b2 o2 n_ents x.ec y.ec (.agg C1) (.agg C2) false) hT ho hd (wanted_plain rfl) rfl (by decide) (by decide) (exec_load_arr _ _ rfl b2 (o2 + k * 7) v0 C2 _ (hx.range RB.out) Tryz.underlying56 rfl I2.out) (Ext.refl _) rfl
        | 10, ho, hlv, hd =>
          obtain rfl := Option.some.inj ho
          have f0 : U 133 = some (.agg C1) := hT.facts 4 (by decide) (dep hd 4 (by kernel_rfl)) (fun c e => by cases e)
          have v0 : Act.eval ⟨over Tv U, dd⟩ (.tmp 133) = _ := eval_new (t := Tv) (d := dd) f0 (by show 133 < Tv.size; omega)
          have f1 : U 138 = some (.agg C2) := hT.facts 9 (by decide) (dep hd 9 (by kernel_rfl)) (fun c e => by cases e)
          have v1 : Act.eval ⟨over Tv U, dd⟩ (.tmp 138) = _ := eval_new (t := Tv) (d := dd) f1 (by show 138 < Tv.size; omega)
          refine tbw_call (f := 23) (args := #[.agg C1, .agg C2]) (sbkR_ext w.heap.size k b1 o1 b2 o2 n_ents x.ec y.ec (.agg C1) (.agg C2) false) hT ho hd (wanted_plain rfl) rfl (by decide) (by decide) (exec_call2 rfl rfl v0 v1 EN.out) ?_
          refine (K.out wz hx).mono ?_
          rintro e w' ⟨rfl, hb⟩
          exact ⟨_, rfl, hb, rfl⟩
        | 11, ho, hlv, hd =>
          obtain rfl := Option.some.inj ho
          have f0 : U 139 = some (.bool false) := hT.facts 10 (by decide) (dep hd 10 (by kernel_rfl)) (fun c e => by cases e)
          have v0 : Act.eval ⟨over Tv U, dd⟩ (.tmp 139) = _ := eval_new (t := Tv) (d := dd) f0 (by show 139 < Tv.size; omega)
          refine tbw_yield (v := .bool (!false)) (sbkR_ext w.heap.size k b1 o1 b2 o2 n_ents x.ec y.ec (.agg C1) (.agg C2) false) hT ho hd (wanted_plain rfl) rfl (by decide) (by decide) ?_ (Ext.refl _) rfl
          generalize Act.eval ⟨over Tv U, dd⟩ = ev at *
          simp [execOp, go_sem, v0]
        | i + 12, ho, _, _ => exact absurd ho (by simp)
      intro U wz hex hout hfin
      have f140 : U 140 = some (.bool (!false)) := hfin 11 (by decide) rfl
      have XE := Lib.hid hex
      clear hex hfin
      rw [over_list]
      simp (disch := decide) only [overL, Nat.reduceAdd, hout, Option.getD_none]
      rw [f140]
      simp only [Option.getD_some]
      clear hout f140
      go_wp2
      go_ret
      exact ⟨ret_bool HF.out.symm, (X_5.out.trans HE.out).trans XE.out⟩
  obtain rfl : n_ents = k := by omega
  have HF := Lib.hid (yes_eq HV.out (by
    have h5 := all_eq (n := n_ents) (by rw [List.length_map]; exact HN_ents.out) (by rw [List.length_map]; exact HM_ents.out) HALL.out
    show (⟨x.now, x.gp.xs, x.gq.xs, x.outl, x.assets, x.ents.map EntL.ent, x.enem⟩ : Bank) = ⟨y.now, y.gp.xs, y.gq.xs, y.outl, y.assets, y.ents.map EntL.ent, y.enem⟩
    rw [Q0.out, Q1.out, Q2.out, Q3.out, Q4.out, h5, Q6.out]))
  go_wp2
  go_ret
  exact ⟨ret_bool HF.out.symm, X_5.out.trans HE.out⟩
end Bk
end Go.Proofs.YtfnmgcblhebdbaaGreatDoor
