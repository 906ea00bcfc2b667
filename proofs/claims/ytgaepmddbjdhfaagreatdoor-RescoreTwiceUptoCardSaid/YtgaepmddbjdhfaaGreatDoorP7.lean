/- Big numbers of the package: trim, Of: contracts. Conditions: those of each theorem. Big numbers of the package: Of, Mul: contracts. Conditions: those of each theorem. Big numbers of the package: Mul: a contract. Conditions: those of each theorem. -/
import Derived.Test.YtgaepmddbjdhfaaGreatDoorP4
import Derived.Test.YtgaepmddbjdhfaaGreatDoorP6
namespace Go.Proofs.YtgaepmddbjdhfaaGreatDoor
open Go.ChangeShapes Go.WideShapes Go.ChangeAt Go.RowKit

theorem Na.nrm_pre {l : List Nat} {m : Nat} (h : (Na.nrm l).length = m) : Na.nrm l = l.take m := by
  subst h
  induction l with
  | nil => rfl
  | cons x l ih =>
    rw [Na.nrm]
    split
    · rfl
    · rw [List.length_cons, List.take_succ_cons, ← ih]
def lenV : Value → Nat
  | .slice _ n _ => n
  | _ => 0
set_option maxRecDepth 100000 in
set_option maxHeartbeats 3200000 in
theorem trim_any (A : Option Addr) (c : Nat) (xs : List Nat) (n : Nat) (hn : xs.length = n) {ys : List Nat} {m : Nat} (hy : Na.nrm xs = ys) (hm : ys.length = m) (w : World) (h : SlU w A xs) (hb : n ≤ c) (hc : c ≤ 9223372036854775807) :
    Calls Tryz.prog 101 #[.slice A n c] w fun e w' => e = .returned (.slice A m c) ∧ w = w' := by
  have H := Lib.hid h
  have HN := Lib.hid hn
  have HY := Lib.hid hy
  have HM := Lib.hid hm
  clear h hn hy hm
  go_enter Tryz.func101, Tryz.ntmps101
  go_wp2
  go_loop [0] (fun a => ∃ k : Nat, k ≤ n ∧ a = .slice A k c ∧ Hid (∀ (j v : Nat), k ≤ j → xs[j]? = some v → v = 0)) (fun a => lenV a)
  case atStart => exact ⟨n, Nat.le_refl _, rfl, Lib.hid (fun j v hj hv => (by rw [List.getElem?_eq_none (by rw [HN.out]; exact hj)] at hv; cases hv))⟩
  case round =>
    obtain ⟨k, hk, rfl, HZ⟩ := hrel
    by_cases hk0 : k = 0
    · have HT : Hid (k = m) := Lib.hid (by rw [← HM.out, ← HY.out, Na.nrm_take (by rw [HN.out]; exact hk) HZ.out (Or.inl hk0), List.length_take, HN.out]; omega)
      have hk3 : decide (0 < k) = false := by rw [decide_eq_false_iff_not]; omega
      clear hk0
      go_wp2
      go_ret
      exact ⟨by rw [HT.out]; rfl, rfl⟩
    · obtain ⟨v, hv⟩ : ∃ v, xs[k - 1]? = some v := ⟨xs[k - 1]'(by rw [HN.out]; omega), List.getElem?_eq_getElem _⟩
      have HV := Lib.hid hv
      obtain ⟨gb, go, hA, hgb, x0⟩ := H.out.at_ hv
      have hk2 : 0 < k := by omega
      have hk3 : decide (0 < k) = true := by rw [decide_eq_true_eq]; exact hk2
      have kj0 : (0 : Int) ≤ (k : Int) - 1 := by omega
      have kj1 : (k : Int) - 1 < (n : Int) := by omega
      have kj2 : 1 ≤ (k : Int) := by omega
      have e1 : ((k : Int) - 1).toNat = k - 1 := by omega
      clear hv hk0
      subst hA
      by_cases hv0 : v = 0
      · have hb0 : ((v : Int) == 0) = true := by rw [hv0]; rfl
        have HS : Hid (∀ (j u : Nat), k - 1 ≤ j → xs[j]? = some u → u = 0) := Lib.hid (fun j u hj hu => by
          rcases Nat.lt_or_ge j k with g | g
          · obtain rfl : j = k - 1 := by omega
            rw [HV.out] at hu
            injection hu with hu
            omega
          · exact HZ.out j u g hu)
        clear hv0
        go_wp2
        go_round
        case rel => exact ⟨k - 1, by omega, by congr 1, HS⟩
        case measure => simp [lenV]; omega
      · have hb0 : ((v : Int) == 0) = false := by rw [beq_eq_false_iff_ne]; omega
        have HT : Hid (k = m) := Lib.hid (by rw [← HM.out, ← HY.out, Na.nrm_take (by rw [HN.out]; exact hk) HZ.out (Or.inr ⟨v, HV.out, hv0⟩), List.length_take, HN.out]; omega)
        clear hv0
        go_wp2
        go_ret
        exact ⟨by rw [HT.out]; rfl, rfl⟩
end Go.Proofs.YtgaepmddbjdhfaaGreatDoor
namespace Go.Proofs.YtgaepmddbjdhfaaGreatDoor
open Go.ChangeShapes Go.WideShapes Go.ChangeAt Go.RowKit

/-- A big number with where it lies. -/
structure NL where
  A : Option Addr
  c : Nat
  v : Nat
instance : Inhabited NL := ⟨⟨none, 0, 0⟩⟩
def NL.val (h : NL) : Value := .slice h.A (Rw.limbs h.v).length h.c
structure NL.In (w : World) (h : NL) : Prop where
  s : SlU w h.A (Rw.limbs h.v)
  le : (Rw.limbs h.v).length ≤ h.c
  cap : h.c ≤ maxLen
theorem NL.In.ext {w w' : World} {h : NL} (hi : h.In w) (he : Ext w w') : h.In w' := ⟨hi.s.ext he, hi.le, hi.cap⟩
/-- The post of a function that returns a big number. -/
def RetNat (N v : Nat) (e : Ending) (w' : World) : Prop := ∃ h : NL, e = .returned h.val ∧ h.v = v ∧ h.In w' ∧ ∀ a, h.A = some a → N ≤ a.block
/-- A row of limbs that may be written. -/
def RowU (w : World) (g : Nat) (P : List Nat) : Prop := RowW w 1 g (P.map fun x : Nat => [.int .u32 (x : Int)])
theorem RowU.ext {w w' : World} {g : Nat} {P : List Nat} (h : RowU w g P) (he : Ext w w') : RowU w' g P := RowW.ext h he
theorem RowU.sl {w : World} {g : Nat} {P : List Nat} (h : RowU w g P) : SlU w (some ⟨g, 0, none⟩) P := RowW.sl h
theorem RowU.cell {w : World} {g : Nat} {P : List Nat} (h : RowU w g P) {i p : Nat} (hp : P[i]? = some p) : w.cell? ⟨g, i, none⟩ = some (.int .u32 (p : Int)) ∧ w.frozen? ⟨g, i, none⟩ = false := by
  have h1 := h.rows i [.int .u32 (p : Int)] (by simp [hp]) 0 _ rfl
  have h2 := h.part (i := i) (by simpa using (List.getElem?_eq_some_iff.1 hp).1) 0 (by decide)
  rw [Nat.mul_one, Nat.add_zero] at h1 h2
  exact ⟨h1, h2.2⟩
theorem RowU.set {w : World} {g : Nat} {P : List Nat} (h : RowU w g P) {i : Nat} (hi : i < P.length) (v : Nat) : RowU (w.setCell ⟨g, i, none⟩ (.int .u32 (v : Int))) g (P.set i v) := by
  have := RowW.set h (i := i) (by simpa using hi) (cs := [.int .u32 (v : Int)]) rfl
  rw [Nat.mul_one] at this
  have e : (P.map fun x : Nat => [Value.int .u32 (x : Int)]).set i [.int .u32 (v : Int)] = (P.set i v).map fun x : Nat => [Value.int .u32 (x : Int)] := by rw [List.map_set]
  rw [e] at this
  exact this
theorem RowU.made (w : World) (n : Nat) (t : TypeId) : RowU (w.alloc (.cells (madeCells #[.int .u32 0] n) t)) w.heap.size (List.replicate n 0) := by
  have := RowW.made w 1 n [.int .u32 0] rfl t
  rw [Nat.mul_one] at this
  unfold RowU
  rw [List.map_replicate]
  exact this
theorem RetNat.of {w : World} {A : Option Addr} {N c v m : Nat} (hm : (Rw.limbs v).length = m) (h : SlU w A (Rw.limbs v)) (hc : m ≤ c) (hcm : c ≤ maxLen) (hf : ∀ a, A = some a → N ≤ a.block) : RetNat N v (.returned (.slice A m c)) w :=
  ⟨⟨A, c, v⟩, by rw [← hm]; rfl, rfl, ⟨h, by rw [hm]; exact hc, hcm⟩, hf⟩

set_option maxRecDepth 100000 in
set_option maxHeartbeats 3200000 in
theorem natOf_any (n : Nat) (hn : n < 18446744073709551616) (w : World) :
    Calls Tryz.prog 66 #[.int .u64 (n : Int)] w fun e w' => RetNat w.heap.size n e w' ∧ Ext w w' := by
  have HL : Hid (Na.nrm [n % 4294967296, n / 4294967296] = Rw.limbs n) := Lib.hid (by
    rw [Rw.limbs_val (fun x hx => by simp at hx; omega)]
    congr 1
    simp only [Na.val]
    omega)
  have hm2 : (Rw.limbs n).length ≤ 2 := Rw.limbs_len (by omega)
  obtain ⟨m, hm⟩ : ∃ m, (Rw.limbs n).length = m := ⟨_, rfl⟩
  rw [hm] at hm2
  have HM := Lib.hid hm
  clear hm
  have hn0 : n / 4294967296 < 4294967296 := by omega
  have hn1 : (n : Int) < 18446744073709551616 := by omega
  go_enter Tryz.func66, Tryz.ntmps66
  have e1 : ((n : Int) % 4294967296) = ((n % 4294967296 : Nat) : Int) := by omega
  have e2 : ((n : Int) / 4294967296) = ((n / 4294967296 : Nat) : Int) := by omega
  have HSL : Hid (SlU (w.alloc (.cells #[.int .u32 ((n : Int) % 4294967296), .int .u32 ((n : Int) / 4294967296)] 73)) (some ⟨w.heap.size, 0, none⟩) [n % 4294967296, n / 4294967296]) := Lib.hid (by
    rw [e1, e2]
    exact SlU.of_heap (t := 73) (fr := (0, 0)) (heap_alloc_new _ _))
  clear e1 e2
  go_wp2_with fail
  with_reducible refine (trim_any (some ⟨w.heap.size, 0, none⟩) 2 [n % 4294967296, n / 4294967296] 2 rfl HL.out HM.out _ HSL.out (by omega) (by omega)).mono ?_
  rintro e w1 ⟨rfl, rfl⟩
  have HX : Hid (SlU (w.alloc (.cells #[.int .u32 ((n : Int) % 4294967296), .int .u32 ((n : Int) / 4294967296)] 73)) (some ⟨w.heap.size, 0, none⟩) (Rw.limbs n)) := Lib.hid (by
    have := slU_take HSL.out m
    rwa [← Na.nrm_pre (by rw [HL.out]; exact HM.out), HL.out] at this)
  go_wp2
  go_ret
  exact ⟨RetNat.of HM.out HX.out hm2 (by decide) (fun a ha => by cases ha; exact Nat.le_refl _), (Ext.refl w).alloc _⟩
end Go.Proofs.YtgaepmddbjdhfaaGreatDoor
namespace Go.Proofs.YtgaepmddbjdhfaaGreatDoor
open Go.ChangeShapes Go.WideShapes Go.ChangeAt Go.RowKit

theorem limbs_mul_len {u v n : Nat} (hn : (Rw.limbs u).length = n) {P : List Nat} (h : Rw.MI (Rw.limbs u) (Rw.limbs v) n 0 0 P) : Na.nrm P = Rw.limbs (u * v) := by
  subst hn
  rw [Rw.limbs_val h.lt, h.done, Rw.val_limbs, Rw.val_limbs]
theorem make_u32 (n : Nat) (hn : n ≤ 1000000) (w : World) : (Instr.makeSlice 75 (.int .i64 (n : Int)) (.int .i64 (n : Int))).run Tryz.prog w = .ok (.slice (some ⟨w.heap.size, 0, none⟩) n n) (w.alloc (.cells (madeCells #[.int .u32 0] n) 73)) :=
  run_make_row' (P := Tryz.prog) 75 73 (.int .u32 0) 4 Tryz.underlying75 Tryz.infoU32 rfl .i64 .i64 n (by omega) (by omega) w
set_option maxRecDepth 100000 in
set_option maxHeartbeats 12800000 in
theorem natMul_any (h g : NL) (w : World) (hh : h.In w) (hg : g.In w) (hb1 : (Rw.limbs h.v).length ≤ 1000) (hb2 : (Rw.limbs g.v).length ≤ 1000) :
    Calls Tryz.prog 65 #[h.val, g.val] w fun e w' => RetNat w.heap.size (h.v * g.v) e w' ∧ Ext w w' := by
  obtain ⟨A, c, u⟩ := h
  obtain ⟨A', c', v⟩ := g
  unfold NL.val
  dsimp only at hb1 hb2 ⊢
  have HS : Hid (SlU w A (Rw.limbs u)) := Lib.hid hh.s
  have HS' : Hid (SlU w A' (Rw.limbs v)) := Lib.hid hg.s
  have hc1 : (Rw.limbs u).length ≤ c := hh.le
  have hc2 : c ≤ 9223372036854775807 := by have := hh.cap; unfold maxLen at this; exact this
  have hc3 : (Rw.limbs v).length ≤ c' := hg.le
  have hc4 : c' ≤ 9223372036854775807 := by have := hg.cap; unfold maxLen at this; exact this
  clear hh hg
  obtain ⟨n, hn⟩ : ∃ n, (Rw.limbs u).length = n := ⟨_, rfl⟩
  obtain ⟨m, hm⟩ : ∃ n, (Rw.limbs v).length = n := ⟨_, rfl⟩
  rw [hn] at hb1 hc1 ⊢
  rw [hm] at hb2 hc3 ⊢
  have HN := Lib.hid hn
  have HM := Lib.hid hm
  clear hn hm
  have T1 := Lib.hid (fun w1 (hs : SlU w1 A (Rw.limbs u)) => trim_any A c (Rw.limbs u) n HN.out (Rw.nrm_limbs u) HN.out w1 hs hc1 hc2)
  have T2 := Lib.hid (fun w1 (hs : SlU w1 A' (Rw.limbs v)) => trim_any A' c' (Rw.limbs v) m HM.out (Rw.nrm_limbs v) HM.out w1 hs hc3 hc4)
  go_enter Tryz.func65, Tryz.ntmps65
  go_wp2_with fail
  with_reducible refine (T1.out _ HS.out).mono ?_
  rintro e w1 ⟨rfl, rfl⟩
  go_wp2_with fail
  with_reducible refine (T2.out _ HS'.out).mono ?_
  rintro e w1 ⟨rfl, rfl⟩
  have hmk := make_u32 (n + m) (by omega)
  rw [Int.natCast_add] at hmk
  go_wp2
  go_loopw [24] (fun i wr => ∃ (k : Nat) (P : List Nat), k ≤ n ∧ i = .int .i64 k ∧ Hid (Rw.MI (Rw.limbs u) (Rw.limbs v) k 0 0 P) ∧ Hid (RowU wr w.heap.size P) ∧ Hid (Ext w wr)) (fun i _ => n - (intOf i).toNat)
  case atStart => exact ⟨0, List.replicate (n + m) 0, by omega, rfl, Lib.hid (by have := Rw.MI.start (Rw.limbs u) (Rw.limbs v); rwa [HN.out, HM.out] at this), Lib.hid (RowU.made w (n + m) _), Lib.hid ((Ext.refl w).alloc _)⟩
  case round =>
    obtain ⟨k, P, hk, rfl, HI, HR, HE⟩ := hrel
    by_cases hlt : k < n
    · obtain ⟨x, hx⟩ : ∃ x, (Rw.limbs u)[k]? = some x := ⟨(Rw.limbs u)[k]'(by rw [HN.out]; exact hlt), List.getElem?_eq_getElem _⟩
      obtain ⟨b, off, hA, hb, hc⟩ := (HS.out.ext HE.out).at_ hx
      have hxl : x < 4294967296 := Rw.limbs_lt u x (List.mem_of_getElem? hx)
      have HX := Lib.hid hx
      subst hA
      have ki0 : (0 : Int) ≤ (k : Int) := by omega
      have ki1 : (k : Int) < (n : Int) := by omega
      clear hx
      go_wp2
      go_loopw [31, 8] (fun i q wr => ∃ (j cy : Nat) (P : List Nat), j ≤ m ∧ i = .int .i64 j ∧ q = .int .u64 (cy : Int) ∧ Hid (Rw.MI (Rw.limbs u) (Rw.limbs v) k j cy P) ∧ Hid (RowU wr w.heap.size P) ∧ Hid (Ext w wr)) (fun i _ _ => m - (intOf i).toNat)
      case atStart => exact ⟨0, 0, P, by omega, rfl, rfl, HI, HR, HE⟩
      case round =>
        clear HI HR hc
        obtain ⟨j, cy, P, hj, rfl, rfl, HI, HR, HE2⟩ := hrel
        by_cases hjt : j < m
        · obtain ⟨y, hy⟩ : ∃ y, (Rw.limbs v)[j]? = some y := ⟨(Rw.limbs v)[j]'(by rw [HM.out]; exact hjt), List.getElem?_eq_getElem _⟩
          obtain ⟨b', off', hA', hb', hc'⟩ := (HS'.out.ext HE2.out).at_ hy
          have hyl : y < 4294967296 := Rw.limbs_lt v y (List.mem_of_getElem? hy)
          obtain ⟨p, hp, hpl⟩ := HI.out.at_ (q := k + j) (by rw [HN.out, HM.out]; omega)
          have hcl : cy < 4294967296 := HI.out.cl
          obtain ⟨hp1, hp2⟩ := HR.out.cell hp
          have HY := Lib.hid hy
          have HP := Lib.hid hp
          subst hA'
          have jj0 : (0 : Int) ≤ (j : Int) := by omega
          have jj1 : (j : Int) < (m : Int) := by omega
          have hsum := Rw.limb_sum hxl hyl hpl hcl
          have hs0 : x * y + p + cy < 18446744073709551616 := hsum
          have s1 : (0 : Int) ≤ (x : Int) * (y : Int) := Int.mul_nonneg (by omega) (by omega)
          have s2 : (x : Int) * (y : Int) + (p : Int) + (cy : Int) < 18446744073709551616 := by
            have : ((x * y : Nat) : Int) = (x : Int) * (y : Int) := Int.natCast_mul x y
            omega
          have hcast : (x : Int) * (y : Int) + (p : Int) + (cy : Int) = ((x * y + p + cy : Nat) : Int) := by simp
          have HD : Hid (((x : Int) * (y : Int) + (p : Int) + (cy : Int)) / 4294967296 = (((x * y + p + cy) / 4294967296 : Nat) : Int)) := Lib.hid (by rw [hcast, Int.natCast_ediv]; rfl)
          have HMd : Hid (((x : Int) * (y : Int) + (p : Int) + (cy : Int)) % 4294967296 = (((x * y + p + cy) % 4294967296 : Nat) : Int)) := Lib.hid (by rw [hcast, Int.natCast_emod]; rfl)
          have HLP : Hid (k + j < P.length) := Lib.hid (by rw [HI.out.len, HN.out, HM.out]; omega)
          clear hy hp hsum hs0 hcast
          go_wp2
          go_roundw
          case rel =>
            refine ⟨j + 1, (x * y + p + cy) / 4294967296, P.set (k + j) ((x * y + p + cy) % 4294967296), by omega, by go_num, by rw [HD.out], Lib.hid (HI.out.step HX.out HY.out HP.out hxl hyl), Lib.hid ?_, Lib.hid (HE2.out.setCell (Nat.le_refl _) _)⟩
            rw [HMd.out]
            exact HR.out.set HLP.out _
          case measure => simp [intOf]; omega
        · obtain rfl : j = m := by omega
          have hcl : cy < 4294967296 := HI.out.cl
          obtain ⟨p, hp, hpl⟩ := HI.out.at_ (q := k + j) (by rw [HN.out, HM.out]; omega)
          obtain ⟨hp1, hp2⟩ := HR.out.cell hp
          have HLP : Hid (k + j < P.length) := Lib.hid (by rw [HI.out.len, HN.out, HM.out]; omega)
          have HNX : Hid (Rw.MI (Rw.limbs u) (Rw.limbs v) (k + 1) 0 0 (P.set (k + j) cy)) := Lib.hid (by
            have := HI.out
            rw [← HM.out] at this
            have := this.next HX.out
            rwa [HM.out] at this)
          clear hp
          have hcl1 : (cy : Int) < 4294967296 := by omega
          go_wp2
          go_roundw
          case rel => exact ⟨k + 1, P.set (k + j) cy, by omega, by go_num, HNX, Lib.hid (HR.out.set HLP.out cy), Lib.hid (HE2.out.setCell (Nat.le_refl _) _)⟩
          case measure => simp [intOf]; omega
    · obtain rfl : k = n := by omega
      have HP1 : Hid (Na.nrm P = Rw.limbs (u * v)) := Lib.hid (limbs_mul_len HN.out HI.out)
      have HP2 : Hid (P.length = k + m) := Lib.hid (by rw [HI.out.len, HN.out, HM.out])
      obtain ⟨r, hr⟩ : ∃ r, (Rw.limbs (u * v)).length = r := ⟨_, rfl⟩
      have hrl : r ≤ k + m := by rw [← hr, ← HP1.out, ← HP2.out]; exact Na.nrm_len _
      have HRL := Lib.hid hr
      have HSP : Hid (SlU wr (some ⟨w.heap.size, 0, none⟩) P) := Lib.hid HR.out.sl
      clear hr
      have HF : Hid (SlU wr (some ⟨w.heap.size, 0, none⟩) (Rw.limbs (u * v))) := Lib.hid (by
        have := slU_take HSP.out r
        rwa [← Na.nrm_pre (by rw [HP1.out]; exact HRL.out), HP1.out] at this)
      have T3 := Lib.hid (trim_any (some ⟨w.heap.size, 0, none⟩) (k + m) P (k + m) HP2.out HP1.out HRL.out wr HSP.out (Nat.le_refl _) (by omega))
      go_wp2_with fail
      with_reducible refine T3.out.mono ?_
      rintro e w1 ⟨rfl, rfl⟩
      go_wp2
      go_ret
      exact ⟨RetNat.of HRL.out HF.out hrl (by unfold maxLen; omega) (fun a ha => by cases ha; exact Nat.le_refl _), HE.out⟩
end Go.Proofs.YtgaepmddbjdhfaaGreatDoor
