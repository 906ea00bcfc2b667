/- Lists of big numbers; nat.Norm; the reference's Of, number, Same, Equal: contracts. Conditions: those of each theorem. -/
import Derived.Test.YtgaepmddbjdhfaaGreatDoorP8
import Derived.Test.YtgaepmddbjdhfaaGreatDoorP9
import Derived.Test.YtgaepmddbjdhfaaGreatDoorP22
namespace Go.Proofs.YtgaepmddbjdhfaaGreatDoor
open Go.ChangeShapes Go.WideShapes Go.ChangeAt Go.RowKit

/-- A list of big numbers with where it lies. -/
structure WL where
  A : Option Addr
  c : Nat
  hs : List NL
def WL.val (W : WL) : Value := .slice W.A W.hs.length W.c
def WL.vs (W : WL) : List Nat := W.hs.map (·.v)
structure WL.In (w : World) (W : WL) : Prop where
  s : Sl w 1 W.A (W.hs.map fun h => [h.val])
  h : ∀ h ∈ W.hs, h.In w
  le : W.hs.length ≤ W.c
  cap : W.c ≤ maxLen
theorem WL.In.ext {w w' : World} {W : WL} (h : W.In w) (he : Ext w w') : W.In w' := ⟨h.s.ext he, fun x hx => (h.h x hx).ext he, h.le, h.cap⟩
theorem WL.vs_len (W : WL) : W.vs.length = W.hs.length := List.length_map _
theorem WL.vs_at {W : WL} {i : Nat} {h : NL} (hi : W.hs[i]? = some h) : W.vs[i]? = some h.v := by unfold WL.vs; rw [List.getElem?_map, hi]; rfl
theorem WL.In.at_ {w : World} {W : WL} (h : W.In w) {i : Nat} {x : NL} (hi : W.hs[i]? = some x) : ∃ b off, W.A = some ⟨b, off, none⟩ ∧ b < w.heap.size ∧ w.cell? ⟨b, off + i, none⟩ = some x.val ∧ x.In w := by
  obtain ⟨b, off, hA, hb, hc⟩ := Sl.at_ (i := i) (cs := [x.val]) h.s (by simp [hi])
  exact ⟨b, off, hA, hb, by simpa using hc 0 _ rfl, h.h x (List.mem_of_getElem? hi)⟩
/-- The post of a function that returns weights and an error. -/
def RetW (er : Int) (vs : List Nat) (e : Ending) (w' : World) : Prop := ∃ W : WL, e = .returned (.tuple #[W.val, .int .i64 er]) ∧ W.In w' ∧ W.vs = vs
def WL.nil : WL := ⟨none, 0, []⟩
theorem WL.nil_in (w : World) : WL.nil.In w := ⟨Or.inl rfl, fun h hh => by simp [WL.nil] at hh, Nat.le_refl _, Nat.zero_le _⟩
theorem RetW.none (er : Int) (w : World) : RetW er [] (.returned (.tuple #[.slice .none 0 0, .int .i64 er])) w := ⟨WL.nil, rfl, WL.nil_in w, rfl⟩

set_option maxRecDepth 100000 in
set_option maxHeartbeats 3200000 in
theorem natNorm_any (h : NL) (w : World) (hh : h.In w) (hb : (Rw.limbs h.v).length ≤ 1000) :
    Calls Tryz.prog 67 #[h.val] w fun e w' => RetNat w.heap.size h.v e w' ∧ Ext w w' := by
  obtain ⟨A, c, v⟩ := h
  unfold NL.val
  dsimp only at hb ⊢
  have HS : Hid (SlU w A (Rw.limbs v)) := Lib.hid hh.s
  have hc1 : (Rw.limbs v).length ≤ c := hh.le
  have hc2 : c ≤ 9223372036854775807 := by have := hh.cap; unfold maxLen at this; exact this
  clear hh
  obtain ⟨n, hn⟩ : ∃ n, (Rw.limbs v).length = n := ⟨_, rfl⟩
  rw [hn] at hb hc1 ⊢
  have HN := Lib.hid hn
  clear hn
  have T1 := Lib.hid (trim_any A c (Rw.limbs v) n HN.out (Rw.nrm_limbs v) HN.out w HS.out hc1 hc2)
  obtain ⟨i0, pi0, pz0, pz1, pz2⟩ := info_parts Tryz.infoU32
  go_enter Tryz.func67, Tryz.ntmps67
  go_wp2_with fail
  with_reducible refine T1.out.mono ?_
  rintro e w1 ⟨rfl, rfl⟩
  have HL : Hid (((Rw.limbs v).map fun x : Nat => [Value.int .u32 (x : Int)]).length = n) := Lib.hid (by rw [List.length_map]; exact HN.out)
  have H1 : Hid (∀ c ∈ (Rw.limbs v).map fun x : Nat => [Value.int .u32 (x : Int)], c.length = 1) := Lib.hid (fun c hc => by obtain ⟨x, -, rfl⟩ := List.mem_map.1 hc; rfl)
  have H2 : Hid (∀ c ∈ (Rw.limbs v).map fun x : Nat => [Value.int .u32 (x : Int)], ∀ u ∈ c, u.oneCell' = true) := Lib.hid (fun c hc u hu => by obtain ⟨x, -, rfl⟩ := List.mem_map.1 hc; simp at hu; subst hu; rfl)
  go_wp2_with (at_builtin; refine wpList_appS rfl _ _ 75 rfl w 73 i0 (.int .u32 0) 1 4 Tryz.underlying75 pi0 pz0 pz1 pz2 rfl (by decide) (.slice none 0 0) 0 [] rfl (own_nil _ _ _ _) (Ext.refl _) A c n _ HL.out rfl HS.out H1.out H2.out (by unfold maxLen; omega) (by omega) ?_; intro A' c' w2 hown2 hb2; rw [Nat.zero_add, List.nil_append] at hown2)
  have HGE := Lib.hid (own_ge hown2)
  have HO : Hid (∃ A c, (Value.slice A' n c') = .slice A ((Rw.limbs v).map fun x : Nat => [Value.int .u32 (x : Int)]).length c ∧ ((Rw.limbs v).map fun x : Nat => [Value.int .u32 (x : Int)]).length ≤ c ∧ c ≤ maxLen ∧ Sl w2 1 A ((Rw.limbs v).map fun x : Nat => [Value.int .u32 (x : Int)])) := Lib.hid (Sl.of_own H1.out HL.out hown2)
  have HB2 := Lib.hid hb2
  clear hown2 hb2
  go_wp2
  go_ret
  obtain ⟨A9, c9, e9, h2, h3, h4⟩ := HO.out
  obtain ⟨rfl, e2, rfl⟩ : A' = A9 ∧ n = ((Rw.limbs v).map fun x : Nat => [Value.int .u32 (x : Int)]).length ∧ c' = c9 := by injection e9 with e1 e2 e3; exact ⟨e1, e2, e3⟩
  rw [HL.out] at h2
  exact ⟨RetNat.of HN.out h4 h2 h3 (fun a ha => HGE.out a.block (by subst ha; rfl)), HB2.out⟩
set_option maxRecDepth 100000 in
set_option maxHeartbeats 3200000 in
theorem rnatNorm_any (h : NL) (w : World) (hh : h.In w) (hb : (Rw.limbs h.v).length ≤ 1000) :
    Calls Tryz.prog 105 #[h.val] w fun e w' => RetNat w.heap.size h.v e w' ∧ Ext w w' := by
  refine (norm_any h.A h.c (Rw.limbs h.v) _ rfl (Rw.nrm_limbs h.v) rfl w hh.s hb).mono ?_
  rintro e w1 ⟨b, rfl, hbs, hs, hb1⟩
  exact ⟨RetNat.of rfl hs (Nat.le_refl _) (by unfold maxLen; omega) (fun a ha => by cases ha; exact hbs), hb1⟩
theorem rof_any (n : Nat) (hn : n < 18446744073709551616) (w : World) :
    Calls Tryz.prog 103 #[.int .u64 (n : Int)] w fun e w' => RetNat w.heap.size n e w' ∧ Ext w w' := by
  have hL : Na.nrm [n % 4294967296, n / 4294967296] = Rw.limbs n := by
    rw [Rw.limbs_val (fun x hx => by simp at hx; omega)]
    congr 1
    simp only [Na.val]
    omega
  have hm2 : (Rw.limbs n).length ≤ 2 := Rw.limbs_len (by omega)
  refine (of_any n hn hL rfl w).mono ?_
  rintro e w1 ⟨b, rfl, hbs, hs, hb1⟩
  exact ⟨RetNat.of rfl hs (Nat.le_refl _) (by unfold maxLen; omega) (fun a ha => by cases ha; exact hbs), hb1⟩
set_option maxRecDepth 100000 in
set_option maxHeartbeats 1600000 in
theorem number26_any (x : Int) (h0 : 0 ≤ x) (h1 : x ≤ 1000000) (w : World) :
    Calls Tryz.prog 70 #[.int .i64 x] w fun e w' => RetNat w.heap.size x.toNat e w' ∧ Ext w w' := by
  obtain ⟨n, rfl⟩ : ∃ n : Nat, x = (n : Int) := ⟨x.toNat, by omega⟩
  have e1 : max (n : Int) 0 = (n : Int) := by omega
  have HR := Lib.hid (rof_any n (by omega) w)
  rw [Int.toNat_natCast]
  go_enter Tryz.func70, Tryz.ntmps70
  go_wp2_with fail
  with_reducible refine HR.out.mono ?_
  rintro e w1 ⟨⟨h, rfl, hv, hin, hfr⟩, hb1⟩
  have HFR := Lib.hid hfr
  clear hfr
  have HIN := Lib.hid hin
  have HV := Lib.hid hv
  clear hin hv
  go_wp2
  go_ret
  exact ⟨⟨h, rfl, HV.out, HIN.out, HFR.out⟩, hb1⟩
set_option maxRecDepth 100000 in
set_option maxHeartbeats 3200000 in
theorem nsame_eq (h g : NL) (hv : h.v = g.v) (w : World) (hh : h.In w) (hg : g.In w) :
    Calls Tryz.prog 40 #[h.val, g.val] w fun e w' => e = .returned (.bool true) ∧ Ext w w' := by
  obtain ⟨A, c, v⟩ := h
  obtain ⟨A', c', v'⟩ := g
  dsimp only at hv
  subst hv
  unfold NL.val
  dsimp only
  have H : Hid (SlU w A (Rw.limbs v)) := Lib.hid hh.s
  have H' : Hid (SlU w A' (Rw.limbs v)) := Lib.hid hg.s
  have hl : (Rw.limbs v).length ≤ 9223372036854775807 := by have h1 : (Rw.limbs v).length ≤ c := hh.le; have h2 : c ≤ maxLen := hh.cap; unfold maxLen at h2; omega
  obtain ⟨n, hn⟩ : ∃ n, (Rw.limbs v).length = n := ⟨_, rfl⟩
  rw [hn] at hl ⊢
  have HN := Lib.hid hn
  clear hh hg hn
  have t0 : ((n : Int) != (n : Int)) = false := by simp
  go_enter Tryz.func40, Tryz.ntmps40
  go_wp2
  go_loopw [5] (fun i wr => ∃ k : Nat, k ≤ n ∧ i = .int .i64 k ∧ Hid (Ext w wr)) (fun i _ => n - (intOf i).toNat)
  case atStart => exact ⟨0, by omega, rfl, Lib.hid (Ext.refl _)⟩
  case round =>
    obtain ⟨k, hk, rfl, HE⟩ := hrel
    by_cases hlt : k < n
    · obtain ⟨x, hx⟩ : ∃ x, (Rw.limbs v)[k]? = some x := ⟨(Rw.limbs v)[k]'(by rw [HN.out]; exact hlt), List.getElem?_eq_getElem _⟩
      obtain ⟨b, off, rfl, hb, c0⟩ := (H.out.ext HE.out).at_ hx
      obtain ⟨b', off', rfl, hb', d0⟩ := (H'.out.ext HE.out).at_ hx
      have ki0 : (0 : Int) ≤ (k : Int) := by omega
      have ki1 : (k : Int) < (n : Int) := by omega
      have t1 : ((x : Int) != (x : Int)) = false := by simp
      clear hx
      go_wp2_with fail
      go_quiet (fail)
      go_wp2
      go_roundw
      case rel => exact ⟨k + 1, by omega, by go_num, Lib.hid (HE.out.drewN _)⟩
      case measure => simp [intOf]; omega
    · go_wp2
      go_ret
      exact ⟨rfl, HE.out⟩
end Go.Proofs.YtgaepmddbjdhfaaGreatDoor
