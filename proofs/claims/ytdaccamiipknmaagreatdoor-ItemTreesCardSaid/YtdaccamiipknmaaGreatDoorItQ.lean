/- The form of an item's tree: isList and isTree; numbersOf, textsOf: contracts. Conditions: those of each theorem. -/
import Derived.Test.YtdaccamiipknmaaGreatDoorItO
import Derived.Test.YtdaccamiipknmaaGreatDoorItL
namespace Go.Proofs.YtdaccamiipknmaaGreatDoor
open Go.RowKit

/-- A node's strings and lists are of a size that an int holds, d levels deep. -/
def SzOk : Nat → Nd → Prop
  | 0, x => x.s.size ≤ 140737488351232 ∧ x.kids.length ≤ 140737488351232
  | d + 1, x => (x.s.size ≤ 140737488351232 ∧ x.kids.length ≤ 140737488351232) ∧ ∀ k ∈ x.kids, SzOk d k
theorem SzOk.top {d : Nat} {x : Nd} (h : SzOk d x) : x.s.size ≤ 140737488351232 ∧ x.kids.length ≤ 140737488351232 := by
  cases d with
  | zero => exact h
  | succ d => exact h.1
/-- The block at A is of a type. -/
def TyB (w : World) (A : Option Addr) (t : TypeId) : Prop := ∀ a, A = some a → ∃ cur, w.heap[a.block]? = some (.cells cur t (0, 0))
theorem TyB.ext {w w' : World} {A : Option Addr} {t : TypeId} (h : TyB w A t) (he : Ext w w') : TyB w' A t := fun a ha => by obtain ⟨cur, h1⟩ := h a ha; exact ⟨cur, he.blockAt h1⟩
theorem TyB.own {w : World} {base : Nat} {t : TypeId} {size n c m : Nat} {A : Option Addr} {xs : List Value} (h : w.ownsRow base t size (.slice A m c) n xs) : TyB w A t := by
  rintro a rfl
  exact own_block h a.block rfl
def isLst (x : Nd) (tag kind : Int) : Bool := x.kids.all (fun k => isNd k 0 kind) && isNd x tag 3
theorem nds_no {p : Nd → Bool} {l : List Nd} {k : Nat} {x : Nd} (hx : l[k]? = some x) (hb : p x = false) : l.all p = false := by
  rw [List.all_eq_false]
  exact ⟨x, List.mem_of_getElem? hx, by rw [hb]; simp⟩
theorem nds_next {p : Nd → Bool} {l : List Nd} {k : Nat} {x : Nd} (hx : l[k]? = some x) (h : (l.take k).all p = true) (hb : p x = true) : (l.take (k + 1)).all p = true := by
  rw [List.take_add_one, hx, List.all_append, h]
  simp [hb]

theorem isNode_v1 (x : Nd) (M : Option Addr × Nat) (tag : Int) {v : Bool} (hv : isNd x tag 1 = v) (w : World) (hs : x.s.size ≤ 140737488351232) (hl : x.kids.length ≤ 140737488351232) :
    Calls Tryz.prog 66 #[.agg #[.int .i64 x.tag, .int .i64 x.kind, .int .i64 x.n, .string x.s, .slice M.1 x.kids.length M.2], .int .i64 tag, .int .i64 1] w fun e w' => e = .returned (.bool v) ∧ Ext w w' := by
  subst hv; exact isNode_1 x M tag w (by omega) (by omega)
theorem isNode_v2 (x : Nd) (M : Option Addr × Nat) (tag : Int) {v : Bool} (hv : isNd x tag 2 = v) (w : World) (hs : x.s.size ≤ 140737488351232) (hl : x.kids.length ≤ 140737488351232) :
    Calls Tryz.prog 66 #[.agg #[.int .i64 x.tag, .int .i64 x.kind, .int .i64 x.n, .string x.s, .slice M.1 x.kids.length M.2], .int .i64 tag, .int .i64 2] w fun e w' => e = .returned (.bool v) ∧ Ext w w' := by
  subst hv; exact isNode_2 x M tag w (by omega) (by omega)
theorem isNode_v3 (x : Nd) (M : Option Addr × Nat) (tag : Int) {v : Bool} (hv : isNd x tag 3 = v) (w : World) (hs : x.s.size ≤ 140737488351232) (hl : x.kids.length ≤ 140737488351232) :
    Calls Tryz.prog 66 #[.agg #[.int .i64 x.tag, .int .i64 x.kind, .int .i64 x.n, .string x.s, .slice M.1 x.kids.length M.2], .int .i64 tag, .int .i64 3] w fun e w' => e = .returned (.bool v) ∧ Ext w w' := by
  subst hv; exact isNode_3 x M tag w (by omega) (by omega)

set_option maxRecDepth 100000 in
set_option maxHeartbeats 6400000 in
theorem isList_1 (B : Nat) (d : Nat) (x : Nd) (M : Option Addr × Nat) (tag : Int) (w : World) (hK : KidsAt B 0 (d + 1) w M x.kids) (hz : SzOk 1 x) :
    Calls Tryz.prog 67 #[nda x M, .int .i64 tag, .int .i64 1] w fun e w' => e = .returned (.bool (isLst x tag 1)) ∧ Ext w w' := by
  have HZ := Lib.hid hz
  have hs := hz.top.1
  have hl := hz.top.2
  have HK := Lib.hid hK
  clear hz hK
  obtain ⟨v, hv⟩ : ∃ v, isLst x tag 1 = v := ⟨_, rfl⟩
  rw [hv]
  have HV : Hid (isLst x tag 1 = v) := Lib.hid hv
  clear hv
  obtain ⟨A, c⟩ := M
  unfold nda
  dsimp only
  go_enter Tryz.func67, Tryz.ntmps67
  go_wp2
  go_loopw [12] (fun i wr => ∃ k : Nat, k ≤ x.kids.length ∧ i = .int .i64 k ∧ Hid ((x.kids.take k).all (fun k => isNd k 0 1) = true) ∧ Ext (w.alloc (.cells #[.int .i64 x.tag, .int .i64 x.kind, .int .i64 x.n, .string x.s, .slice A x.kids.length c] 34)) wr) (fun i _ => x.kids.length - (intOf i).toNat)
  case atStart => exact ⟨0, by omega, rfl, Lib.hid rfl, Ext.refl _⟩
  case round =>
    obtain ⟨k, hk, rfl, HA, he⟩ := hrel
    have hew : Hid (Ext w wr) := Lib.hid (((Ext.refl w).alloc _).trans he)
    obtain ⟨⟨b0, b1, b2, b3, b4⟩, hfr, hlt0⟩ := block5 he
    clear hfr
    by_cases hlt : k < x.kids.length
    · obtain ⟨y, hy⟩ : ∃ y, x.kids[k]? = some y := ⟨x.kids[k], List.getElem?_eq_getElem hlt⟩
      obtain ⟨b, off, N, hA, hb, c0, c1, c2, c3, c4, hKN⟩ := (HK.out.ext hew.out).at_ hy
      dsimp only at hA
      subst hA
      have HY := Lib.hid hy
      have hyz : SzOk 0 y := HZ.out.2 y (List.mem_of_getElem? hy)
      have hys : y.s.size ≤ 140737488351232 := hyz.1
      have hyl : y.kids.length ≤ 140737488351232 := hyz.2
      clear hy hKN hyz
      have ki0 : (0 : Int) ≤ (k : Int) := by omega
      have ki1 : (k : Int) < (x.kids.length : Int) := by omega
      obtain ⟨q, hq⟩ : ∃ q, isNd y 0 1 = q := ⟨_, rfl⟩
      have HQ := Lib.hid hq
      clear hq
      cases q with
      | false =>
        have HF : Hid (v = false) := Lib.hid (by rw [← HV.out]; unfold isLst; rw [nds_no HY.out HQ.out]; rfl)
        go_wp2_with fail
        refine (isNode_v1 y N 0 HQ.out _ hys hyl).mono ?_
        rintro e w1 ⟨rfl, hb1⟩
        have X1 : Hid (Ext w w1) := Lib.hid ((hew.out.alloc _).trans hb1)
        go_wp2
        go_ret
        exact ⟨ret_bool HF.out.symm, X1.out⟩
      | true =>
        have HN := Lib.hid (nds_next (p := fun k => isNd k 0 1) HY.out HA.out HQ.out)
        go_wp2_with fail
        refine (isNode_v1 y N 0 HQ.out _ hys hyl).mono ?_
        rintro e w1 ⟨rfl, hb1⟩
        have X1 := Lib.hid ((he.alloc _).trans hb1)
        clear hb1
        go_wp2
        go_roundw
        case rel => exact ⟨k + 1, by omega, by go_num, HN, X1.out⟩
        case measure => simp [intOf]; omega
    · obtain rfl : k = x.kids.length := by omega
      have HA2 : Hid (x.kids.all (fun k => isNd k 0 1) = true) := Lib.hid (by have := HA.out; rwa [List.take_length] at this)
      have HF : Hid (isNd x tag 3 = v) := Lib.hid (by rw [← HV.out]; unfold isLst; rw [HA2.out, Bool.true_and])
      go_wp2_with fail
      refine (isNode_v3 x (A, c) tag HF.out _ hs hl).mono ?_
      rintro e w1 ⟨rfl, hb1⟩
      have X1 : Hid (Ext w w1) := Lib.hid (hew.out.trans hb1)
      go_wp2
      go_ret
      exact ⟨rfl, X1.out⟩


set_option maxRecDepth 100000 in
set_option maxHeartbeats 6400000 in
theorem isList_2 (B : Nat) (d : Nat) (x : Nd) (M : Option Addr × Nat) (tag : Int) (w : World) (hK : KidsAt B 0 (d + 1) w M x.kids) (hz : SzOk 1 x) :
    Calls Tryz.prog 67 #[nda x M, .int .i64 tag, .int .i64 2] w fun e w' => e = .returned (.bool (isLst x tag 2)) ∧ Ext w w' := by
  have HZ := Lib.hid hz
  have hs := hz.top.1
  have hl := hz.top.2
  have HK := Lib.hid hK
  clear hz hK
  obtain ⟨v, hv⟩ : ∃ v, isLst x tag 2 = v := ⟨_, rfl⟩
  rw [hv]
  have HV : Hid (isLst x tag 2 = v) := Lib.hid hv
  clear hv
  obtain ⟨A, c⟩ := M
  unfold nda
  dsimp only
  go_enter Tryz.func67, Tryz.ntmps67
  go_wp2
  go_loopw [12] (fun i wr => ∃ k : Nat, k ≤ x.kids.length ∧ i = .int .i64 k ∧ Hid ((x.kids.take k).all (fun k => isNd k 0 2) = true) ∧ Ext (w.alloc (.cells #[.int .i64 x.tag, .int .i64 x.kind, .int .i64 x.n, .string x.s, .slice A x.kids.length c] 34)) wr) (fun i _ => x.kids.length - (intOf i).toNat)
  case atStart => exact ⟨0, by omega, rfl, Lib.hid rfl, Ext.refl _⟩
  case round =>
    obtain ⟨k, hk, rfl, HA, he⟩ := hrel
    have hew : Hid (Ext w wr) := Lib.hid (((Ext.refl w).alloc _).trans he)
    obtain ⟨⟨b0, b1, b2, b3, b4⟩, hfr, hlt0⟩ := block5 he
    clear hfr
    by_cases hlt : k < x.kids.length
    · obtain ⟨y, hy⟩ : ∃ y, x.kids[k]? = some y := ⟨x.kids[k], List.getElem?_eq_getElem hlt⟩
      obtain ⟨b, off, N, hA, hb, c0, c1, c2, c3, c4, hKN⟩ := (HK.out.ext hew.out).at_ hy
      dsimp only at hA
      subst hA
      have HY := Lib.hid hy
      have hyz : SzOk 0 y := HZ.out.2 y (List.mem_of_getElem? hy)
      have hys : y.s.size ≤ 140737488351232 := hyz.1
      have hyl : y.kids.length ≤ 140737488351232 := hyz.2
      clear hy hKN hyz
      have ki0 : (0 : Int) ≤ (k : Int) := by omega
      have ki1 : (k : Int) < (x.kids.length : Int) := by omega
      obtain ⟨q, hq⟩ : ∃ q, isNd y 0 2 = q := ⟨_, rfl⟩
      have HQ := Lib.hid hq
      clear hq
      cases q with
      | false =>
        have HF : Hid (v = false) := Lib.hid (by rw [← HV.out]; unfold isLst; rw [nds_no HY.out HQ.out]; rfl)
        go_wp2_with fail
        refine (isNode_v2 y N 0 HQ.out _ hys hyl).mono ?_
        rintro e w1 ⟨rfl, hb1⟩
        have X1 : Hid (Ext w w1) := Lib.hid ((hew.out.alloc _).trans hb1)
        go_wp2
        go_ret
        exact ⟨ret_bool HF.out.symm, X1.out⟩
      | true =>
        have HN := Lib.hid (nds_next (p := fun k => isNd k 0 2) HY.out HA.out HQ.out)
        go_wp2_with fail
        refine (isNode_v2 y N 0 HQ.out _ hys hyl).mono ?_
        rintro e w1 ⟨rfl, hb1⟩
        have X1 := Lib.hid ((he.alloc _).trans hb1)
        clear hb1
        go_wp2
        go_roundw
        case rel => exact ⟨k + 1, by omega, by go_num, HN, X1.out⟩
        case measure => simp [intOf]; omega
    · obtain rfl : k = x.kids.length := by omega
      have HA2 : Hid (x.kids.all (fun k => isNd k 0 2) = true) := Lib.hid (by have := HA.out; rwa [List.take_length] at this)
      have HF : Hid (isNd x tag 3 = v) := Lib.hid (by rw [← HV.out]; unfold isLst; rw [HA2.out, Bool.true_and])
      go_wp2_with fail
      refine (isNode_v3 x (A, c) tag HF.out _ hs hl).mono ?_
      rintro e w1 ⟨rfl, hb1⟩
      have X1 : Hid (Ext w w1) := Lib.hid (hew.out.trans hb1)
      go_wp2
      go_ret
      exact ⟨rfl, X1.out⟩


set_option maxRecDepth 100000 in
set_option maxHeartbeats 6400000 in
theorem textsOf_any (B d : Nat) (x : Nd) (M : Option Addr × Nat) (w : World) (hK : KidsAt B 0 (d + 1) w M x.kids) (hl : x.kids.length ≤ 8796093021952) :
    Calls Tryz.prog 43 #[nda x M] w fun e w' => (∃ (A : Option Addr) (c : Nat), e = .returned (.slice A x.kids.length c) ∧ SlS w' A (x.kids.map Nd.s) ∧ x.kids.length ≤ c ∧ c ≤ maxLen ∧ TyB w' A 9) ∧ Ext w w' := by
  have HK := Lib.hid hK
  clear hK
  obtain ⟨i0, hi0, hz0, hz1, hz2⟩ := info_parts Tryz.infoStr
  obtain ⟨A, c⟩ := M
  unfold nda
  dsimp only
  go_enter Tryz.func43, Tryz.ntmps43
  go_wp2
  go_loopw [3, 9] (fun l i wr => ∃ k : Nat, k ≤ x.kids.length ∧ i = .int .i64 k ∧ Hid (wr.ownsRow (w.heap.size + 1) 9 1 l k ((x.kids.take k).map fun y => Value.string y.s)) ∧ Ext (w.alloc (.cells #[.int .i64 x.tag, .int .i64 x.kind, .int .i64 x.n, .string x.s, .slice A x.kids.length c] 34)) wr) (fun _ i _ => x.kids.length - (intOf i).toNat)
  case atStart => exact ⟨0, by omega, rfl, Lib.hid (own_nil _ _ _ _), Ext.refl _⟩
  case round =>
    obtain ⟨k, hk, rfl, HO, he⟩ := hrel
    have hew : Hid (Ext w wr) := Lib.hid (((Ext.refl w).alloc _).trans he)
    have hwr : w.heap.size + 1 ≤ wr.heap.size := by have := he.size; simpa using this
    by_cases hlt : k < x.kids.length
    · obtain ⟨y, hy⟩ : ∃ y, x.kids[k]? = some y := ⟨x.kids[k], List.getElem?_eq_getElem hlt⟩
      obtain ⟨b, off, N, hA, hb, c0, c1, c2, c3, c4, hKN⟩ := (HK.out.ext hew.out).at_ hy
      dsimp only at hA
      subst hA
      have HT : Hid ((x.kids.take (k + 1)).map (fun y => Value.string y.s) = (x.kids.take k).map (fun y => Value.string y.s) ++ [Value.string y.s]) := Lib.hid (by rw [List.take_add_one, hy, List.map_append]; rfl)
      clear hy hKN
      have ki0 : (0 : Int) ≤ (k : Int) := by omega
      have ki1 : (k : Int) < (x.kids.length : Int) := by omega
      obtain ⟨A1, c5, rfl⟩ := own_form HO.out
      go_wp2_with (at_builtin; refine wpList_append_lies _ rfl _ _ 22 rfl (w.heap.size + 1) 9 i0 (.string ⟨#[]⟩) 1 16 Tryz.underlying22 hi0 hz0 hz1 hz2 rfl (by decide) _ _ _ rfl ((HO.out.alloc _).alloc _) ⟨wr.heap.size + 1, 0, none⟩ 1 1 [Value.string y.s] rfl rfl (World.news_of_block (heap_new_at _ _ _ (by simp))) (by simp [Value.oneCell']) (by decide) (by unfold maxLen; omega) (by omega) (by simp; omega) (wr.heap.size + 1 + 1) (by simp) ?_; intro gg cap w2 hown2 hgrow2 hat hlt2)
      have HO2 : Hid (w2.ownsRow (w.heap.size + 1) 9 1 (.slice (some ⟨gg, 0, none⟩) (k + 1) cap) (k + 1) ((x.kids.take (k + 1)).map fun y => Value.string y.s)) := Lib.hid (by rw [HT.out]; exact hown2)
      have X2 := Lib.hid (((he.alloc _).alloc _).grown hgrow2 (fun q hq => by have := own_ge HO.out q hq; simp; omega))
      clear hown2 hgrow2 hat
      go_wp2
      go_roundw
      case rel => exact ⟨k + 1, by omega, by go_num, HO2, X2.out⟩
      case measure => simp [intOf]; omega
    · obtain rfl : k = x.kids.length := by omega
      obtain ⟨A1, c5, rfl⟩ := own_form HO.out
      have HO3 : Hid (wr.ownsRow (w.heap.size + 1) 9 1 (.slice A1 x.kids.length c5) x.kids.length (x.kids.map fun y => Value.string y.s)) := Lib.hid (by have := HO.out; rwa [List.take_length] at this)
      obtain ⟨A2, c6, e, h1, h2, h3⟩ := (show RowS (w.heap.size + 1) (x.kids.map Nd.s) wr (.slice A1 x.kids.length c5) from by unfold RowS; rw [List.length_map, List.map_map]; exact HO3.out).sl
      rw [List.length_map] at h1
      simp at e
      obtain ⟨rfl, rfl⟩ := e
      go_wp2
      go_ret
      exact ⟨⟨A1, c5, rfl, h3, h1, h2, TyB.own HO3.out⟩, hew.out⟩


set_option maxRecDepth 100000 in
set_option maxHeartbeats 6400000 in
theorem numbersOf_any (B d : Nat) (x : Nd) (M : Option Addr × Nat) (w : World) (hK : KidsAt B 0 (d + 1) w M x.kids) (hl : x.kids.length ≤ 8796093021952) :
    Calls Tryz.prog 44 #[nda x M] w fun e w' => (∃ (A : Option Addr) (c : Nat), e = .returned (.slice A x.kids.length c) ∧ SlI w' A (x.kids.map Nd.n) ∧ x.kids.length ≤ c ∧ c ≤ maxLen ∧ TyB w' A 3) ∧ Ext w w' := by
  have HK := Lib.hid hK
  clear hK
  obtain ⟨i0, hi0, hz0, hz1, hz2⟩ := info_parts Tryz.infoInt
  obtain ⟨A, c⟩ := M
  unfold nda
  dsimp only
  go_enter Tryz.func44, Tryz.ntmps44
  go_wp2
  go_loopw [3, 9] (fun l i wr => ∃ k : Nat, k ≤ x.kids.length ∧ i = .int .i64 k ∧ Hid (wr.ownsRow (w.heap.size + 1) 3 1 l k ((x.kids.take k).map fun y => Value.int .i64 y.n)) ∧ Ext (w.alloc (.cells #[.int .i64 x.tag, .int .i64 x.kind, .int .i64 x.n, .string x.s, .slice A x.kids.length c] 34)) wr) (fun _ i _ => x.kids.length - (intOf i).toNat)
  case atStart => exact ⟨0, by omega, rfl, Lib.hid (own_nil _ _ _ _), Ext.refl _⟩
  case round =>
    obtain ⟨k, hk, rfl, HO, he⟩ := hrel
    have hew : Hid (Ext w wr) := Lib.hid (((Ext.refl w).alloc _).trans he)
    have hwr : w.heap.size + 1 ≤ wr.heap.size := by have := he.size; simpa using this
    by_cases hlt : k < x.kids.length
    · obtain ⟨y, hy⟩ : ∃ y, x.kids[k]? = some y := ⟨x.kids[k], List.getElem?_eq_getElem hlt⟩
      obtain ⟨b, off, N, hA, hb, c0, c1, c2, c3, c4, hKN⟩ := (HK.out.ext hew.out).at_ hy
      dsimp only at hA
      subst hA
      have HT : Hid ((x.kids.take (k + 1)).map (fun y => Value.int .i64 y.n) = (x.kids.take k).map (fun y => Value.int .i64 y.n) ++ [Value.int .i64 y.n]) := Lib.hid (by rw [List.take_add_one, hy, List.map_append]; rfl)
      clear hy hKN
      have ki0 : (0 : Int) ≤ (k : Int) := by omega
      have ki1 : (k : Int) < (x.kids.length : Int) := by omega
      obtain ⟨A1, c5, rfl⟩ := own_form HO.out
      go_wp2_with (at_builtin; refine wpList_append_lies _ rfl _ _ 23 rfl (w.heap.size + 1) 3 i0 (.int .i64 0) 1 8 Tryz.underlying23 hi0 hz0 hz1 hz2 rfl (by decide) _ _ _ rfl ((HO.out.alloc _).alloc _) ⟨wr.heap.size + 1, 0, none⟩ 1 1 [Value.int .i64 y.n] rfl rfl (World.news_of_block (heap_new_at _ _ _ (by simp))) (by simp [Value.oneCell']) (by decide) (by unfold maxLen; omega) (by omega) (by simp; omega) (wr.heap.size + 1 + 1) (by simp) ?_; intro gg cap w2 hown2 hgrow2 hat hlt2)
      have HO2 : Hid (w2.ownsRow (w.heap.size + 1) 3 1 (.slice (some ⟨gg, 0, none⟩) (k + 1) cap) (k + 1) ((x.kids.take (k + 1)).map fun y => Value.int .i64 y.n)) := Lib.hid (by rw [HT.out]; exact hown2)
      have X2 := Lib.hid (((he.alloc _).alloc _).grown hgrow2 (fun q hq => by have := own_ge HO.out q hq; simp; omega))
      clear hown2 hgrow2 hat
      go_wp2
      go_roundw
      case rel => exact ⟨k + 1, by omega, by go_num, HO2, X2.out⟩
      case measure => simp [intOf]; omega
    · obtain rfl : k = x.kids.length := by omega
      obtain ⟨A1, c5, rfl⟩ := own_form HO.out
      have HO3 : Hid (wr.ownsRow (w.heap.size + 1) 3 1 (.slice A1 x.kids.length c5) x.kids.length (x.kids.map fun y => Value.int .i64 y.n)) := Lib.hid (by have := HO.out; rwa [List.take_length] at this)
      obtain ⟨A2, c6, e, h1, h2, h3⟩ := (SlI.of_own (xs := x.kids.map Nd.n) (n := x.kids.length) (v := .slice A1 x.kids.length c5) (by rw [List.map_map]; exact HO3.out))
      rw [List.length_map] at h1
      simp at e
      obtain ⟨rfl, rfl⟩ := e
      go_wp2
      go_ret
      exact ⟨⟨A1, c5, rfl, h3, h1, h2, TyB.own HO3.out⟩, hew.out⟩

end Go.Proofs.YtdaccamiipknmaaGreatDoor
