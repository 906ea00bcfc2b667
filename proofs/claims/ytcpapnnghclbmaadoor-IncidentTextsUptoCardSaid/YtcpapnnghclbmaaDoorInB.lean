/- cmp.Compare, cmp.Or at int; incident.order: contracts for the walk. Conditions: those of each theorem. -/
import Derived.Test.YtcpapnnghclbmaaDoorInA
import Derived.Sort.Grow
namespace Go.Proofs.YtcpapnnghclbmaaDoor
open Go.RowKit Go.Sort

namespace In
def cmpI (a b : Int) : Int := if a < b then -1 else if b < a then 1 else 0
/-- The first number that is not 0. -/
def orL : List Int → Int
  | [] => 0
  | x :: l => if x ≠ 0 then x else orL l
theorem orL_append (l m : List Int) (h : ∀ x ∈ l, x = 0) : orL (l ++ m) = orL m := by
  induction l with
  | nil => rfl
  | cons x l ih =>
    rw [List.cons_append, orL, if_neg (by simp [h x]), ih (fun y hy => h y (by simp [hy]))]
theorem orL_hit {l : List Int} {k : Nat} {x : Int} (h : l[k]? = some x) (h0 : ∀ y ∈ l.take k, y = 0) (hv : x ≠ 0) : orL l = x := by
  rw [← List.take_append_drop k l, orL_append _ _ h0]
  obtain ⟨hk, rfl⟩ := List.getElem?_eq_some_iff.1 h
  rw [List.drop_eq_getElem_cons hk, orL, if_pos hv]
theorem orL_none {l : List Int} (h0 : ∀ y ∈ l, y = 0) : orL l = 0 := by
  have := orL_append l [] h0
  rwa [List.append_nil] at this
/-- The order of incidents: by time, kind, lost, grave. -/
def cf (p q : Inc) : Int := orL [cmpI p.2.1 q.2.1, cmpI p.1 q.1, cmpI p.2.2.1 q.2.2.1, cmpI p.2.2.2 q.2.2.2]
end In

theorem grown_a {w W : World} {os : Array Obj} (h : W = grow w os) (o : Obj) : W.drew.alloc o = grow (w.drewN 1) (os ++ #[o]) := by
  subst h
  rw [alloc_eq_grow, drew_grow, grow_grow]
  rfl
theorem grown_b {w W : World} {os : Array Obj} (h : W = grow w os) (o : Obj) : (W.alloc o).drew = grow (w.drewN 1) (os ++ #[o]) := by
  subst h
  rw [alloc_eq_grow, grow_grow, drew_grow]
  rfl
theorem isNaN_any (x : Int) (w : World) : Calls Tryd.prog 65 #[.int .i64 x] w fun e w' => e = .returned (.bool false) ∧ w' = w := by
  go_enter Tryd.func65, Tryd.ntmps65
  go_wp2
  go_ret
  exact ⟨rfl, rfl⟩
set_option maxHeartbeats 800000 in
theorem compare_any (a b : Int) (w : World) : Calls Tryd.prog 49 #[.int .i64 a, .int .i64 b] w fun e w' => e = .returned (.int .i64 (In.cmpI a b)) ∧ w' = w := by
  unfold In.cmpI
  rcases Int.lt_trichotomy a b with h | h | h
  · rw [if_pos h]
    go_enter Tryd.func49, Tryd.ntmps49
    go_wp2_with fail
    refine (isNaN_any a _).mono ?_
    rintro e w1 ⟨rfl, rfl⟩
    go_wp2_with fail
    refine (isNaN_any b _).mono ?_
    rintro e w1 ⟨rfl, rfl⟩
    go_wp2
    go_ret
    exact ⟨rfl, rfl⟩
  · subst h
    rw [if_neg (by omega), if_neg (by omega)]
    go_enter Tryd.func49, Tryd.ntmps49
    go_wp2_with fail
    refine (isNaN_any a _).mono ?_
    rintro e w1 ⟨rfl, rfl⟩
    go_wp2_with fail
    refine (isNaN_any a _).mono ?_
    rintro e w1 ⟨rfl, rfl⟩
    go_wp2
    go_ret
    exact ⟨rfl, rfl⟩
  · have h' : ¬ a < b := by omega
    rw [if_neg h', if_pos h]
    go_enter Tryd.func49, Tryd.ntmps49
    go_wp2_with fail
    refine (isNaN_any a _).mono ?_
    rintro e w1 ⟨rfl, rfl⟩
    go_wp2_with fail
    refine (isNaN_any b _).mono ?_
    rintro e w1 ⟨rfl, rfl⟩
    go_wp2
    go_ret
    exact ⟨rfl, rfl⟩
set_option maxHeartbeats 800000 in
theorem or_any (A : Option Addr) (c : Nat) (xs : List Int) (w : World) (h : SlI w A xs) (hl : xs.length ≤ 1000) :
    Calls Tryd.prog 48 #[.slice A xs.length c] w fun e w' => e = .returned (.int .i64 (In.orL xs)) ∧ w' = w := by
  have H := Lib.hid h
  clear h
  go_enter Tryd.func48, Tryd.ntmps48
  go_wp2
  go_loop [8] (fun i => ∃ k : Nat, k ≤ xs.length ∧ i = .int .i64 k ∧ (∀ y ∈ xs.take k, y = 0)) (fun i => xs.length - (intOf i).toNat)
  case atStart => exact ⟨0, by omega, rfl, by simp⟩
  case round =>
    obtain ⟨k, hk, rfl, hx⟩ := hrel
    have HX := Lib.hid hx
    clear hx
    by_cases hlt : k < xs.length
    · obtain ⟨b, off, x, rfl, hb, hxk, c0⟩ := H.out.at_ hlt
      have HK := Lib.hid hxk
      clear hxk
      have ki0 : (0 : Int) ≤ (k : Int) := by omega
      have ki1 : (k : Int) < (xs.length : Int) := by omega
      by_cases hz : x = 0
      · have hz' : (x != 0) = false := by rw [hz]; rfl
        have HS : Hid (∀ y ∈ xs.take (k + 1), y = 0) := Lib.hid (by
          rw [List.take_add_one, HK.out]
          intro y hy
          rcases List.mem_append.1 hy with g | g
          · exact HX.out y g
          · simp at g; rw [g]; exact hz)
        clear hz
        go_wp2
        go_round
        case rel => exact ⟨k + 1, by omega, by go_num, HS.out⟩
        case measure => simp [intOf]; omega
      · have hz' : (x != 0) = true := by rw [bne_iff_ne]; exact hz
        have HS : Hid (In.orL xs = x) := Lib.hid (In.orL_hit HK.out HX.out hz)
        clear hz
        go_wp2
        go_ret
        exact ⟨ret_int HS.out.symm, rfl⟩
    · have HS : Hid (In.orL xs = 0) := Lib.hid (In.orL_none (by have := HX.out; rwa [List.take_of_length_le (by omega)] at this))
      go_wp2
      go_ret
      exact ⟨ret_int HS.out.symm, rfl⟩
theorem compare_to {a b r : Int} (hr : In.cmpI a b = r) (w : World) : Calls Tryd.prog 49 #[.int .i64 a, .int .i64 b] w fun e w' => e = .returned (.int .i64 r) ∧ w' = w := by
  subst hr
  exact compare_any a b w
theorem or4_to (g : Nat) {x y z u v : Int} (hv : In.orL [x, y, z, u] = v) (w : World) (hg : g < w.heap.size) (h0 : w.cell? ⟨g, 0, none⟩ = some (.int .i64 x)) (h1 : w.cell? ⟨g, 1, none⟩ = some (.int .i64 y)) (h2 : w.cell? ⟨g, 2, none⟩ = some (.int .i64 z)) (h3 : w.cell? ⟨g, 3, none⟩ = some (.int .i64 u)) :
    Calls Tryd.prog 48 #[.slice (some ⟨g, 0, none⟩) 4 4] w fun e w' => e = .returned (.int .i64 v) ∧ w' = w := by
  subst hv
  refine or_any (some ⟨g, 0, none⟩) 4 [x, y, z, u] w (Or.inr ⟨g, 0, rfl, hg, fun i cs hi j v hj => ?_⟩) (by simp)
  match i, hi with
  | 0, hi => simp at hi; subst hi; match j, hj with | 0, hj => simp at hj; subst hj; simpa using h0
  | 1, hi => simp at hi; subst hi; match j, hj with | 0, hj => simp at hj; subst hj; simpa using h1
  | 2, hi => simp at hi; subst hi; match j, hj with | 0, hj => simp at hj; subst hj; simpa using h2
  | 3, hi => simp at hi; subst hi; match j, hj with | 0, hj => simp at hj; subst hj; simpa using h3
set_option maxRecDepth 100000 in
set_option maxHeartbeats 6400000 in
theorem order_any (p q : In.Inc) (w : World) :
    Calls Tryd.prog 34 #[.agg #[.int .i64 p.1, .int .i64 p.2.1, .int .i64 p.2.2.1, .int .i64 p.2.2.2], .agg #[.int .i64 q.1, .int .i64 q.2.1, .int .i64 q.2.2.1, .int .i64 q.2.2.2]] w fun e w' => e = .returned (.int .i64 (In.cf p q)) ∧ ∃ m os, w' = grow (w.drewN m) os := by
  obtain ⟨p1, p2, p3, p4⟩ := p
  obtain ⟨q1, q2, q3, q4⟩ := q
  unfold In.cf
  simp only
  obtain ⟨r, hr⟩ : ∃ r, In.cmpI p2 q2 = r := ⟨_, rfl⟩
  obtain ⟨s, hs⟩ : ∃ s, In.cmpI p1 q1 = s := ⟨_, rfl⟩
  obtain ⟨t, ht⟩ : ∃ t, In.cmpI p3 q3 = t := ⟨_, rfl⟩
  obtain ⟨u, hu⟩ : ∃ u, In.cmpI p4 q4 = u := ⟨_, rfl⟩
  rw [hr, hs, ht, hu]
  obtain ⟨v, hv⟩ : ∃ v, In.orL [r, s, t, u] = v := ⟨_, rfl⟩
  rw [hv]
  have HV := Lib.hid hv
  clear hv
  have HR := Lib.hid hr
  have HS := Lib.hid hs
  have HT := Lib.hid ht
  have HU := Lib.hid hu
  clear hr hs ht hu
  go_enter Tryd.func34, Tryd.ntmps34
  go_wp2_with fail
  have c00 : ((w.alloc (.cells #[.int .i64 p1, .int .i64 p2, .int .i64 p3, .int .i64 p4] 23)).alloc (.cells #[.int .i64 q1, .int .i64 q2, .int .i64 q3, .int .i64 q4] 23)).cell? ⟨w.heap.size, 0, none⟩ = some (.int .i64 p1) := by simp [go_sem]
  have c01 : ((w.alloc (.cells #[.int .i64 p1, .int .i64 p2, .int .i64 p3, .int .i64 p4] 23)).alloc (.cells #[.int .i64 q1, .int .i64 q2, .int .i64 q3, .int .i64 q4] 23)).cell? ⟨w.heap.size, 1, none⟩ = some (.int .i64 p2) := by simp [go_sem]
  have c02 : ((w.alloc (.cells #[.int .i64 p1, .int .i64 p2, .int .i64 p3, .int .i64 p4] 23)).alloc (.cells #[.int .i64 q1, .int .i64 q2, .int .i64 q3, .int .i64 q4] 23)).cell? ⟨w.heap.size, 2, none⟩ = some (.int .i64 p3) := by simp [go_sem]
  have c03 : ((w.alloc (.cells #[.int .i64 p1, .int .i64 p2, .int .i64 p3, .int .i64 p4] 23)).alloc (.cells #[.int .i64 q1, .int .i64 q2, .int .i64 q3, .int .i64 q4] 23)).cell? ⟨w.heap.size, 3, none⟩ = some (.int .i64 p4) := by simp [go_sem]
  have c10 : ((w.alloc (.cells #[.int .i64 p1, .int .i64 p2, .int .i64 p3, .int .i64 p4] 23)).alloc (.cells #[.int .i64 q1, .int .i64 q2, .int .i64 q3, .int .i64 q4] 23)).cell? ⟨w.heap.size + 1, 0, none⟩ = some (.int .i64 q1) := by simp [go_sem]
  have c11 : ((w.alloc (.cells #[.int .i64 p1, .int .i64 p2, .int .i64 p3, .int .i64 p4] 23)).alloc (.cells #[.int .i64 q1, .int .i64 q2, .int .i64 q3, .int .i64 q4] 23)).cell? ⟨w.heap.size + 1, 1, none⟩ = some (.int .i64 q2) := by simp [go_sem]
  have c12 : ((w.alloc (.cells #[.int .i64 p1, .int .i64 p2, .int .i64 p3, .int .i64 p4] 23)).alloc (.cells #[.int .i64 q1, .int .i64 q2, .int .i64 q3, .int .i64 q4] 23)).cell? ⟨w.heap.size + 1, 2, none⟩ = some (.int .i64 q3) := by simp [go_sem]
  have c13 : ((w.alloc (.cells #[.int .i64 p1, .int .i64 p2, .int .i64 p3, .int .i64 p4] 23)).alloc (.cells #[.int .i64 q1, .int .i64 q2, .int .i64 q3, .int .i64 q4] 23)).cell? ⟨w.heap.size + 1, 3, none⟩ = some (.int .i64 q4) := by simp [go_sem]
  have HW : Hid (((w.alloc (.cells #[.int .i64 p1, .int .i64 p2, .int .i64 p3, .int .i64 p4] 23)).alloc (.cells #[.int .i64 q1, .int .i64 q2, .int .i64 q3, .int .i64 q4] 23)) = grow w #[.cells #[.int .i64 p1, .int .i64 p2, .int .i64 p3, .int .i64 p4] 23, .cells #[.int .i64 q1, .int .i64 q2, .int .i64 q3, .int .i64 q4] 23]) := Lib.hid (by rw [alloc_eq_grow, alloc_eq_grow, grow_grow]; rfl)
  generalize ((w.alloc (.cells #[.int .i64 p1, .int .i64 p2, .int .i64 p3, .int .i64 p4] 23)).alloc (.cells #[.int .i64 q1, .int .i64 q2, .int .i64 q3, .int .i64 q4] 23)) = W at *
  go_region_held3 (fun w' => w'.cell? ⟨w.heap.size, 0, none⟩ = some (.int .i64 p1) ∧ w'.cell? ⟨w.heap.size, 1, none⟩ = some (.int .i64 p2) ∧ w'.cell? ⟨w.heap.size, 2, none⟩ = some (.int .i64 p3) ∧ w'.cell? ⟨w.heap.size, 3, none⟩ = some (.int .i64 p4) ∧ w'.cell? ⟨w.heap.size + 1, 0, none⟩ = some (.int .i64 q1) ∧ w'.cell? ⟨w.heap.size + 1, 1, none⟩ = some (.int .i64 q2) ∧ w'.cell? ⟨w.heap.size + 1, 2, none⟩ = some (.int .i64 q3) ∧ w'.cell? ⟨w.heap.size + 1, 3, none⟩ = some (.int .i64 q4))
    (first
      | (with_reducible exact ⟨c00, c01, c02, c03, c10, c11, c12, c13⟩)
      | (exact ⟨Ext.keep (Ext.drew (Ext.refl W)) c00, Ext.keep (Ext.drew (Ext.refl W)) c01, Ext.keep (Ext.drew (Ext.refl W)) c02, Ext.keep (Ext.drew (Ext.refl W)) c03, Ext.keep (Ext.drew (Ext.refl W)) c10, Ext.keep (Ext.drew (Ext.refl W)) c11, Ext.keep (Ext.drew (Ext.refl W)) c12, Ext.keep (Ext.drew (Ext.refl W)) c13⟩)
      | (exact ⟨Ext.keep (Ext.alloc (Ext.drew (Ext.refl W)) _) c00, Ext.keep (Ext.alloc (Ext.drew (Ext.refl W)) _) c01, Ext.keep (Ext.alloc (Ext.drew (Ext.refl W)) _) c02, Ext.keep (Ext.alloc (Ext.drew (Ext.refl W)) _) c03, Ext.keep (Ext.alloc (Ext.drew (Ext.refl W)) _) c10, Ext.keep (Ext.alloc (Ext.drew (Ext.refl W)) _) c11, Ext.keep (Ext.alloc (Ext.drew (Ext.refl W)) _) c12, Ext.keep (Ext.alloc (Ext.drew (Ext.refl W)) _) c13⟩)
      | (exact ⟨Ext.keep (Ext.drew (Ext.alloc (Ext.refl W) _)) c00, Ext.keep (Ext.drew (Ext.alloc (Ext.refl W) _)) c01, Ext.keep (Ext.drew (Ext.alloc (Ext.refl W) _)) c02, Ext.keep (Ext.drew (Ext.alloc (Ext.refl W) _)) c03, Ext.keep (Ext.drew (Ext.alloc (Ext.refl W) _)) c10, Ext.keep (Ext.drew (Ext.alloc (Ext.refl W) _)) c11, Ext.keep (Ext.drew (Ext.alloc (Ext.refl W) _)) c12, Ext.keep (Ext.drew (Ext.alloc (Ext.refl W) _)) c13⟩))
    (first
      | (go_at_call 49; with_reducible refine (compare_to HR.out _).mono ?_; rintro e w' ⟨rfl, rfl⟩)
      | (go_at_call 49; with_reducible refine (compare_to HS.out _).mono ?_; rintro e w' ⟨rfl, rfl⟩)
      | (go_at_call 49; with_reducible refine (compare_to HT.out _).mono ?_; rintro e w' ⟨rfl, rfl⟩)
      | (go_at_call 49; with_reducible refine (compare_to HU.out _).mono ?_; rintro e w' ⟨rfl, rfl⟩)
      | (go_at_call 48; refine (or4_to _ HV.out _ (by simp) (by simp [go_sem]) (by simp [go_sem]) (by simp [go_sem]) (by simp [go_sem])).mono ?_; rintro e w' ⟨rfl, rfl⟩))
  all_goals
    go_wp2
    go_ret
    first | exact ⟨rfl, 1, _, grown_a HW.out _⟩ | exact ⟨rfl, 1, _, grown_b HW.out _⟩
end Go.Proofs.YtcpapnnghclbmaaDoor
