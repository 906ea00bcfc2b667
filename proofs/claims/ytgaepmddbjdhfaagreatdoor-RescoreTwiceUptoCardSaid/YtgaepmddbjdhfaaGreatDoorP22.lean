/- Posterior weights in plain words: rules of a grid, of a model, of a pool, weights after steps. No conditions. Rules of a response model, in the package and in the reference: contracts. Conditions: those of each theorem. -/
import Derived.Test.YtgaepmddbjdhfaaGreatDoorP4
import Derived.Test.YtgaepmddbjdhfaaGreatDoorP18
import Derived.Test.YtgaepmddbjdhfaaGreatDoorApp
namespace Go.Proofs.YtgaepmddbjdhfaaGreatDoor
namespace Rw
/-- Rules of a grid. -/
def ptA (pt pr : List Int) (i : Nat) : Bool := It.wi (pt.getD i 0) (-1000) 1000 && It.wi (pr.getD i 0) 1 1000
def gridE (pt pr : List Int) : Int := if 21 < pt.length then 5 else if pt.length = 0 then 20 else if pr.length ≠ pt.length then 1 else if It.allN (ptA pt pr) pt.length = false then 3 else if Rs.inc pt = false then 23 else 0
/-- Rules of a model. -/
def rowE (k : Nat) (l : List Int) : Int := if l.length ≠ k then 1 else if l.all (fun x => It.wi x 1 1000) = false then 3 else if l.sum ≠ 1000 then 19 else 0
def rowAt (rows : List (List Int)) (k i : Nat) : Int := rowE k (rows.getD i [])
def mdlE (rows : List (List Int)) (n : Int) : Int := if n < 1 ∨ 21 < n ∨ (rows.length : Int) ≠ n then 1 else if (rows.getD 0 []).length < 2 ∨ 6 < (rows.getD 0 []).length then 3 else Rs.fstN (rowAt rows (rows.getD 0 []).length) rows.length
structure PItem where
  id : Int
  cont : ByteArray
  fam : Int
  set_ : Int
  wrd : Int
  sec : Int
  pts : Int
  key : Int
  rows : List (List Int)
def pranges (x : PItem) : Bool := It.wi x.fam 0 9999999 && It.wi x.set_ 0 9999999 && It.wi x.wrd 0 2000 && It.wi x.sec 1 2000 && It.wi x.pts 1 5 && It.wi x.key 0 10
/-- Updates. -/
def cats (x : PItem) : Nat := (x.rows.getD 0 []).length
def badC (x : PItem) (k : Int) : Bool := !decide (k = -1) && !decide (k = -2) && (decide (k < 0) || decide ((cats x : Int) ≤ k))
def fac (x : PItem) (k : Int) (i : Nat) : Nat := if k = -1 ∨ k = -2 then 1 else ((x.rows.getD i []).getD k.toNat 0).toNat
def mulW (x : PItem) (k : Int) (w : List Nat) : List Nat := w.mapIdx fun i v => v * fac x k i
def fndP (pool : List PItem) (id : Int) : Option PItem := pool.find? fun x => decide (x.id = id)
def upd1 (pool : List PItem) (st : Int × List Nat) (s : Rs.Stp) : Int × List Nat := if st.1 ≠ 0 then st else match fndP pool s.1 with
  | none => (6, [])
  | some x => if badC x s.2 = true then (3, []) else (0, mulW x s.2 st.2)
def prior (pr : List Int) : List Nat := pr.map Int.toNat
def updN (pool : List PItem) (w : List Nat) (ss : List Rs.Stp) : Int × List Nat := ss.foldl (upd1 pool) (0, w)
theorem updN_next {pool : List PItem} {w : List Nat} {ss : List Rs.Stp} {k : Nat} {s : Rs.Stp} (h : ss[k]? = some s) : updN pool w (ss.take (k + 1)) = upd1 pool (updN pool w (ss.take k)) s := by
  unfold updN; rw [List.take_add_one, h, List.foldl_append]; rfl
theorem updN_stuck {pool : List PItem} {st : Int × List Nat} (h : st.1 ≠ 0) : ∀ ss : List Rs.Stp, ss.foldl (upd1 pool) st = st
  | [] => rfl
  | s :: ss => by rw [List.foldl_cons, show upd1 pool st s = st by unfold upd1; rw [if_pos h]]; exact updN_stuck h ss
theorem updN_hit {pool : List PItem} {w cur : List Nat} {ss : List Rs.Stp} {k : Nat} {s : Rs.Stp} {v : Int} (h : ss[k]? = some s) (h0 : updN pool w (ss.take k) = (0, cur)) (hv : upd1 pool (0, cur) s = (v, [])) (hn : v ≠ 0) : updN pool w ss = (v, []) := by
  have h1 : updN pool w (ss.take (k + 1)) = (v, []) := by rw [updN_next h, h0, hv]
  have h2 : ss = ss.take (k + 1) ++ ss.drop (k + 1) := (List.take_append_drop _ _).symm
  rw [h2]
  unfold updN at h1 ⊢
  rw [List.foldl_append, h1]
  exact updN_stuck hn _
/-- A step's own error. -/
def stE (pool : List PItem) (s : Rs.Stp) : Int := match fndP pool s.1 with
  | none => 6
  | some x => if badC x s.2 = true then 3 else 0
def stF (pool : List PItem) (s : Rs.Stp) (i : Nat) : Nat := match fndP pool s.1 with
  | none => 1
  | some x => fac x s.2 i
theorem upd1_ok {pool : List PItem} {w : List Nat} {s : Rs.Stp} (h : stE pool s = 0) : upd1 pool (0, w) s = (0, w.mapIdx fun i v => v * stF pool s i) := by
  unfold stE at h
  unfold upd1 stF
  rw [if_neg (by simp)]
  cases hf : fndP pool s.1 with
  | none => rw [hf] at h; simp at h
  | some x =>
    rw [hf] at h
    simp only at h ⊢
    cases hb : badC x s.2 with
    | true => rw [hb] at h; simp at h
    | false => rw [if_neg (by simp)]; rfl
theorem upd1_bad {pool : List PItem} {w : List Nat} {s : Rs.Stp} (h : stE pool s ≠ 0) : (upd1 pool (0, w) s).1 ≠ 0 := by
  unfold stE at h
  unfold upd1
  rw [if_neg (by simp)]
  cases hf : fndP pool s.1 with
  | none => simp
  | some x =>
    rw [hf] at h
    simp only at h ⊢
    cases hb : badC x s.2 with
    | true => rw [if_pos rfl]; simp
    | false => rw [hb] at h; simp at h
/-- All steps are in order exactly if each is; the weights are products. -/
theorem updN_ok {pool : List PItem} : ∀ {ss : List Rs.Stp} {w : List Nat}, (∀ s ∈ ss, stE pool s = 0) → updN pool w ss = (0, w.mapIdx fun i v => v * (ss.map fun s => stF pool s i).prod)
  | [], w, _ => by
    unfold updN
    rw [List.foldl_nil]
    congr 1
    apply List.ext_getElem
    · simp
    · intro i h1 h2; simp
  | s :: ss, w, h => by
    have ih := updN_ok (pool := pool) (ss := ss) (w := w.mapIdx fun i v => v * stF pool s i) (fun t ht => h t (by simp [ht]))
    unfold updN at ih ⊢
    rw [List.foldl_cons, upd1_ok (h s (by simp)), ih]
    congr 1
    apply List.ext_getElem
    · simp
    · intro i h1 h2
      simp [Nat.mul_assoc]
theorem updN_each {pool : List PItem} : ∀ {ss : List Rs.Stp} {w : List Nat}, (updN pool w ss).1 = 0 → ∀ s ∈ ss, stE pool s = 0
  | [], _, _ => by simp
  | s :: ss, w, h => by
    by_cases hs : stE pool s = 0
    · intro t ht
      rcases List.mem_cons.1 ht with rfl | ht
      · exact hs
      · refine updN_each (pool := pool) (ss := ss) (w := w.mapIdx fun i v => v * stF pool s i) ?_ t ht
        unfold updN at h ⊢
        rwa [List.foldl_cons, upd1_ok hs] at h
    · exfalso
      unfold updN at h
      rw [List.foldl_cons, updN_stuck (upd1_bad hs)] at h
      exact upd1_bad hs h
/-- The order of the steps does not matter. -/
theorem updN_perm {pool : List PItem} {ss ts : List Rs.Stp} {w : List Nat} (hp : ss.Perm ts) (h : (updN pool w ss).1 = 0) : updN pool w ts = updN pool w ss := by
  have h1 := updN_each h
  have h2 : ∀ s ∈ ts, stE pool s = 0 := fun s hs => h1 s (hp.mem_iff.2 hs)
  rw [updN_ok h1, updN_ok h2]
  congr 1
  apply List.ext_getElem
  · simp
  · intro i g1 g2
    simp only [List.getElem_mapIdx]
    congr 1
    exact ((hp.map fun s => stF pool s i).prod_nat).symm
end Rw
end Go.Proofs.YtgaepmddbjdhfaaGreatDoor
namespace Go.Proofs.YtgaepmddbjdhfaaGreatDoor
open Go.RowKit
namespace Rw
theorem rowE_len {k : Nat} {l : List Int} (h : l.length ≠ k) : rowE k l = 1 := by unfold rowE; rw [if_pos h]
theorem rowE_no {l : List Int} {j : Nat} {x : Int} (hx : l[j]? = some x) (hb : It.wi x 1 1000 = false) : rowE l.length l = 3 := by
  unfold rowE
  rw [if_neg (by simp), if_pos]
  rw [List.all_eq_false]
  exact ⟨x, List.mem_of_getElem? hx, by rw [hb]; simp⟩
theorem rowE_sum {l : List Int} (h : (l.all fun x => It.wi x 1 1000) = true) : rowE l.length l = if l.sum ≠ 1000 then 19 else 0 := by
  unfold rowE
  rw [if_neg (by simp), if_neg (by rw [h]; simp)]
theorem sum_next {l : List Int} {j : Nat} {x : Int} (hx : l[j]? = some x) : (l.take (j + 1)).sum = (l.take j).sum + x := by
  rw [List.take_add_one, hx, List.sum_append]; simp
theorem all_next {p : Int → Bool} {l : List Int} {k : Nat} {x : Int} (hx : l[k]? = some x) (h : (l.take k).all p = true) (hb : p x = true) : (l.take (k + 1)).all p = true := by
  rw [List.take_add_one, hx, List.all_append, h]
  simp [hb]
theorem sum_lim {l : List Int} (h : (l.all fun x => It.wi x 1 1000) = true) : 0 ≤ l.sum ∧ l.sum ≤ 1000 * l.length := by
  induction l with
  | nil => simp
  | cons x l ih =>
    simp only [List.all_cons, Bool.and_eq_true] at h
    have h1 := ih h.2
    have h2 := h.1
    unfold It.wi at h2
    simp at h2
    simp only [List.sum_cons, List.length_cons]
    omega
theorem rowAt_at {rows : List (List Int)} {k i : Nat} {l : List Int} (h : rows[i]? = some l) : rowAt rows k i = rowE k l := by unfold rowAt; rw [List.getD_eq_getElem?_getD, h]; rfl
theorem mdlE_no {rows : List (List Int)} {n : Int} (h : n < 1 ∨ 21 < n ∨ (rows.length : Int) ≠ n) : mdlE rows n = 1 := by unfold mdlE; rw [if_pos h]
theorem mdlE_cats {rows : List (List Int)} {n : Nat} {l : List Int} (h1 : 1 ≤ n) (h2 : n ≤ 21) (h3 : rows.length = n) (h0 : rows[0]? = some l) (h : l.length < 2 ∨ 6 < l.length) : mdlE rows (n : Int) = 3 := by
  unfold mdlE
  have e : rows.getD 0 [] = l := by rw [List.getD_eq_getElem?_getD, h0]; rfl
  rw [if_neg (by omega), e, if_pos h]
theorem mdlE_rest {rows : List (List Int)} {n : Nat} {l : List Int} (h1 : 1 ≤ n) (h2 : n ≤ 21) (h3 : rows.length = n) (h0 : rows[0]? = some l) (h : 2 ≤ l.length ∧ l.length ≤ 6) : mdlE rows (n : Int) = Rs.fstN (rowAt rows l.length) n := by
  unfold mdlE
  have e : rows.getD 0 [] = l := by rw [List.getD_eq_getElem?_getD, h0]; rfl
  rw [if_neg (by omega), e, if_neg (by omega), h3]
/-- The rows of slices. -/
def xss (ls : List IL) : List (List Int) := ls.map (·.xs)
theorem xss_at {ls : List IL} {i : Nat} {h : IL} (hi : ls[i]? = some h) : (xss ls)[i]? = some h.xs := by unfold xss; rw [List.getElem?_map, hi]; rfl
theorem xss_len (ls : List IL) : (xss ls).length = ls.length := List.length_map _
end Rw
set_option maxRecDepth 100000 in
set_option maxHeartbeats 3200000 in
theorem rrow_any (A : Option Addr) (c : Nat) (l : List Int) {n : Nat} (hn : l.length = n) (k : Nat) {v : Int} (hv : Rw.rowE k l = v) (w : World) (h : SlI w A l) (hb : n ≤ 9223372036854775807) (hk : k ≤ 1000000) :
    Calls Tryz.prog 104 #[.slice A n c, .int .i64 (k : Int)] w fun e w' => e = .returned (.int .i64 v) ∧ w = w' := by
  have H := Lib.hid h
  have HV := Lib.hid hv
  have HN := Lib.hid hn
  clear h hv hn
  by_cases hnk : n = k
  case neg =>
    have HF : Hid (v = 1) := Lib.hid (by rw [← HV.out]; exact Rw.rowE_len (by rw [HN.out]; exact hnk))
    have t0 : ((n : Int) != (k : Int)) = true := by rw [bne_iff_ne]; omega
    clear hnk
    go_enter Tryz.func104, Tryz.ntmps104
    go_wp2
    go_ret
    exact ⟨ret_int HF.out.symm, rfl⟩
  subst hnk
  have t0 : ((n : Int) != (n : Int)) = false := by simp
  go_enter Tryz.func104, Tryz.ntmps104
  go_wp2
  go_loop [5, 6] (fun s i => ∃ (j : Nat) (q : Int), j ≤ n ∧ i = .int .i64 j ∧ s = .int .i64 q ∧ 0 ≤ q ∧ q ≤ 1000 * j ∧ Hid (q = (l.take j).sum) ∧ Hid ((l.take j).all (fun x => It.wi x 1 1000) = true)) (fun _ i => n - (intOf i).toNat)
  case atStart => exact ⟨0, 0, by omega, rfl, rfl, by omega, by omega, Lib.hid (by simp), Lib.hid (by simp)⟩
  case round =>
    obtain ⟨j, q, hj, rfl, rfl, hq0, hq1, HQ, HA⟩ := hrel
    by_cases hjt : j < n
    · obtain ⟨b, off, x, rfl, hbb, hx, hc⟩ := H.out.at_ (i := j) (by rw [HN.out]; exact hjt)
      have HX := Lib.hid hx
      have jj0 : (0 : Int) ≤ (j : Int) := by omega
      have jj1 : (j : Int) < (n : Int) := by omega
      clear hx
      rcases (show x < 1 ∨ (1 ≤ x ∧ 1000 < x) ∨ (1 ≤ x ∧ x ≤ 1000) by omega) with h1 | ⟨h1, h2⟩ | ⟨h1, h2⟩
      · have HF : Hid (v = 3) := Lib.hid (by rw [← HV.out, ← HN.out]; exact Rw.rowE_no HX.out (by unfold It.wi; simp; omega))
        go_wp2
        go_ret
        exact ⟨ret_int HF.out.symm, rfl⟩
      · have HF : Hid (v = 3) := Lib.hid (by rw [← HV.out, ← HN.out]; exact Rw.rowE_no HX.out (by unfold It.wi; simp; omega))
        go_wp2
        go_ret
        exact ⟨ret_int HF.out.symm, rfl⟩
      · have HQ2 : Hid (q + x = (l.take (j + 1)).sum) := Lib.hid (by rw [Rw.sum_next HX.out, HQ.out])
        have HA2 := Lib.hid (Rw.all_next HX.out HA.out (by unfold It.wi; simp; omega))
        go_wp2
        go_round
        case rel => exact ⟨j + 1, q + x, by omega, by go_num, rfl, by omega, by omega, HQ2, HA2⟩
        case measure => simp [intOf]; omega
    · obtain rfl : j = n := by omega
      have HT : Hid (l.take j = l) := Lib.hid (by rw [← HN.out, List.take_length])
      have HF : Hid (v = if q ≠ 1000 then 19 else 0) := Lib.hid (by
        have := HA.out
        rw [HT.out] at this
        rw [← HV.out, ← HN.out, Rw.rowE_sum this, HQ.out, HT.out])
      by_cases hq : q = 1000
      · have t1 : (q != 1000) = false := by rw [hq]; rfl
        have HF2 : Hid (v = 0) := Lib.hid (by rw [HF.out, if_neg (by simpa using hq)])
        clear hq
        go_wp2
        go_ret
        exact ⟨ret_int HF2.out.symm, rfl⟩
      · have t1 : (q != 1000) = true := by rw [bne_iff_ne]; exact hq
        have HF2 : Hid (v = 19) := Lib.hid (by rw [HF.out, if_pos hq])
        clear hq
        go_wp2
        go_ret
        exact ⟨ret_int HF2.out.symm, rfl⟩
set_option maxRecDepth 100000 in
set_option maxHeartbeats 6400000 in
theorem kmdl_any (A : Option Addr) (c : Nat) (ls : List IL) {n : Nat} (hn : ls.length = n) (k : Int) {v : Int} (hv : Rw.mdlE (Rw.xss ls) k = v) (w : World) (h : SlL w A ls) (hb : n ≤ 140737488355328) :
    Calls Tryz.prog 63 #[.agg #[.slice A n c], .int .i64 k] w fun e w' => e = .returned (.int .i64 v) ∧ Ext w w' := by
  have H := Lib.hid h
  have HV := Lib.hid hv
  have HN := Lib.hid hn
  have HL : Hid ((Rw.xss ls).length = n) := Lib.hid ((Rw.xss_len ls).trans hn)
  clear h hv hn
  rcases (show k < 1 ∨ (1 ≤ k ∧ 21 < k) ∨ (1 ≤ k ∧ k ≤ 21 ∧ (n : Int) ≠ k) ∨ (1 ≤ n ∧ n ≤ 21 ∧ (n : Int) = k) by omega) with h1 | ⟨h1, h2⟩ | ⟨h1, h2, h3⟩ | ⟨h1, h2, h3⟩
  · have HF : Hid (v = 1) := Lib.hid (by rw [← HV.out]; exact Rw.mdlE_no (Or.inl h1))
    go_enter Tryz.func63, Tryz.ntmps63
    go_wp2
    go_ret
    exact ⟨ret_int HF.out.symm, (Ext.refl _).alloc _⟩
  · have HF : Hid (v = 1) := Lib.hid (by rw [← HV.out]; exact Rw.mdlE_no (Or.inr (Or.inl h2)))
    go_enter Tryz.func63, Tryz.ntmps63
    go_wp2
    go_ret
    exact ⟨ret_int HF.out.symm, (Ext.refl _).alloc _⟩
  · have HF : Hid (v = 1) := Lib.hid (by rw [← HV.out]; exact Rw.mdlE_no (Or.inr (Or.inr (by rw [HL.out]; exact h3))))
    have t0 : ((n : Int) != k) = true := by rw [bne_iff_ne]; exact h3
    clear h3
    go_enter Tryz.func63, Tryz.ntmps63
    go_wp2
    go_ret
    exact ⟨ret_int HF.out.symm, (Ext.refl _).alloc _⟩
  · subst h3
    have t0 : ((n : Int) != (n : Int)) = false := by simp
    obtain ⟨g0, hg0⟩ : ∃ x, ls[0]? = some x := ⟨ls[0]'(by rw [HN.out]; omega), List.getElem?_eq_getElem _⟩
    obtain ⟨b, off, rfl, hbb, c0, hi0⟩ := H.out.at_ hg0
    rw [Nat.add_zero] at c0
    obtain ⟨A0, cc0, l0⟩ := g0
    have hcap : l0.length ≤ 9223372036854775807 := by have := hi0.2.1; have := hi0.2.2.1; unfold maxLen at *; simp only at *; omega
    have HG0 : Hid ((Rw.xss ls)[0]? = some l0) := Lib.hid (Rw.xss_at hg0)
    clear hg0 hi0
    dsimp only at c0
    obtain ⟨m, hm⟩ : ∃ m, l0.length = m := ⟨_, rfl⟩
    rw [hm] at c0 hcap
    have HM := Lib.hid hm
    clear hm
    have nn0 : (1 : Int) ≤ (n : Int) := by omega
    have nn1 : (n : Int) ≤ 21 := by omega
    have X1 : Ext w (w.alloc (.cells #[.slice (some ⟨b, off, none⟩) n c] 70)) := (Ext.refl _).alloc _
    have n0 : 0 < n := by omega
    have HC0 := Lib.hid c0
    rcases (show m < 2 ∨ (2 ≤ m ∧ 6 < m) ∨ (2 ≤ m ∧ m ≤ 6) by omega) with h3 | ⟨h3, h4⟩ | ⟨h3, h4⟩
    · have HF : Hid (v = 3) := Lib.hid (by rw [← HV.out]; exact Rw.mdlE_cats h1 h2 HL.out HG0.out (by rw [HM.out]; omega))
      go_enter Tryz.func63, Tryz.ntmps63
      go_wp2
      go_ret
      exact ⟨ret_int HF.out.symm, X1⟩
    · have HF : Hid (v = 3) := Lib.hid (by rw [← HV.out]; exact Rw.mdlE_cats h1 h2 HL.out HG0.out (by rw [HM.out]; omega))
      go_enter Tryz.func63, Tryz.ntmps63
      go_wp2
      go_ret
      exact ⟨ret_int HF.out.symm, X1⟩
    · have HF : Hid (v = Rs.fstN (Rw.rowAt (Rw.xss ls) m) n) := Lib.hid (by rw [← HV.out, Rw.mdlE_rest h1 h2 HL.out HG0.out (by rw [HM.out]; omega), HM.out])
      go_enter Tryz.func63, Tryz.ntmps63
      go_wp2
      clear c0
      go_loopw [38] (fun i wr => ∃ k : Nat, k ≤ n ∧ i = .int .i64 k ∧ Hid (Rs.fstN (Rw.rowAt (Rw.xss ls) m) k = 0) ∧ Hid (Ext (w.alloc (.cells #[.slice (some ⟨b, off, none⟩) n c] 70)) wr)) (fun i _ => n - (intOf i).toNat)
      case atStart => exact ⟨0, by omega, rfl, Lib.hid rfl, Lib.hid (Ext.refl _)⟩
      case round =>
        obtain ⟨k, hk, rfl, HZ, HE⟩ := hrel
        by_cases hlt : k < n
        · obtain ⟨g, hg⟩ : ∃ x, ls[k]? = some x := ⟨ls[k]'(by rw [HN.out]; exact hlt), List.getElem?_eq_getElem _⟩
          obtain ⟨b', off', hA', hbb', cx, hix⟩ := (H.out.ext (X1.trans HE.out)).at_ hg
          obtain ⟨rfl, rfl⟩ : b = b' ∧ off = off' := by cases hA'; exact ⟨rfl, rfl⟩
          obtain ⟨Ax, ccx, lx⟩ := g
          have hcx : lx.length ≤ 9223372036854775807 := by have := hix.2.1; have := hix.2.2.1; unfold maxLen at *; simp only at *; omega
          have HSX : Hid (SlI wr Ax lx) := Lib.hid hix.1
          have HRX : Hid (Rw.rowAt (Rw.xss ls) m k = Rw.rowE m lx) := Lib.hid (Rw.rowAt_at (Rw.xss_at hg))
          dsimp only at cx
          obtain ⟨p, hp⟩ : ∃ p, lx.length = p := ⟨_, rfl⟩
          rw [hp] at cx hcx
          have HP := Lib.hid hp
          clear hp hg hix hA'
          have cb : wr.cell? ⟨w.heap.size, 0, none⟩ = some (.slice (some ⟨b, off, none⟩) n c) := HE.out.keep (World.cell?_alloc_new _ _ _ _)
          have ki0 : (0 : Int) ≤ (k : Int) := by omega
          have ki1 : (k : Int) < (n : Int) := by omega
          by_cases hpm : p = m
          case neg =>
            have t1 : ((p : Int) != (m : Int)) = true := by rw [bne_iff_ne]; omega
            have HF2 : Hid (v = 1) := Lib.hid (by rw [HF.out]; exact Rs.fstN_hit hlt HZ.out (HRX.out.trans (Rw.rowE_len (by rw [HP.out]; exact hpm))) (by decide))
            clear hpm
            go_wp2
            go_ret
            exact ⟨ret_int HF2.out.symm, X1.trans HE.out⟩
          subst hpm
          have t1 : ((p : Int) != (p : Int)) = false := by simp
          go_wp2
          go_loop [48, 8] (fun i s => ∃ (j : Nat) (q : Int), j ≤ p ∧ i = .int .i64 j ∧ s = .int .i64 q ∧ 0 ≤ q ∧ q ≤ 1000 * j ∧ Hid (q = (lx.take j).sum) ∧ Hid ((lx.take j).all (fun x => It.wi x 1 1000) = true)) (fun i _ => p - (intOf i).toNat)
          case atStart => exact ⟨0, 0, by omega, rfl, rfl, by omega, by omega, Lib.hid (by simp), Lib.hid (by simp)⟩
          case round =>
            clear cx
            obtain ⟨j, q, hj, rfl, rfl, hq0, hq1, HQ, HA⟩ := hrel
            by_cases hjt : j < p
            · obtain ⟨b2, off2, x, rfl, hb2, hx, hc2⟩ := HSX.out.at_ (i := j) (by rw [HP.out]; exact hjt)
              have HX := Lib.hid hx
              have jj0 : (0 : Int) ≤ (j : Int) := by omega
              have jj1 : (j : Int) < (p : Int) := by omega
              clear hx
              rcases (show x < 1 ∨ (1 ≤ x ∧ 1000 < x) ∨ (1 ≤ x ∧ x ≤ 1000) by omega) with h1 | ⟨h1, h2⟩ | ⟨h1, h2⟩
              · have HF2 : Hid (v = 3) := Lib.hid (by rw [HF.out]; exact Rs.fstN_hit hlt HZ.out (HRX.out.trans (by rw [← HP.out]; exact Rw.rowE_no HX.out (by unfold It.wi; simp; omega))) (by decide))
                go_wp2
                go_ret
                exact ⟨ret_int HF2.out.symm, X1.trans HE.out⟩
              · have HF2 : Hid (v = 3) := Lib.hid (by rw [HF.out]; exact Rs.fstN_hit hlt HZ.out (HRX.out.trans (by rw [← HP.out]; exact Rw.rowE_no HX.out (by unfold It.wi; simp; omega))) (by decide))
                go_wp2
                go_ret
                exact ⟨ret_int HF2.out.symm, X1.trans HE.out⟩
              · have HQ2 : Hid (q + x = (lx.take (j + 1)).sum) := Lib.hid (by rw [Rw.sum_next HX.out, HQ.out])
                have HA2 := Lib.hid (Rw.all_next HX.out HA.out (by unfold It.wi; simp; omega))
                go_wp2
                go_round
                case rel => exact ⟨j + 1, q + x, by omega, by go_num, rfl, by omega, by omega, HQ2, HA2⟩
                case measure => simp [intOf]; omega
            · obtain rfl : j = p := by omega
              have HT : Hid (lx.take j = lx) := Lib.hid (by rw [← HP.out, List.take_length])
              have HFR : Hid (Rw.rowAt (Rw.xss ls) j k = if q ≠ 1000 then 19 else 0) := Lib.hid (by
                have := HA.out
                rw [HT.out] at this
                rw [HRX.out]
                have e := Rw.rowE_sum this
                rw [HP.out] at e
                rw [e, HQ.out, HT.out])
              by_cases hq : q = 1000
              · have t2 : (q != 1000) = false := by rw [hq]; rfl
                have HF2 : Hid (Rs.fstN (Rw.rowAt (Rw.xss ls) j) (k + 1) = 0) := Lib.hid (Rs.fstN_next HZ.out (by rw [HFR.out, if_neg (by simpa using hq)]))
                clear hq
                go_wp2
                go_roundw
                case rel => exact ⟨k + 1, by omega, by go_num, HF2, HE⟩
                case measure => simp [intOf]; omega
              · have t2 : (q != 1000) = true := by rw [bne_iff_ne]; exact hq
                have HF2 : Hid (v = 19) := Lib.hid (by rw [HF.out]; exact Rs.fstN_hit hlt HZ.out (by rw [HFR.out, if_pos hq]) (by decide))
                clear hq
                go_wp2
                go_ret
                exact ⟨ret_int HF2.out.symm, X1.trans HE.out⟩
        · obtain rfl : k = n := by omega
          have HF2 : Hid (v = 0) := Lib.hid (by rw [HF.out]; exact HZ.out)
          go_wp2
          go_ret
          exact ⟨ret_int HF2.out.symm, X1.trans HE.out⟩
set_option maxRecDepth 100000 in
set_option maxHeartbeats 6400000 in
theorem rmdl_any (A : Option Addr) (c : Nat) (ls : List IL) {n : Nat} (hn : ls.length = n) (k : Int) {v : Int} (hv : Rw.mdlE (Rw.xss ls) k = v) (w : World) (h : SlL w A ls) (hb : n ≤ 140737488355328) :
    Calls Tryz.prog 71 #[.agg #[.slice A n c], .int .i64 k] w fun e w' => e = .returned (.int .i64 v) ∧ Ext w w' := by
  have H := Lib.hid h
  have HV := Lib.hid hv
  have HN := Lib.hid hn
  have HL : Hid ((Rw.xss ls).length = n) := Lib.hid ((Rw.xss_len ls).trans hn)
  clear h hv hn
  rcases (show k < 1 ∨ (1 ≤ k ∧ 21 < k) ∨ (1 ≤ k ∧ k ≤ 21 ∧ (n : Int) ≠ k) ∨ (1 ≤ n ∧ n ≤ 21 ∧ (n : Int) = k) by omega) with h1 | ⟨h1, h2⟩ | ⟨h1, h2, h3⟩ | ⟨h1, h2, h3⟩
  · have HF : Hid (v = 1) := Lib.hid (by rw [← HV.out]; exact Rw.mdlE_no (Or.inl h1))
    go_enter Tryz.func71, Tryz.ntmps71
    go_wp2
    go_ret
    exact ⟨ret_int HF.out.symm, (Ext.refl _).alloc _⟩
  · have HF : Hid (v = 1) := Lib.hid (by rw [← HV.out]; exact Rw.mdlE_no (Or.inr (Or.inl h2)))
    go_enter Tryz.func71, Tryz.ntmps71
    go_wp2
    go_ret
    exact ⟨ret_int HF.out.symm, (Ext.refl _).alloc _⟩
  · have HF : Hid (v = 1) := Lib.hid (by rw [← HV.out]; exact Rw.mdlE_no (Or.inr (Or.inr (by rw [HL.out]; exact h3))))
    have t0 : ((n : Int) != k) = true := by rw [bne_iff_ne]; exact h3
    clear h3
    go_enter Tryz.func71, Tryz.ntmps71
    go_wp2
    go_ret
    exact ⟨ret_int HF.out.symm, (Ext.refl _).alloc _⟩
  · subst h3
    have t0 : ((n : Int) != (n : Int)) = false := by simp
    obtain ⟨g0, hg0⟩ : ∃ x, ls[0]? = some x := ⟨ls[0]'(by rw [HN.out]; omega), List.getElem?_eq_getElem _⟩
    obtain ⟨b, off, rfl, hbb, c0, hi0⟩ := H.out.at_ hg0
    rw [Nat.add_zero] at c0
    obtain ⟨A0, cc0, l0⟩ := g0
    have hcap : l0.length ≤ 9223372036854775807 := by have := hi0.2.1; have := hi0.2.2.1; unfold maxLen at *; simp only at *; omega
    have HG0 : Hid ((Rw.xss ls)[0]? = some l0) := Lib.hid (Rw.xss_at hg0)
    clear hg0 hi0
    dsimp only at c0
    obtain ⟨m, hm⟩ : ∃ m, l0.length = m := ⟨_, rfl⟩
    rw [hm] at c0 hcap
    have HM := Lib.hid hm
    clear hm
    have nn0 : (1 : Int) ≤ (n : Int) := by omega
    have nn1 : (n : Int) ≤ 21 := by omega
    have X1 : Ext w (w.alloc (.cells #[.slice (some ⟨b, off, none⟩) n c] 70)) := (Ext.refl _).alloc _
    have n0 : 0 < n := by omega
    have HC0 := Lib.hid c0
    rcases (show m < 2 ∨ (2 ≤ m ∧ 6 < m) ∨ (2 ≤ m ∧ m ≤ 6) by omega) with h3 | ⟨h3, h4⟩ | ⟨h3, h4⟩
    · have HF : Hid (v = 3) := Lib.hid (by rw [← HV.out]; exact Rw.mdlE_cats h1 h2 HL.out HG0.out (by rw [HM.out]; omega))
      go_enter Tryz.func71, Tryz.ntmps71
      go_wp2
      go_ret
      exact ⟨ret_int HF.out.symm, X1⟩
    · have HF : Hid (v = 3) := Lib.hid (by rw [← HV.out]; exact Rw.mdlE_cats h1 h2 HL.out HG0.out (by rw [HM.out]; omega))
      go_enter Tryz.func71, Tryz.ntmps71
      go_wp2
      go_ret
      exact ⟨ret_int HF.out.symm, X1⟩
    · have HF : Hid (v = Rs.fstN (Rw.rowAt (Rw.xss ls) m) n) := Lib.hid (by rw [← HV.out, Rw.mdlE_rest h1 h2 HL.out HG0.out (by rw [HM.out]; omega), HM.out])
      go_enter Tryz.func71, Tryz.ntmps71
      go_wp2
      clear c0
      go_loopw [6] (fun i wr => ∃ k : Nat, k ≤ n ∧ i = .int .i64 k ∧ Hid (Rs.fstN (Rw.rowAt (Rw.xss ls) m) k = 0) ∧ Hid (Ext (w.alloc (.cells #[.slice (some ⟨b, off, none⟩) n c] 70)) wr)) (fun i _ => n - (intOf i).toNat)
      case atStart => exact ⟨0, by omega, rfl, Lib.hid rfl, Lib.hid (Ext.refl _)⟩
      case round =>
        obtain ⟨k, hk, rfl, HZ, HE⟩ := hrel
        by_cases hlt : k < n
        · obtain ⟨g, hg⟩ : ∃ x, ls[k]? = some x := ⟨ls[k]'(by rw [HN.out]; exact hlt), List.getElem?_eq_getElem _⟩
          obtain ⟨b', off', hA', hbb', cx, hix⟩ := (H.out.ext (X1.trans HE.out)).at_ hg
          obtain ⟨rfl, rfl⟩ : b = b' ∧ off = off' := by cases hA'; exact ⟨rfl, rfl⟩
          obtain ⟨Ax, ccx, lx⟩ := g
          have hcx : lx.length ≤ 9223372036854775807 := by have := hix.2.1; have := hix.2.2.1; unfold maxLen at *; simp only at *; omega
          have HSX : Hid (SlI wr Ax lx) := Lib.hid hix.1
          have HRX : Hid (Rw.rowAt (Rw.xss ls) m k = Rw.rowE m lx) := Lib.hid (Rw.rowAt_at (Rw.xss_at hg))
          dsimp only at cx
          obtain ⟨p, hp⟩ : ∃ p, lx.length = p := ⟨_, rfl⟩
          rw [hp] at cx hcx
          have HP := Lib.hid hp
          clear hp hg hix hA'
          have cb : wr.cell? ⟨w.heap.size, 0, none⟩ = some (.slice (some ⟨b, off, none⟩) n c) := HE.out.keep (World.cell?_alloc_new _ _ _ _)
          have ki0 : (0 : Int) ≤ (k : Int) := by omega
          have ki1 : (k : Int) < (n : Int) := by omega
          obtain ⟨q, hq⟩ : ∃ q, Rw.rowE m lx = q := ⟨_, rfl⟩
          have hpb : p ≤ 1000000 ∨ 1000000 < p := by omega
          by_cases hq0 : q = 0
          · have HF2 : Hid (Rs.fstN (Rw.rowAt (Rw.xss ls) m) (k + 1) = 0) := Lib.hid (Rs.fstN_next HZ.out (by rw [HRX.out, hq, hq0]))
            have HQ := Lib.hid hq
            subst hq0
            clear hq
            go_wp2_with fail
            with_reducible refine (rrow_any Ax ccx lx HP.out m HQ.out _ HSX.out hcx (by omega)).mono ?_
            rintro e w3 ⟨rfl, rfl⟩
            go_wp2
            go_roundw
            case rel => exact ⟨k + 1, by omega, by go_num, HF2, HE⟩
            case measure => simp [intOf]; omega
          · have t2 : (q != 0) = true := by rw [bne_iff_ne]; exact hq0
            have HF2 : Hid (v = q) := Lib.hid (by rw [HF.out]; exact Rs.fstN_hit hlt HZ.out (by rw [HRX.out, hq]) hq0)
            have HQ := Lib.hid hq
            clear hq hq0
            go_wp2_with fail
            with_reducible refine (rrow_any Ax ccx lx HP.out m HQ.out _ HSX.out hcx (by omega)).mono ?_
            rintro e w3 ⟨rfl, rfl⟩
            go_wp2
            go_ret
            exact ⟨ret_int HF2.out.symm, X1.trans HE.out⟩
        · obtain rfl : k = n := by omega
          have HF2 : Hid (v = 0) := Lib.hid (by rw [HF.out]; exact HZ.out)
          go_wp2
          go_ret
          exact ⟨ret_int HF2.out.symm, X1.trans HE.out⟩
set_option maxRecDepth 100000 in
set_option maxHeartbeats 1600000 in
theorem kcats_any (A : Option Addr) (c : Nat) (ls : List IL) {n : Nat} (hn : ls.length = n) {v : Nat} (hv : ((Rw.xss ls).getD 0 []).length = v) (w : World) (h : SlL w A ls) (h1 : 1 ≤ n) (hb : n ≤ 140737488355328) :
    Calls Tryz.prog 64 #[.agg #[.slice A n c]] w fun e w' => e = .returned (.int .i64 (v : Int)) ∧ Ext w w' := by
  obtain ⟨g0, hg0⟩ : ∃ x, ls[0]? = some x := ⟨ls[0]'(by rw [hn]; omega), List.getElem?_eq_getElem _⟩
  obtain ⟨b, off, rfl, hbb, c0, hi0⟩ := h.at_ hg0
  rw [Nat.add_zero] at c0
  have HG : Hid (g0.xs.length = v) := Lib.hid (by rw [← hv, List.getD_eq_getElem?_getD, Rw.xss_at hg0]; rfl)
  obtain ⟨A0, cc0, l0⟩ := g0
  have H1 := Lib.hid hn
  clear hn hv h hg0 hi0
  dsimp only at c0 HG
  rw [HG.out] at c0
  have t0 : ((n : Int) == 0) = false := by rw [beq_eq_false_iff_ne]; omega
  have n0 : 0 < n := by omega
  have n1 : (0 : Int) < (n : Int) := by omega
  go_enter Tryz.func64, Tryz.ntmps64
  go_wp2
  go_ret
  exact ⟨rfl, (Ext.refl _).alloc _⟩
set_option maxRecDepth 100000 in
set_option maxHeartbeats 1600000 in
theorem rcats_any (A : Option Addr) (c : Nat) (ls : List IL) {n : Nat} (hn : ls.length = n) {v : Nat} (hv : ((Rw.xss ls).getD 0 []).length = v) (w : World) (h : SlL w A ls) (h1 : 1 ≤ n) (hb : n ≤ 140737488355328) :
    Calls Tryz.prog 73 #[.agg #[.slice A n c]] w fun e w' => e = .returned (.int .i64 (v : Int)) ∧ Ext w w' := by
  obtain ⟨g0, hg0⟩ : ∃ x, ls[0]? = some x := ⟨ls[0]'(by rw [hn]; omega), List.getElem?_eq_getElem _⟩
  obtain ⟨b, off, rfl, hbb, c0, hi0⟩ := h.at_ hg0
  rw [Nat.add_zero] at c0
  have HG : Hid (g0.xs.length = v) := Lib.hid (by rw [← hv, List.getD_eq_getElem?_getD, Rw.xss_at hg0]; rfl)
  obtain ⟨A0, cc0, l0⟩ := g0
  have H1 := Lib.hid hn
  clear hn hv h hg0 hi0
  dsimp only at c0 HG
  rw [HG.out] at c0
  have t0 : ((n : Int) == 0) = false := by rw [beq_eq_false_iff_ne]; omega
  have n0 : 0 < n := by omega
  have n1 : (0 : Int) < (n : Int) := by omega
  go_enter Tryz.func73, Tryz.ntmps73
  go_wp2
  go_ret
  exact ⟨rfl, (Ext.refl _).alloc _⟩
end Go.Proofs.YtgaepmddbjdhfaaGreatDoor
