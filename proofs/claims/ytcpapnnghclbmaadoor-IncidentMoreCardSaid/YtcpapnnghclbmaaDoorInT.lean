/- The reference's put and Merge: contracts. Conditions: those of each theorem. -/
import Derived.Test.YtcpapnnghclbmaaDoorInS
import Derived.Deep.DeepCutAuto
namespace Go.Proofs.YtcpapnnghclbmaaDoor
open Go.RowKit

/-- What the last statement of put leaves, operation by operation. -/
def PR (bs : Nat) (O : Option Addr) (k oc : Nat) (x : In.Inc) (gb go n c : Nat) (ps : List In.Inc) : Nat → Option Value → World → Prop
  | 0, u, _ => u = some (.slice O k oc)
  | 1, u, _ => u = some (.agg #[.int .i64 x.1, .int .i64 x.2.1, .int .i64 x.2.2.1, .int .i64 x.2.2.2])
  | 2, u, w => ∃ b, u = some (.slice (some ⟨b, 0, none⟩) 1 1) ∧ SlN w (some ⟨b, 0, none⟩) [x]
  | 3, u, w => ∃ v, u = some v ∧ w.ownsRow bs 23 4 v (k + 1) ((ps.take k ++ [x]).map In.cells).flatten
  | 4, u, _ => u = some (.slice (some ⟨gb, go, none⟩) n c)
  | 5, u, _ => u = some (.int .i64 k)
  | 6, u, _ => ∃ o, u = some (.slice (some ⟨gb, o, none⟩) (n - k) (c - k)) ∧ (o = go + k * 4 ∨ k = n)
  | 7, u, w => ∃ v, u = some v ∧ w.ownsRow bs 23 4 v (n + 1) ((ps.take k ++ x :: ps.drop k).map In.cells).flatten
  | 8, u, w => ∃ v, u = some v ∧ w.ownsRow bs 23 4 v (n + 1) ((ps.take k ++ x :: ps.drop k).map In.cells).flatten
  | _, _, w => w.ownsRow bs 23 4 (.slice O k oc) k ((ps.take k).map In.cells).flatten
def PC : Nat → Option Nat
  | 2 => some 3
  | 3 => some 7
  | 9 => some 3
  | _ => none
def PD : List Nat := [39, 40, 41, 42, 43, 44, 45, 46, 4, 1000]
def PE (nb : Nat) (O : Option Addr) (k oc : Nat) (gb go n c : Nat) (t : Array Value) : Prop :=
  t.size = 47 ∧ t.getD 6 undef = .slice O k oc ∧ t.getD 3 undef = .pointer (some ⟨nb, 0, none⟩) ∧ t.getD 0 undef = .slice (some ⟨gb, go, none⟩) n c ∧ t.getD 5 undef = .int .i64 k
theorem PR.ext {bs : Nat} {O : Option Addr} {k oc : Nat} {x : In.Inc} {gb go n c : Nat} {ps : List In.Inc} (j : Nat) (u : Option Value) (w w' : World) (he : Ext w w') (h : PR bs O k oc x gb go n c ps j u w) : PR bs O k oc x gb go n c ps j u w' := by
  match j, h with
  | 0, h => exact h
  | 1, h => exact h
  | 2, ⟨b, h1, h2⟩ => exact ⟨b, h1, h2.ext he⟩
  | 3, ⟨v, h1, h2⟩ => exact ⟨v, h1, own_ext h2 he⟩
  | 4, h => exact h
  | 5, h => exact h
  | 6, h => exact h
  | 7, ⟨v, h1, h2⟩ => exact ⟨v, h1, own_ext h2 he⟩
  | 8, ⟨v, h1, h2⟩ => exact ⟨v, h1, own_ext h2 he⟩
  | j + 9, h => exact own_ext h he
theorem slN_drop {w : World} {gb go : Nat} {ps : List In.Inc} (h : SlN w (some ⟨gb, go, none⟩) ps) (k : Nat) : SlN w (some ⟨gb, go + k * 4, none⟩) (ps.drop k) := by
  rcases h with h | ⟨b, off, hA, hb, hc⟩
  · have : ps = [] := by simpa using h
    subst this
    simp; exact SlN.nil _ _
  · injection hA with hA
    injection hA with h1 h2
    subst h1 h2
    refine Or.inr ⟨gb, go + k * 4, rfl, hb, fun i cs hi j v hv => ?_⟩
    have := hc (k + i) cs (by rw [List.map_drop, List.getElem?_drop] at hi; exact hi) j v hv
    rw [show go + k * 4 + (i * 4 + j) = go + ((k + i) * 4 + j) by omega]
    exact this
theorem slN_take {w : World} {A : Option Addr} {ps : List In.Inc} (h : SlN w A ps) (k : Nat) : SlN w A (ps.take k) := by
  rcases h with h | ⟨b, off, hA, hb, hc⟩
  · have : ps = [] := by simpa using h
    subst this
    simp; exact SlN.nil _ _
  · refine Or.inr ⟨b, off, hA, hb, fun i cs hi j v hv => ?_⟩
    rw [List.map_take, List.getElem?_take] at hi
    split at hi
    · exact hc i cs hi j v hv
    · cases hi

theorem ret_slice {A : Option Addr} {n m c : Nat} (h : n = m) : Ending.returned (.slice A n c) = .returned (.slice A m c) := by rw [h]
def PCut (bs : Nat) (x : In.Inc) (n k : Nat) (ps : List In.Inc) (W1 : World) (p : Value) (wx : World) : Prop :=
  ∃ v, p = v ∧ wx.ownsRow bs 23 4 v (n + 1) ((ps.take k ++ x :: ps.drop k).map In.cells).flatten ∧ Ext W1 wx
theorem own_zeroB {w : World} (base : Nat) (e : TypeId) (size : Nat) (h : base ≤ w.heap.size) : (w.alloc (.cells #[] e)).ownsRow base e size (.slice (some ⟨w.heap.size, 0, none⟩) 0 0) 0 [] :=
  ⟨by simp, Or.inr ⟨w.heap.size, 0, #[], rfl, h, heap_alloc_new _ _, Nat.le_refl _, Nat.zero_le _, by simp, by simp⟩⟩
theorem inc_flat (l : List In.Inc) (x : In.Inc) : (l.map In.cells).flatten ++ ([x].map In.cells).flatten = ((l ++ [x]).map In.cells).flatten := by
  rw [List.map_append, List.flatten_append]
theorem inc_flat2 (l m : List In.Inc) (x : In.Inc) : ((l ++ [x]).map In.cells).flatten ++ (m.map In.cells).flatten = ((l ++ x :: m).map In.cells).flatten := by
  rw [← List.flatten_append, ← List.map_append, List.append_assoc]; rfl
/-- A new slice of one incident. -/
theorem slN_one (w : World) (x : In.Inc) (t : TypeId) : SlN (w.alloc (.cells #[.int .i64 x.1, .int .i64 x.2.1, .int .i64 x.2.2.1, .int .i64 x.2.2.2] t)) (some ⟨w.heap.size, 0, none⟩) [x] := by
  refine Or.inr ⟨w.heap.size, 0, rfl, by simp, fun i cs hi j v hv => ?_⟩
  match i, hi with
  | 0, hi =>
    simp at hi
    subst hi
    rw [World.cell?_alloc_new]
    match j, hv with
    | 0, hv => simpa [In.cells] using hv
    | 1, hv => simpa [In.cells] using hv
    | 2, hv => simpa [In.cells] using hv
    | 3, hv => simpa [In.cells] using hv
    | j + 4, hv => simp [In.cells] at hv
set_option maxRecDepth 100000 in
set_option maxHeartbeats 6400000 in
theorem put_any (gb go c : Nat) (ps : List In.Inc) (x : In.Inc) (n : Nat) (hn : ps.length = n) {qs : List In.Inc} {m : Nat} (hq : In.put ps x = qs) (hm : qs.length = m) (w : World) (h : (⟨some ⟨gb, go, none⟩, c, ps⟩ : NL).In w) (hx : In.ok64 x) (hb : n ≤ 1000) :
    Calls Tryd.prog 37 #[.slice (some ⟨gb, go, none⟩) n c, .agg #[.int .i64 x.1, .int .i64 x.2.1, .int .i64 x.2.2.1, .int .i64 x.2.2.2]] w fun e w' => ∃ xb xo xc, e = .returned (.slice (some ⟨xb, xo, none⟩) m xc) ∧ (⟨some ⟨xb, xo, none⟩, xc, qs⟩ : NL).In w' ∧ Ext w w' := by
  have hgw : n = 0 ∨ gb < w.heap.size := by
    rcases h.1 with g | ⟨b, o, e, hb, -⟩
    · left; rw [← hn]; have : ps = [] := by simpa using g
      rw [this]; rfl
    · right; injection e with e; injection e with e _; omega
  have hnc : n ≤ c := by rw [← hn]; exact h.2.1
  have hcm : c ≤ maxLen := h.2.2.1
  unfold maxLen at hcm
  have H := Lib.hid h
  have HN := Lib.hid hn
  have HQ := Lib.hid hq
  have HM := Lib.hid hm
  have HX := Lib.hid hx
  clear h hn hq hm hx
  obtain ⟨W1, hW1⟩ : ∃ W1, W1 = w.alloc (.cells #[.int .i64 x.1, .int .i64 x.2.1, .int .i64 x.2.2.1, .int .i64 x.2.2.2] 23) := ⟨_, rfl⟩
  have e1 : Ext w W1 := by rw [hW1]; exact (Ext.refl _).alloc _
  have hs1 : W1.heap.size = w.heap.size + 1 := by rw [hW1]; simp
  have hbox : BoxN W1 w.heap.size x := by rw [hW1]; unfold BoxN; simp
  have HBOX := Lib.hid hbox
  clear hbox
  go_enter Tryd.func37, Tryd.ntmps37
  go_wp2
  rw [← hW1]
  go_loopw [5] (fun i wr => ∃ k : Nat, k ≤ n ∧ i = .int .i64 k ∧ (∀ j q, j < k → ps[j]? = some q → In.lt q x = true) ∧ Ext W1 wr) (fun i _ => n - (intOf i).toNat)
  case atStart => exact ⟨0, by omega, rfl, fun j q hj => by omega, Ext.refl _⟩
  case round =>
    obtain ⟨k, hk, rfl, hall, he⟩ := hrel
    have HALL := Lib.hid hall
    clear hall
    obtain ⟨b0, b1, b2, b3⟩ := HBOX.out
    have c0 := he.keep b0
    have c1 := he.keep b1
    have c2 := he.keep b2
    have c3 := he.keep b3
    clear b0 b1 b2 b3
    have ki0 : (0 : Int) ≤ (k : Int) := by omega
    by_cases hlt : k < n
    · obtain ⟨p, hp⟩ : ∃ p, ps[k]? = some p := ⟨ps[k]'(by rw [HN.out]; exact hlt), List.getElem?_eq_getElem _⟩
      have HP := Lib.hid hp
      obtain ⟨gb', go', hgg, hgb, x0, x1, x2, x3⟩ := (H.out.1.ext (e1.trans he)).at_ hp
      injection hgg with hgg
      injection hgg with hg1 hg2
      subst hg1 hg2
      have ki1 : (k : Int) < (n : Int) := by omega
      have ki2 : decide ((k : Int) < (n : Int)) = true := by rw [decide_eq_true_eq]; exact ki1
      clear hp
      obtain ⟨v, hv⟩ : ∃ v, In.lt p x = v := ⟨_, rfl⟩
      have HV := Lib.hid hv
      clear hv
      have x2' : wr.cell? ⟨gb, go + k * 4 + 2, none⟩ = some (.int .i64 p.2.2.1) := x2
      have x3' : wr.cell? ⟨gb, go + k * 4 + 3, none⟩ = some (.int .i64 p.2.2.2) := x3
      clear x2 x3
      have x2 := x2'
      have x3 := x3'
      clear x2' x3'
      cases v with
      | true =>
        have HS : Hid (∀ j q, j < k + 1 → ps[j]? = some q → In.lt q x = true) := Lib.hid (fun j q hj hjq => by
          rcases Nat.lt_or_ge j k with g | g
          · exact HALL.out j q g hjq
          · obtain rfl : j = k := by omega
            rw [HP.out] at hjq
            injection hjq with hjq
            rw [← hjq]; exact HV.out)
        have hdr : Ext wr wr.drew := (Ext.refl wr).drew
        go_wp2_with fail
        go_region_held3 (fun w' => (w'.cell? ⟨w.heap.size, 0, none⟩ = some (.int .i64 x.1) ∧ w'.cell? ⟨w.heap.size, 1, none⟩ = some (.int .i64 x.2.1) ∧ w'.cell? ⟨w.heap.size, 2, none⟩ = some (.int .i64 x.2.2.1) ∧ w'.cell? ⟨w.heap.size, 3, none⟩ = some (.int .i64 x.2.2.2)) ∧ (w'.cell? ⟨gb, go + k * 4, none⟩ = some (.int .i64 p.1) ∧ w'.cell? ⟨gb, go + k * 4 + 1, none⟩ = some (.int .i64 p.2.1) ∧ w'.cell? ⟨gb, go + k * 4 + 2, none⟩ = some (.int .i64 p.2.2.1) ∧ w'.cell? ⟨gb, go + k * 4 + 3, none⟩ = some (.int .i64 p.2.2.2)) ∧ Ext wr w')
          (first
            | (with_reducible exact ⟨⟨hdr.keep c0, hdr.keep c1, hdr.keep c2, hdr.keep c3⟩, ⟨hdr.keep x0, hdr.keep x1, hdr.keep x2, hdr.keep x3⟩, hdr⟩)
            | (with_reducible exact ⟨⟨hE3.keep c0, hE3.keep c1, hE3.keep c2, hE3.keep c3⟩, ⟨hE3.keep x0, hE3.keep x1, hE3.keep x2, hE3.keep x3⟩, hE3⟩)
            | go_keep)
          (first | (go_at_call 50; refine (less_any p x HV.out _).mono ?_; rintro e w3 ⟨rfl, hb3⟩; have hE3 : Ext wr w3 := by first | (with_reducible exact hb3) | (with_reducible exact hdr.trans hb3)))
        go_wp2
        go_roundw
        case rel => exact ⟨k + 1, by omega, by go_num, HS.out, he.trans hE3⟩
        case measure => simp [intOf]; omega
      | false =>
        have HIX : Hid (In.ix ps x = k) := Lib.hid (In.ix_of HALL.out HP.out HV.out)
        have hdr : Ext wr wr.drew := (Ext.refl wr).drew
        go_wp2_with fail
        go_region_held3 (fun w' => (w'.cell? ⟨w.heap.size, 0, none⟩ = some (.int .i64 x.1) ∧ w'.cell? ⟨w.heap.size, 1, none⟩ = some (.int .i64 x.2.1) ∧ w'.cell? ⟨w.heap.size, 2, none⟩ = some (.int .i64 x.2.2.1) ∧ w'.cell? ⟨w.heap.size, 3, none⟩ = some (.int .i64 x.2.2.2)) ∧ (w'.cell? ⟨gb, go + k * 4, none⟩ = some (.int .i64 p.1) ∧ w'.cell? ⟨gb, go + k * 4 + 1, none⟩ = some (.int .i64 p.2.1) ∧ w'.cell? ⟨gb, go + k * 4 + 2, none⟩ = some (.int .i64 p.2.2.1) ∧ w'.cell? ⟨gb, go + k * 4 + 3, none⟩ = some (.int .i64 p.2.2.2)) ∧ Ext wr w')
          (first
            | (with_reducible exact ⟨⟨hdr.keep c0, hdr.keep c1, hdr.keep c2, hdr.keep c3⟩, ⟨hdr.keep x0, hdr.keep x1, hdr.keep x2, hdr.keep x3⟩, hdr⟩)
            | (with_reducible exact ⟨⟨hE3.keep c0, hE3.keep c1, hE3.keep c2, hE3.keep c3⟩, ⟨hE3.keep x0, hE3.keep x1, hE3.keep x2, hE3.keep x3⟩, hE3⟩)
            | go_keep)
          (first | (go_at_call 50; refine (less_any p x HV.out _).mono ?_; rintro e w3 ⟨rfl, hb3⟩; have hE3 : Ext wr w3 := by first | (with_reducible exact hb3) | (with_reducible exact hdr.trans hb3)))
        have y0 := hE3.keep c0
        have y1 := hE3.keep c1
        have y2 := hE3.keep c2
        have y3 := hE3.keep c3
        have u0 := hE3.keep x0
        have u1 := hE3.keep x1
        have u2 := hE3.keep x2
        have u3 := hE3.keep x3
        have he3 := he.trans hE3
        clear hE3 c0 c1 c2 c3 x0 x1 x2 x3
        obtain ⟨z, hz⟩ : ∃ z, decide (p = x) = z := ⟨_, rfl⟩
        have hE := fun w => run_eql_inc p x hz w
        have HZ := Lib.hid hz
        clear hz
        cases z with
        | true =>
          have HR : Hid (qs = ps) := Lib.hid (by rw [← HQ.out]; unfold In.put; rw [if_pos (by rw [HIX.out, HP.out, of_decide_eq_true HZ.out])])
          have HMN : Hid (n = m) := Lib.hid (by rw [← HM.out, HR.out, HN.out])
          go_wp2
          go_quiet (fail)
          go_wp2
          go_ret
          refine ⟨gb, go, c, ?_, ?_, (e1.trans he3).drewN _⟩
          · exact ret_slice HMN.out
          · rw [HR.out]; exact H.out.ext ((e1.trans he3).drewN _)
        | false =>
          have HNE : Hid (ps[k]? ≠ some x) := Lib.hid (by rw [HP.out]; intro e; injection e with e; exact absurd e (of_decide_eq_false HZ.out))
          go_wp2
          go_quiet (fail)
          have he4 := he3.drewN nq
          clear he3 y0 y1 y2 y3 u0 u1 u2 u3 hE
          generalize w3.drewN nq = wx at *
          have hxs := he4.size
          have hkc : (k : Int) ≤ (c : Int) := by omega
          have HSL : Hid (SlN (wx.alloc (.cells #[] 23)) (some ⟨gb, go, none⟩) (ps.take k)) := Lib.hid (slN_take (H.out.1.ext ((e1.trans he4).alloc _)) k)
          have HTL : Hid (((ps.take k).map In.cells).length = k) := Lib.hid (by rw [List.length_map, List.length_take, HN.out]; omega)
          obtain ⟨i0, hi0, hz0, hz1, hz2⟩ := info_parts Tryd.infoInc
          go_wp2_with (at_builtin; refine wpList_append_sl rfl _ _ 24 rfl W1.heap.size 23 i0 (.agg #[.int .i64 0, .int .i64 0, .int .i64 0, .int .i64 0]) 4 32 Tryd.underlying24 hi0 hz0 hz1 hz2 rfl (by decide) (.slice (some ⟨wx.heap.size, 0, none⟩) 0 0) 0 [] rfl (own_zeroB _ _ _ hxs) (some ⟨gb, go, none⟩) c k ((ps.take k).map In.cells) HTL.out rfl HSL.out (inc_cells _).1 (inc_cells _).2 (by unfold maxLen; omega) (by omega) (by simp; omega) ?_; intro O oc w6 hown6 hgr6; rw [Nat.zero_add, List.nil_append] at hown6; have hb6 : Ext W1 w6 := (he4.alloc _).grown hgr6 (fun q hq => by simp [Value.ownBlock] at hq; omega))
          have HO6 := Lib.hid hown6
          clear hown6 hgr6
          go_upto_region 7 with fail
          go_cut [4] from 39 to 46 (fun p wx => PCut W1.heap.size x n k ps W1 p wx)
          case first =>
            refine region_tb (by kernel_rfl) (by decide +kernel) (PE w.heap.size O k oc gb go n c) ⟨rfl, rfl, rfl, rfl, rfl⟩ 10 PD PC (PR W1.heap.size O k oc x gb go n c ps) W1 hb6 (fun i h1 h2 => by
              have h1' : 9 ≤ i := h1
              obtain rfl : i = 9 := by omega
              exact own_ext HO6.out ((Ext.refl _).drew)) ?_ ?_
            · intro T dd l U wz i o hE ho hl hd hT
              obtain ⟨t0, t6, t3, tp, t5⟩ := hE
              obtain ⟨b0, b1, b2, b3⟩ := HBOX.out
              have d0 := hT.ext.keep b0
              have d1 := hT.ext.keep b1
              have d2 := hT.ext.keep b2
              have d3 := hT.ext.keep b3
              match i, ho, hl, hd with
              | 0, ho, hl, hd =>
                obtain rfl := Option.some.inj ho
                have v6 := eval_old (d := dd) (hT.out 6 (by decide)) (by omega) t6
                refine tb_pure (v := .slice O k oc) hT ho hd rfl rfl (by decide) (by decide) ?_ rfl
                generalize Act.eval ⟨over T U, dd⟩ = ev at *
                simp [execOp, v6, go_sem]
              | 1, ho, hl, hd =>
                obtain rfl := Option.some.inj ho
                have v3 := eval_old (d := dd) (hT.out 3 (by decide)) (by omega) t3
                refine tb_pure (v := .agg #[.int .i64 x.1, .int .i64 x.2.1, .int .i64 x.2.2.1, .int .i64 x.2.2.2]) hT ho hd rfl rfl (by decide) (by decide) ?_ rfl
                generalize Act.eval ⟨over T U, dd⟩ = ev at *
                simp [execOp, v3, go_sem, d0, d1, d2, d3]
              | 2, ho, hl, hd =>
                obtain rfl := Option.some.inj ho
                have f1 := hT.facts 1 (by decide) (dep hd 1 (by kernel_rfl)) (fun c e => by cases e)
                have v1 := eval_new (t := T) (d := dd) f1 (by show 40 < T.size; omega)
                refine tb_ext (v := .slice (some ⟨wz.heap.size, 0, none⟩) 1 1) (w' := wz.alloc (.cells #[.int .i64 x.1, .int .i64 x.2.1, .int .i64 x.2.2.1, .int .i64 x.2.2.2] 23)) PR.ext hT ho hd rfl rfl (by decide) (by decide) ?_ ((Ext.refl _).alloc _) ⟨wz.heap.size, rfl, slN_one _ _ _⟩
                have v1' : Act.eval ⟨over T U, dd⟩ (.tmp 40) = _ := v1
                generalize Act.eval ⟨over T U, dd⟩ = ev at *
                simp [execOp, v1', go_sem]
              | 3, ho, hl, hd =>
                obtain rfl := Option.some.inj ho
                have l0 := dep hd 0 (by kernel_rfl)
                have l2 := dep hd 2 (by kernel_rfl)
                have f0 := hT.facts 0 (by decide) l0 (fun c e => by cases e)
                obtain ⟨b, f2, hs2⟩ := hT.facts 2 (by decide) l2 (fun c e => by injection e with e; subst e; exact hl)
                have f9 := hT.facts 9 (by decide) (hT.past 9 (Nat.le_refl 9)) (fun c e => by injection e with e; subst e; exact hl)
                obtain ⟨v', w', hrun, hown, hgr, -⟩ := run_append_sl (P := Tryd.prog) wz W1.heap.size 24 24 23 i0 (.agg #[.int .i64 0, .int .i64 0, .int .i64 0, .int .i64 0]) 4 32 Tryd.underlying24 hi0 hz0 hz1 hz2 rfl (by decide) (.slice O k oc) k _ f9 (some ⟨b, 0, none⟩) 1 ([x].map In.cells) hs2 (inc_cells [x]).1 (inc_cells [x]).2 (by simp only [List.length_map, List.length_singleton]; unfold maxLen; omega) (by simp only [List.length_map, List.length_singleton]; omega) hT.ext.size
                rw [inc_flat] at hown
                have v0 := eval_new (t := T) (d := dd) f0 (by show 39 < T.size; omega)
                have v2 := eval_new (t := T) (d := dd) f2 (by show 41 < T.size; omega)
                refine tb_yield (v := v') (w' := w') hT ho hd rfl rfl (by decide) (by decide) (exec_append rfl v0 v2 hrun) (hT.ext.grown hgr (fun q hq => own_ge f9 q hq)) ⟨v', rfl, hown⟩ ?_
                intro j hj hji hlj hcj hR
                match j, hj, hR with
                | 0, _, hR => exact hR
                | 1, _, hR => exact hR
                | 2, _, _ => exact absurd rfl (hcj 3 rfl).1
                | 3, _, _ => exact absurd rfl hji
                | 4, _, hR => exact hR
                | 5, _, hR => exact hR
                | 6, _, hR => exact hR
                | 7, _, _ => exact absurd (dep (hT.shut 7 _ rfl hlj) 3 (by kernel_rfl)) (by rw [hl]; decide)
                | 8, _, _ => exact absurd (dep (hT.shut 8 _ rfl hlj) 3 (by kernel_rfl)) (by rw [hl]; decide)
                | 9, _, _ => exact absurd rfl (hcj 3 rfl).1
                | j + 10, hj, _ => exact absurd hj (by omega)
              | 4, ho, hl, hd =>
                obtain rfl := Option.some.inj ho
                have v6 := eval_old (d := dd) (hT.out 0 (by decide)) (by omega) tp
                refine tb_pure (v := .slice (some ⟨gb, go, none⟩) n c) hT ho hd rfl rfl (by decide) (by decide) ?_ rfl
                generalize Act.eval ⟨over T U, dd⟩ = ev at *
                simp [execOp, v6, go_sem]
              | 5, ho, hl, hd =>
                obtain rfl := Option.some.inj ho
                have v6 := eval_old (d := dd) (hT.out 5 (by decide)) (by omega) t5
                refine tb_pure (v := .int .i64 k) hT ho hd rfl rfl (by decide) (by decide) ?_ rfl
                generalize Act.eval ⟨over T U, dd⟩ = ev at *
                simp [execOp, v6, go_sem]
              | 6, ho, hl, hd =>
                obtain rfl := Option.some.inj ho
                have f4 := hT.facts 4 (by decide) (dep hd 4 (by kernel_rfl)) (fun c e => by cases e)
                have f5 := hT.facts 5 (by decide) (dep hd 5 (by kernel_rfl)) (fun c e => by cases e)
                have v4 : Act.eval ⟨over T U, dd⟩ (.tmp 43) = _ := eval_new (t := T) (d := dd) f4 (by show 43 < T.size; omega)
                have v5 : Act.eval ⟨over T U, dd⟩ (.tmp 44) = _ := eval_new (t := T) (d := dd) f5 (by show 44 < T.size; omega)
                by_cases hck : c = k
                · refine tb_pure (v := .slice (some ⟨gb, go, none⟩) (n - k) (c - k)) hT ho hd rfl rfl (by decide) (by decide) ?_ ⟨go, rfl, Or.inr (by omega)⟩
                  generalize Act.eval ⟨over T U, dd⟩ = ev at *
                  simp [execOp, v4, v5, go_sem, hk, hck]
                · refine tb_pure (v := .slice (some ⟨gb, go + k * 4, none⟩) (n - k) (c - k)) hT ho hd rfl rfl (by decide) (by decide) ?_ ⟨go + k * 4, rfl, Or.inl rfl⟩
                  generalize Act.eval ⟨over T U, dd⟩ = ev at *
                  simp [execOp, v4, v5, go_sem, hk, hck]
              | 7, ho, hl, hd =>
                obtain rfl := Option.some.inj ho
                have l3 := dep hd 3 (by kernel_rfl)
                obtain ⟨v3, f3, ho3⟩ := hT.facts 3 (by decide) l3 (fun c e => by injection e with e; subst e; exact hl)
                obtain ⟨o6, f6, ho6⟩ := hT.facts 6 (by decide) (dep hd 6 (by kernel_rfl)) (fun c e => by cases e)
                have hs6 : SlN wz (some ⟨gb, o6, none⟩) (ps.drop k) := by
                  rcases ho6 with rfl | e
                  · exact slN_drop (H.out.1.ext (e1.trans hT.ext)) k
                  · have : ps.drop k = [] := List.drop_eq_nil_of_le (by rw [HN.out]; omega)
                    rw [this]; exact SlN.nil _ _
                have hlen : ((ps.drop k).map In.cells).length = n - k := by rw [List.length_map, List.length_drop, HN.out]
                obtain ⟨v', w', hrun, hown, hgr, -⟩ := run_append_sl (P := Tryd.prog) wz W1.heap.size 24 24 23 i0 (.agg #[.int .i64 0, .int .i64 0, .int .i64 0, .int .i64 0]) 4 32 Tryd.underlying24 hi0 hz0 hz1 hz2 rfl (by decide) v3 (k + 1) _ ho3 (some ⟨gb, o6, none⟩) (c - k) ((ps.drop k).map In.cells) hs6 (inc_cells _).1 (inc_cells _).2 (by rw [hlen]; unfold maxLen; omega) (by rw [hlen]; omega) hT.ext.size
                rw [inc_flat2, hlen, show k + 1 + (n - k) = n + 1 by omega] at hown
                rw [hlen] at hrun
                have v3' := eval_new (t := T) (d := dd) f3 (by show 42 < T.size; omega)
                have v6' := eval_new (t := T) (d := dd) f6 (by show 45 < T.size; omega)
                refine tb_yield (v := v') (w' := w') hT ho hd rfl rfl (by decide) (by decide) (exec_append rfl v3' v6' hrun) (hT.ext.grown hgr (fun q hq => own_ge ho3 q hq)) ⟨v', rfl, hown⟩ ?_
                intro j hj hji hlj hcj hR
                match j, hj, hR with
                | 0, _, hR => exact hR
                | 1, _, hR => exact hR
                | 2, _, _ => exact absurd l3 (by rw [(hcj 3 rfl).2]; decide)
                | 3, _, _ => exact absurd rfl (hcj 7 rfl).1
                | 4, _, hR => exact hR
                | 5, _, hR => exact hR
                | 6, _, hR => exact hR
                | 7, _, _ => exact absurd rfl hji
                | 8, _, _ => exact absurd (dep (hT.shut 8 _ rfl hlj) 7 (by kernel_rfl)) (by rw [hl]; decide)
                | 9, _, _ => exact absurd l3 (by rw [(hcj 3 rfl).2]; decide)
                | j + 10, hj, _ => exact absurd hj (by omega)
              | 8, ho, hl, hd =>
                obtain rfl := Option.some.inj ho
                obtain ⟨v7, f7, ho7⟩ := hT.facts 7 (by decide) (dep hd 7 (by kernel_rfl)) (fun c e => by cases e)
                have v7' : Act.eval ⟨over T U, dd⟩ (.tmp 46) = _ := eval_new (t := T) (d := dd) f7 (by show 46 < T.size; omega)
                refine tb_pure (v := v7) hT ho hd rfl rfl (by decide) (by decide) ?_ ⟨v7, rfl, ho7⟩
                generalize Act.eval ⟨over T U, dd⟩ = ev at *
                simp [execOp, v7', go_sem]
              | i + 9, ho, _, _ => exact absurd ho (by simp)
            · intro U wz hex hout hfin
              obtain ⟨v8, f8, ho8⟩ := hfin 8 (by decide) rfl
              rw [over_list]
              simp (disch := decide) only [overL, Nat.reduceAdd, hout, Option.getD_none]
              have f8' : U 4 = some v8 := f8
              rw [f8']
              simp only [Option.getD_some]
              go_wp2_with fail
              go_meet
              exact ⟨v8, rfl, ho8, hex⟩
          case rest =>
            obtain ⟨v8, rfl, ho8, hex⟩ := hcut
            have HR : Hid (qs = ps.take k ++ x :: ps.drop k) := Lib.hid (by rw [← HQ.out]; unfold In.put; rw [HIX.out, if_neg HNE.out])
            have hl1 : (ps.take k ++ x :: ps.drop k).length = n + 1 := by simp [HN.out]; omega
            have HMN : Hid (n + 1 = m) := Lib.hid (by rw [← HM.out, HR.out, hl1])
            have hlen : ((ps.take k ++ x :: ps.drop k).map In.cells).length = n + 1 := by rw [List.length_map, hl1]
            obtain ⟨X, xc, rfl, hX1, hX2, hX3⟩ := Sl.of_own (k := 4) (inc_cells _).1 hlen ho8
            rw [hlen] at hX1 ⊢
            obtain ⟨xb, xo, rfl⟩ : ∃ xb xo, X = some ⟨xb, xo, none⟩ := by
              rcases hX3 with g | ⟨b, o, g, -⟩
              · rw [g] at hlen; simp at hlen
              · exact ⟨b, o, g⟩
            have HFIN : Hid ((⟨some ⟨xb, xo, none⟩, xc, qs⟩ : NL).In wc) := Lib.hid ⟨by rw [HR.out]; exact hX3, by rw [HM.out, ← HMN.out]; exact hX1, hX2, fun q hq => by
              rw [HR.out] at hq
              rcases List.mem_append.1 hq with g | g
              · exact H.out.2.2.2 q (List.mem_of_mem_take g)
              · rcases List.mem_cons.1 g with rfl | g
                · exact HX.out
                · exact H.out.2.2.2 q (List.mem_of_mem_drop g)⟩
            clear hX3 ho8 hlen hl1
            go_wp2
            go_ret
            exact ⟨xb, xo, xc, ret_slice HMN.out, HFIN.out, e1.trans hex⟩
    · have HNK : Hid (k = n) := Lib.hid (by omega)
      have HIX : Hid (In.ix ps x = k) := Lib.hid (by rw [HNK.out, ← HN.out]; exact In.ix_end (fun j q hj hq => HALL.out j q (by rw [HNK.out, ← HN.out]; exact hj) hq))
      have HNE : Hid (ps[k]? ≠ some x) := Lib.hid (by rw [HNK.out, ← HN.out]; simp)
      have ki1 : ¬ (k : Int) < (n : Int) := by omega
      have ki2 : decide ((k : Int) < (n : Int)) = false := by rw [decide_eq_false_iff_not]; exact ki1
      go_wp2
      go_quiet (fail)
      have he3 := he.drewN nq
      generalize wr.drewN nq = wy at *
      go_wp2
      go_quiet (fail)
      have he4 := he3.drewN nq
      generalize wy.drewN nq = wx at *
      have hxs := he4.size
      have hkc : (k : Int) ≤ (c : Int) := by omega
      have HSL : Hid (SlN (wx.alloc (.cells #[] 23)) (some ⟨gb, go, none⟩) (ps.take k)) := Lib.hid (slN_take (H.out.1.ext ((e1.trans he4).alloc _)) k)
      have HTL : Hid (((ps.take k).map In.cells).length = k) := Lib.hid (by rw [List.length_map, List.length_take, HN.out]; omega)
      obtain ⟨i0, hi0, hz0, hz1, hz2⟩ := info_parts Tryd.infoInc
      go_wp2_with (at_builtin; refine wpList_append_sl rfl _ _ 24 rfl W1.heap.size 23 i0 (.agg #[.int .i64 0, .int .i64 0, .int .i64 0, .int .i64 0]) 4 32 Tryd.underlying24 hi0 hz0 hz1 hz2 rfl (by decide) (.slice (some ⟨wx.heap.size, 0, none⟩) 0 0) 0 [] rfl (own_zeroB _ _ _ hxs) (some ⟨gb, go, none⟩) c k ((ps.take k).map In.cells) HTL.out rfl HSL.out (inc_cells _).1 (inc_cells _).2 (by unfold maxLen; omega) (by omega) (by simp; omega) ?_; intro O oc w6 hown6 hgr6; rw [Nat.zero_add, List.nil_append] at hown6; have hb6 : Ext W1 w6 := (he4.alloc _).grown hgr6 (fun q hq => by simp [Value.ownBlock] at hq; omega))
      have HO6 := Lib.hid hown6
      clear hown6 hgr6
      go_upto_region 7 with fail
      go_cut [4] from 39 to 46 (fun p wx => PCut W1.heap.size x n k ps W1 p wx)
      case first =>
        refine region_tb (by kernel_rfl) (by decide +kernel) (PE w.heap.size O k oc gb go n c) ⟨rfl, rfl, rfl, rfl, rfl⟩ 10 PD PC (PR W1.heap.size O k oc x gb go n c ps) W1 hb6 (fun i h1 h2 => by
          have h1' : 9 ≤ i := h1
          obtain rfl : i = 9 := by omega
          exact own_ext HO6.out ((Ext.refl _).drew)) ?_ ?_
        · intro T dd l U wz i o hE ho hl hd hT
          obtain ⟨t0, t6, t3, tp, t5⟩ := hE
          obtain ⟨b0, b1, b2, b3⟩ := HBOX.out
          have d0 := hT.ext.keep b0
          have d1 := hT.ext.keep b1
          have d2 := hT.ext.keep b2
          have d3 := hT.ext.keep b3
          match i, ho, hl, hd with
          | 0, ho, hl, hd =>
            obtain rfl := Option.some.inj ho
            have v6 := eval_old (d := dd) (hT.out 6 (by decide)) (by omega) t6
            refine tb_pure (v := .slice O k oc) hT ho hd rfl rfl (by decide) (by decide) ?_ rfl
            generalize Act.eval ⟨over T U, dd⟩ = ev at *
            simp [execOp, v6, go_sem]
          | 1, ho, hl, hd =>
            obtain rfl := Option.some.inj ho
            have v3 := eval_old (d := dd) (hT.out 3 (by decide)) (by omega) t3
            refine tb_pure (v := .agg #[.int .i64 x.1, .int .i64 x.2.1, .int .i64 x.2.2.1, .int .i64 x.2.2.2]) hT ho hd rfl rfl (by decide) (by decide) ?_ rfl
            generalize Act.eval ⟨over T U, dd⟩ = ev at *
            simp [execOp, v3, go_sem, d0, d1, d2, d3]
          | 2, ho, hl, hd =>
            obtain rfl := Option.some.inj ho
            have f1 := hT.facts 1 (by decide) (dep hd 1 (by kernel_rfl)) (fun c e => by cases e)
            have v1 := eval_new (t := T) (d := dd) f1 (by show 40 < T.size; omega)
            refine tb_ext (v := .slice (some ⟨wz.heap.size, 0, none⟩) 1 1) (w' := wz.alloc (.cells #[.int .i64 x.1, .int .i64 x.2.1, .int .i64 x.2.2.1, .int .i64 x.2.2.2] 23)) PR.ext hT ho hd rfl rfl (by decide) (by decide) ?_ ((Ext.refl _).alloc _) ⟨wz.heap.size, rfl, slN_one _ _ _⟩
            have v1' : Act.eval ⟨over T U, dd⟩ (.tmp 40) = _ := v1
            generalize Act.eval ⟨over T U, dd⟩ = ev at *
            simp [execOp, v1', go_sem]
          | 3, ho, hl, hd =>
            obtain rfl := Option.some.inj ho
            have l0 := dep hd 0 (by kernel_rfl)
            have l2 := dep hd 2 (by kernel_rfl)
            have f0 := hT.facts 0 (by decide) l0 (fun c e => by cases e)
            obtain ⟨b, f2, hs2⟩ := hT.facts 2 (by decide) l2 (fun c e => by injection e with e; subst e; exact hl)
            have f9 := hT.facts 9 (by decide) (hT.past 9 (Nat.le_refl 9)) (fun c e => by injection e with e; subst e; exact hl)
            obtain ⟨v', w', hrun, hown, hgr, -⟩ := run_append_sl (P := Tryd.prog) wz W1.heap.size 24 24 23 i0 (.agg #[.int .i64 0, .int .i64 0, .int .i64 0, .int .i64 0]) 4 32 Tryd.underlying24 hi0 hz0 hz1 hz2 rfl (by decide) (.slice O k oc) k _ f9 (some ⟨b, 0, none⟩) 1 ([x].map In.cells) hs2 (inc_cells [x]).1 (inc_cells [x]).2 (by simp only [List.length_map, List.length_singleton]; unfold maxLen; omega) (by simp only [List.length_map, List.length_singleton]; omega) hT.ext.size
            rw [inc_flat] at hown
            have v0 := eval_new (t := T) (d := dd) f0 (by show 39 < T.size; omega)
            have v2 := eval_new (t := T) (d := dd) f2 (by show 41 < T.size; omega)
            refine tb_yield (v := v') (w' := w') hT ho hd rfl rfl (by decide) (by decide) (exec_append rfl v0 v2 hrun) (hT.ext.grown hgr (fun q hq => own_ge f9 q hq)) ⟨v', rfl, hown⟩ ?_
            intro j hj hji hlj hcj hR
            match j, hj, hR with
            | 0, _, hR => exact hR
            | 1, _, hR => exact hR
            | 2, _, _ => exact absurd rfl (hcj 3 rfl).1
            | 3, _, _ => exact absurd rfl hji
            | 4, _, hR => exact hR
            | 5, _, hR => exact hR
            | 6, _, hR => exact hR
            | 7, _, _ => exact absurd (dep (hT.shut 7 _ rfl hlj) 3 (by kernel_rfl)) (by rw [hl]; decide)
            | 8, _, _ => exact absurd (dep (hT.shut 8 _ rfl hlj) 3 (by kernel_rfl)) (by rw [hl]; decide)
            | 9, _, _ => exact absurd rfl (hcj 3 rfl).1
            | j + 10, hj, _ => exact absurd hj (by omega)
          | 4, ho, hl, hd =>
            obtain rfl := Option.some.inj ho
            have v6 := eval_old (d := dd) (hT.out 0 (by decide)) (by omega) tp
            refine tb_pure (v := .slice (some ⟨gb, go, none⟩) n c) hT ho hd rfl rfl (by decide) (by decide) ?_ rfl
            generalize Act.eval ⟨over T U, dd⟩ = ev at *
            simp [execOp, v6, go_sem]
          | 5, ho, hl, hd =>
            obtain rfl := Option.some.inj ho
            have v6 := eval_old (d := dd) (hT.out 5 (by decide)) (by omega) t5
            refine tb_pure (v := .int .i64 k) hT ho hd rfl rfl (by decide) (by decide) ?_ rfl
            generalize Act.eval ⟨over T U, dd⟩ = ev at *
            simp [execOp, v6, go_sem]
          | 6, ho, hl, hd =>
            obtain rfl := Option.some.inj ho
            have f4 := hT.facts 4 (by decide) (dep hd 4 (by kernel_rfl)) (fun c e => by cases e)
            have f5 := hT.facts 5 (by decide) (dep hd 5 (by kernel_rfl)) (fun c e => by cases e)
            have v4 : Act.eval ⟨over T U, dd⟩ (.tmp 43) = _ := eval_new (t := T) (d := dd) f4 (by show 43 < T.size; omega)
            have v5 : Act.eval ⟨over T U, dd⟩ (.tmp 44) = _ := eval_new (t := T) (d := dd) f5 (by show 44 < T.size; omega)
            by_cases hck : c = k
            · refine tb_pure (v := .slice (some ⟨gb, go, none⟩) (n - k) (c - k)) hT ho hd rfl rfl (by decide) (by decide) ?_ ⟨go, rfl, Or.inr (by omega)⟩
              generalize Act.eval ⟨over T U, dd⟩ = ev at *
              simp [execOp, v4, v5, go_sem, hk, hck]
            · refine tb_pure (v := .slice (some ⟨gb, go + k * 4, none⟩) (n - k) (c - k)) hT ho hd rfl rfl (by decide) (by decide) ?_ ⟨go + k * 4, rfl, Or.inl rfl⟩
              generalize Act.eval ⟨over T U, dd⟩ = ev at *
              simp [execOp, v4, v5, go_sem, hk, hck]
          | 7, ho, hl, hd =>
            obtain rfl := Option.some.inj ho
            have l3 := dep hd 3 (by kernel_rfl)
            obtain ⟨v3, f3, ho3⟩ := hT.facts 3 (by decide) l3 (fun c e => by injection e with e; subst e; exact hl)
            obtain ⟨o6, f6, ho6⟩ := hT.facts 6 (by decide) (dep hd 6 (by kernel_rfl)) (fun c e => by cases e)
            have hs6 : SlN wz (some ⟨gb, o6, none⟩) (ps.drop k) := by
              rcases ho6 with rfl | e
              · exact slN_drop (H.out.1.ext (e1.trans hT.ext)) k
              · have : ps.drop k = [] := List.drop_eq_nil_of_le (by rw [HN.out]; omega)
                rw [this]; exact SlN.nil _ _
            have hlen : ((ps.drop k).map In.cells).length = n - k := by rw [List.length_map, List.length_drop, HN.out]
            obtain ⟨v', w', hrun, hown, hgr, -⟩ := run_append_sl (P := Tryd.prog) wz W1.heap.size 24 24 23 i0 (.agg #[.int .i64 0, .int .i64 0, .int .i64 0, .int .i64 0]) 4 32 Tryd.underlying24 hi0 hz0 hz1 hz2 rfl (by decide) v3 (k + 1) _ ho3 (some ⟨gb, o6, none⟩) (c - k) ((ps.drop k).map In.cells) hs6 (inc_cells _).1 (inc_cells _).2 (by rw [hlen]; unfold maxLen; omega) (by rw [hlen]; omega) hT.ext.size
            rw [inc_flat2, hlen, show k + 1 + (n - k) = n + 1 by omega] at hown
            rw [hlen] at hrun
            have v3' := eval_new (t := T) (d := dd) f3 (by show 42 < T.size; omega)
            have v6' := eval_new (t := T) (d := dd) f6 (by show 45 < T.size; omega)
            refine tb_yield (v := v') (w' := w') hT ho hd rfl rfl (by decide) (by decide) (exec_append rfl v3' v6' hrun) (hT.ext.grown hgr (fun q hq => own_ge ho3 q hq)) ⟨v', rfl, hown⟩ ?_
            intro j hj hji hlj hcj hR
            match j, hj, hR with
            | 0, _, hR => exact hR
            | 1, _, hR => exact hR
            | 2, _, _ => exact absurd l3 (by rw [(hcj 3 rfl).2]; decide)
            | 3, _, _ => exact absurd rfl (hcj 7 rfl).1
            | 4, _, hR => exact hR
            | 5, _, hR => exact hR
            | 6, _, hR => exact hR
            | 7, _, _ => exact absurd rfl hji
            | 8, _, _ => exact absurd (dep (hT.shut 8 _ rfl hlj) 7 (by kernel_rfl)) (by rw [hl]; decide)
            | 9, _, _ => exact absurd l3 (by rw [(hcj 3 rfl).2]; decide)
            | j + 10, hj, _ => exact absurd hj (by omega)
          | 8, ho, hl, hd =>
            obtain rfl := Option.some.inj ho
            obtain ⟨v7, f7, ho7⟩ := hT.facts 7 (by decide) (dep hd 7 (by kernel_rfl)) (fun c e => by cases e)
            have v7' : Act.eval ⟨over T U, dd⟩ (.tmp 46) = _ := eval_new (t := T) (d := dd) f7 (by show 46 < T.size; omega)
            refine tb_pure (v := v7) hT ho hd rfl rfl (by decide) (by decide) ?_ ⟨v7, rfl, ho7⟩
            generalize Act.eval ⟨over T U, dd⟩ = ev at *
            simp [execOp, v7', go_sem]
          | i + 9, ho, _, _ => exact absurd ho (by simp)
        · intro U wz hex hout hfin
          obtain ⟨v8, f8, ho8⟩ := hfin 8 (by decide) rfl
          rw [over_list]
          simp (disch := decide) only [overL, Nat.reduceAdd, hout, Option.getD_none]
          have f8' : U 4 = some v8 := f8
          rw [f8']
          simp only [Option.getD_some]
          go_wp2_with fail
          go_meet
          exact ⟨v8, rfl, ho8, hex⟩
      case rest =>
        obtain ⟨v8, rfl, ho8, hex⟩ := hcut
        have HR : Hid (qs = ps.take k ++ x :: ps.drop k) := Lib.hid (by rw [← HQ.out]; unfold In.put; rw [HIX.out, if_neg HNE.out])
        have hl1 : (ps.take k ++ x :: ps.drop k).length = n + 1 := by simp [HN.out]; omega
        have HMN : Hid (n + 1 = m) := Lib.hid (by rw [← HM.out, HR.out, hl1])
        have hlen : ((ps.take k ++ x :: ps.drop k).map In.cells).length = n + 1 := by rw [List.length_map, hl1]
        obtain ⟨X, xc, rfl, hX1, hX2, hX3⟩ := Sl.of_own (k := 4) (inc_cells _).1 hlen ho8
        rw [hlen] at hX1 ⊢
        obtain ⟨xb, xo, rfl⟩ : ∃ xb xo, X = some ⟨xb, xo, none⟩ := by
          rcases hX3 with g | ⟨b, o, g, -⟩
          · rw [g] at hlen; simp at hlen
          · exact ⟨b, o, g⟩
        have HFIN : Hid ((⟨some ⟨xb, xo, none⟩, xc, qs⟩ : NL).In wc) := Lib.hid ⟨by rw [HR.out]; exact hX3, by rw [HM.out, ← HMN.out]; exact hX1, hX2, fun q hq => by
          rw [HR.out] at hq
          rcases List.mem_append.1 hq with g | g
          · exact H.out.2.2.2 q (List.mem_of_mem_take g)
          · rcases List.mem_cons.1 g with rfl | g
            · exact HX.out
            · exact H.out.2.2.2 q (List.mem_of_mem_drop g)⟩
        clear hX3 ho8 hlen hl1
        go_wp2
        go_ret
        exact ⟨xb, xo, xc, ret_slice HMN.out, HFIN.out, e1.trans hex⟩

end Go.Proofs.YtcpapnnghclbmaaDoor
