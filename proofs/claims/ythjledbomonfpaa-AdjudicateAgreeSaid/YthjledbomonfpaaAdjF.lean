/- adjudicate.Pick: contract for the walk. Conditions: those of the theorem. -/
import Derived.Test.YthjledbomonfpaaAdjE
import Derived.Test.YthjledbomonfpaaClone
namespace Go.Proofs.Ythjledbomonfpaa
open Go.RowKit

/-- A rating. -/
structure Adj.Rt where
  rater : Int
  item : Int
  m : IL
instance : Inhabited Adj.Rt := ⟨⟨0, 0, default⟩⟩
def Adj.Rt.cells (r : Adj.Rt) : List Value := [.int .i64 r.rater, .int .i64 r.item, .slice r.m.A r.m.xs.length r.m.c]
/-- Ratings in memory; each list of marks is short enough to be copied. -/
def SlR (w : World) (A : Option Addr) (rs : List Adj.Rt) : Prop := Sl w 3 A (rs.map Adj.Rt.cells) ∧ ∀ r ∈ rs, r.m.In w ∧ r.m.xs.length * 8 ≤ 140737488355328
theorem SlR.ext {w w' : World} {A : Option Addr} {rs : List Adj.Rt} (h : SlR w A rs) (he : Ext w w') : SlR w' A rs := ⟨h.1.ext he, fun r hr => ⟨(h.2 r hr).1.ext he, (h.2 r hr).2⟩⟩
theorem SlR.at_ {w : World} {A : Option Addr} {rs : List Adj.Rt} (h : SlR w A rs) {i : Nat} {r : Adj.Rt} (hi : rs[i]? = some r) :
    ∃ b off, A = some ⟨b, off, none⟩ ∧ b < w.heap.size ∧ w.cell? ⟨b, off + i * 3, none⟩ = some (.int .i64 r.rater) ∧ w.cell? ⟨b, off + i * 3 + 1, none⟩ = some (.int .i64 r.item) ∧ w.cell? ⟨b, off + i * 3 + 2, none⟩ = some (.slice r.m.A r.m.xs.length r.m.c) ∧ r.m.In w ∧ r.m.xs.length * 8 ≤ 140737488355328 := by
  obtain ⟨b, off, hA, hb, hc⟩ := Sl.at_ (i := i) (cs := r.cells) h.1 (by simp [hi])
  have := h.2 r (List.mem_of_getElem? hi)
  exact ⟨b, off, hA, hb, hc 0 _ rfl, hc 1 _ rfl, hc 2 _ rfl, this.1, this.2⟩

namespace Adj
/-- The ratings of an item, so far. -/
def own (rs : List Rt) (it : Int) : List Rt := rs.filter fun r => decide (r.item = it)
def pickE (rs : List Rt) (it : Int) : Int := if 300 < rs.length then 5 else if ((own rs it).map Rt.rater).Nodup then 0 else 10
def pickL (rs : List Rt) (it : Int) : List (List Int) := if pickE rs it = 0 then (own rs it).map (fun r => r.m.xs) else []
theorem own_snoc_no {rs : List Rt} {it : Int} {k : Nat} {r : Rt} (h : rs[k]? = some r) (hn : r.item ≠ it) : own (rs.take (k + 1)) it = own (rs.take k) it := by
  unfold own; rw [Rub.take_snoc h, List.filter_append]; simp [hn]
theorem own_snoc_yes {rs : List Rt} {it : Int} {k : Nat} {r : Rt} (h : rs[k]? = some r) (hn : r.item = it) : own (rs.take (k + 1)) it = own (rs.take k) it ++ [r] := by
  unfold own; rw [Rub.take_snoc h, List.filter_append]; simp [hn]
theorem own_take_len {rs : List Rt} {it : Int} {k : Nat} : (own (rs.take k) it).length ≤ k := by
  unfold own
  exact Nat.le_trans (List.length_filter_le _ _) (List.length_take_le _ _)
theorem own_dup {rs : List Rt} {it : Int} {k : Nat} {r : Rt} (h : rs[k]? = some r) (hn : r.item = it) (hm : r.rater ∈ (own (rs.take k) it).map Rt.rater) : ¬ ((own rs it).map Rt.rater).Nodup := by
  intro hnd
  have e : rs = rs.take (k + 1) ++ rs.drop (k + 1) := (List.take_append_drop _ _).symm
  have e2 : own rs it = own (rs.take (k + 1)) it ++ own (rs.drop (k + 1)) it := by
    conv => lhs; rw [e]
    unfold own; rw [List.filter_append]
  rw [e2, own_snoc_yes h hn, List.map_append, List.map_append] at hnd
  have h1 := (List.nodup_append.1 hnd).1
  have h2 := (List.nodup_append.1 h1).2.2
  exact h2 r.rater hm r.rater (by simp) rfl
theorem nodup_snoc {l : List Int} {x : Int} (h : l.Nodup) (hx : x ∉ l) : (l ++ [x]).Nodup := by
  rw [List.nodup_append]
  refine ⟨h, by simp, fun a ha b hb e => ?_⟩
  simp at hb
  subst hb
  subst e
  exact hx ha
end Adj

/-- Two rows of different element types are never one block. -/
theorem own_types {w : World} {base base' : Nat} {e e' : TypeId} {s s' : Nat} {v v' : Value} {n n' : Nat} {xs xs' : List Value} (h : w.ownsRow base e s v n xs) (h' : w.ownsRow base' e' s' v' n' xs') (hne : e ≠ e') (q : Nat) (hq : v.ownBlock = some q) : v'.ownBlock ≠ some q := by
  intro hq'
  rcases h.2 with ⟨rfl, _⟩ | ⟨g, cap, cur, rfl, _, hh, _⟩
  · simp [Value.ownBlock] at hq
  · rcases h'.2 with ⟨rfl, _⟩ | ⟨g', cap', cur', rfl, _, hh', _⟩
    · simp [Value.ownBlock] at hq'
    · have e1 : g = q := by simpa [Value.ownBlock] using hq
      have e2 : g' = q := by simpa [Value.ownBlock] using hq'
      subst e1 e2
      rw [hh] at hh'
      injection hh' with hh'
      injection hh' with _ ht
      exact hne ht
theorem own_lt {w : World} {base : Nat} {e : TypeId} {size : Nat} {v : Value} {n : Nat} {xs : List Value} (h : w.ownsRow base e size v n xs) (q : Nat) (hq : v.ownBlock = some q) : q < w.heap.size := by
  rcases h.2 with ⟨rfl, _⟩ | ⟨g, cap, cur, rfl, _, hh, _⟩
  · simp [Value.ownBlock] at hq
  · have e1 : g = q := by simpa [Value.ownBlock] using hq
    subst e1
    rcases Nat.lt_or_ge g w.heap.size with hlt | hge
    · exact hlt
    · rw [Array.getElem?_eq_none hge] at hh; cases hh
/-- An owned row is kept while another row grows. -/
theorem own_grown {w w' : World} {base : Nat} {e : TypeId} {size : Nat} {v : Value} {n : Nat} {xs : List Value} {row : Option Nat} (h : w.ownsRow base e size v n xs) (hg : w.grownBy w' row) (hne : ∀ q, v.ownBlock = some q → row ≠ some q) : w'.ownsRow base e size v n xs := by
  have hlt := own_lt h
  obtain ⟨h1, h2⟩ := h
  refine ⟨h1, ?_⟩
  rcases h2 with h2 | ⟨g, cap, cur, rfl, hgb, hh, r⟩
  · exact Or.inl h2
  · exact Or.inr ⟨g, cap, cur, rfl, hgb, by rw [hg.block g (hlt g rfl) (fun e => hne g rfl e.symm)]; exact hh, r⟩

/-- A slice that lies in other blocks than two rows. -/
def Far (p q : Option Nat) (h : IL) : Prop := h.xs = [] ∨ ∃ a, h.A = some a ∧ some a.block ≠ p ∧ some a.block ≠ q
theorem IL.In.block {w : World} {h : IL} (hi : h.In w) : h.xs = [] ∨ ∃ b off, h.A = some ⟨b, off, none⟩ ∧ b < w.heap.size := by
  rcases hi.1 with h0 | ⟨b, off, hA, hb, _⟩
  · left; simpa using h0
  · exact Or.inr ⟨b, off, hA, hb⟩
theorem IL.In.grown {w w' : World} {h : IL} {row : Option Nat} (hi : h.In w) (hg : w.grownBy w' row) (hf : h.xs = [] ∨ ∃ a, h.A = some a ∧ some a.block ≠ row) : h.In w' := by
  refine ⟨?_, hi.2⟩
  rcases hf with h0 | ⟨a, hA, hne⟩
  · rw [h0]; exact SlI.nil _ _
  · rcases hi.1 with h0 | ⟨b, off, hA', hb, hc⟩
    · exact Or.inl h0
    · rw [hA] at hA'
      injection hA' with hA'
      subst hA'
      refine Or.inr ⟨b, off, hA, Nat.lt_of_lt_of_le hb hg.size, fun i cs hi' j v hv => ?_⟩
      rw [World.cell?_of_block (w := w) (hg.block b hb hne)]
      exact hc i cs hi' j v hv

/-- The post of Pick: lists of marks in new memory, and an error. -/
def RetPick (ml : List (List Int)) (er : Int) (w : World) (e : Ending) (w' : World) : Prop :=
  ∃ (L : Option Addr) (c : Nat) (ils : List IL), e = .returned (.tuple #[.slice L ils.length c, .int .i64 er]) ∧ SlL w' L ils ∧ ils.map IL.xs = ml ∧ ils.length ≤ c ∧ c ≤ maxLen ∧ Ext w w'

/-- A row of slices that the call owns reads as a slice of slices. -/
theorem SlL.of_own {w : World} {base : Nat} {e : TypeId} {v : Value} {n : Nat} {ils : List IL} (h : w.ownsRow base e 1 v n (ils.map IL.val)) (hin : ∀ x ∈ ils, x.In w) : ∃ A c, v = .slice A ils.length c ∧ ils.length ≤ c ∧ c ≤ maxLen ∧ SlL w A ils := by
  have hl : ils.length = n := by have := h.1; simpa using this
  rcases h.2 with ⟨rfl, rfl⟩ | ⟨g, cap, cur, rfl, hg, hh, h1, h2, h3, h4⟩
  · have : ils = [] := List.eq_nil_of_length_eq_zero hl
    subst this
    exact ⟨none, 0, rfl, Nat.le_refl _, Nat.zero_le _, Or.inl rfl, hin⟩
  · refine ⟨some ⟨g, 0, none⟩, cap, by rw [hl], by omega, h2, Or.inr ⟨g, 0, rfl, ?_, fun i cs hi j v hv => ?_⟩, hin⟩
    · rcases Nat.lt_or_ge g w.heap.size with hlt | hge
      · exact hlt
      · rw [Array.getElem?_eq_none hge] at hh; cases hh
    · rw [List.getElem?_map] at hi
      obtain ⟨x, hx, rfl⟩ := Option.map_eq_some_iff.1 hi
      have hj : j = 0 := by
        rcases Nat.eq_zero_or_pos j with e | e
        · exact e
        · rw [List.getElem?_eq_none (by simp; omega)] at hv; cases hv
      subst hj
      simp at hv
      subst hv
      have hi' : i < ils.length := by
        rcases Nat.lt_or_ge i ils.length with e | e
        · exact e
        · rw [List.getElem?_eq_none e] at hx; cases hx
      have h5 : (cur.toList.take (n * 1))[i]? = some x.val := by rw [h4, List.getElem?_map, hx]; rfl
      rw [List.getElem?_take_of_lt (by omega)] at h5
      have h6 := cell_of_row w g i cur e (0, 0) hh
      rw [show (0 + (i * 1 + 0)) = i by omega, h6]
      simpa using h5

/-- What a round of Pick that takes a rating leaves. -/
theorem pick_step {w wr w1 w2 w3 w4 : World} {t6 : TypeId} {v6 v7 v6' v7' : Value} {gg hh : Nat} {o1 o3 : Obj} {ils : List IL} {x6 : List Value} {n6 : Nat} {y : IL}
    (he : Ext w wr) (e1 : Ext wr w1) (hg6 : ∀ q, v6.ownBlock = some q → w.heap.size ≤ q) (hg7 : ∀ q, v7.ownBlock = some q → w.heap.size ≤ q) (h7 : ∀ q, v7.ownBlock = some q → q < wr.heap.size)
    (h67 : ∀ q, v6.ownBlock = some q → v7.ownBlock ≠ some q) (hils : ∀ x ∈ ils, x.In wr ∧ Far v6.ownBlock v7.ownBlock x)
    (hgr2 : (w1.alloc o1).grownBy w2 v6.ownBlock) (hat2 : v6.ownBlock = some gg ∨ gg = w1.heap.size + 1) (hlt2 : gg < w2.heap.size) (hv6 : v6'.ownBlock = some gg) (hown2 : w2.ownsRow w.heap.size t6 1 v6' n6 x6)
    (hb3 : Ext w2 w3) (hy : y.In w3) (hnew : IsNew y.A w2) (hgr4 : (w3.alloc o3).grownBy w4 v7.ownBlock) (hat4 : v7.ownBlock = some hh ∨ hh = w3.heap.size + 1) (hv7 : v7'.ownBlock = some hh) :
    w4.ownsRow w.heap.size t6 1 v6' n6 x6 ∧ (∀ x ∈ ils ++ [y], x.In w4 ∧ Far v6'.ownBlock v7'.ownBlock x) ∧ Ext w w4 := by
  have s1 := e1.size
  have s2 := hgr2.size
  have s3 := hb3.size
  have s4 := hgr4.size
  simp only [World.size_alloc] at s2 s4
  have n7 : v7.ownBlock ≠ some gg := by
    intro e
    rcases hat2 with g | g
    · exact h67 gg g e
    · have := h7 gg e; omega
  refine ⟨own_grown ((own_keep hown2 hb3).alloc _) hgr4 (fun q hq e => ?_), fun x hx => ?_, ?_⟩
  · rw [hv6] at hq
    injection hq with hq
    subst hq
    exact n7 e
  · rw [hv6, hv7]
    rcases List.mem_append.1 hx with hx | hx
    · obtain ⟨hin, hfar⟩ := hils x hx
      have hblk := hin.block
      have f6 : x.xs = [] ∨ ∃ a, x.A = some a ∧ some a.block ≠ v6.ownBlock := by
        rcases hfar with g | ⟨a, g1, g2, _⟩
        · exact Or.inl g
        · exact Or.inr ⟨a, g1, g2⟩
      have f7 : x.xs = [] ∨ ∃ a, x.A = some a ∧ some a.block ≠ v7.ownBlock := by
        rcases hfar with g | ⟨a, g1, _, g3⟩
        · exact Or.inl g
        · exact Or.inr ⟨a, g1, g3⟩
      refine ⟨((((hin.ext e1).ext ((Ext.refl _).alloc _)).grown hgr2 f6).ext (hb3.trans ((Ext.refl _).alloc _))).grown hgr4 f7, ?_⟩
      rcases hfar with g | ⟨a, g1, g2, g3⟩
      · exact Or.inl g
      · rcases hblk with g | ⟨b, off, g4, g5⟩
        · exact Or.inl g
        · rw [g1] at g4
          injection g4 with g4
          subst g4
          refine Or.inr ⟨_, g1, fun e => ?_, fun e => ?_⟩
          · injection e with e
            rcases hat2 with g | g
            · exact g2 (by rw [g, ← e])
            · simp only at e; omega
          · injection e with e
            rcases hat4 with g | g
            · exact g3 (by rw [g, ← e])
            · simp only at e; omega
    · simp at hx
      subst hx
      have hblk := hy.block
      have fy : x.xs = [] ∨ ∃ a, x.A = some a ∧ some a.block ≠ v7.ownBlock := by
        rcases hblk with g | ⟨b, off, g4, g5⟩
        · exact Or.inl g
        · refine Or.inr ⟨_, g4, fun e => ?_⟩
          have := h7 _ e.symm
          have := hnew _ g4
          simp only at *
          omega
      refine ⟨(hy.ext ((Ext.refl _).alloc _)).grown hgr4 fy, ?_⟩
      rcases hblk with g | ⟨b, off, g4, g5⟩
      · exact Or.inl g
      · have hn := hnew _ g4
        simp only at hn
        refine Or.inr ⟨_, g4, fun e => ?_, fun e => ?_⟩
        · injection e with e
          simp only at e
          omega
        · injection e with e
          simp only at e
          rcases hat4 with g | g
          · have := h7 hh g; omega
          · omega
  · exact (((((he.trans e1).alloc _).grown hgr2 hg6).trans hb3).alloc _).grown hgr4 hg7

theorem Try.infoInts : (Try.prog.info? 25).map (fun i => (i.zero, i.size, i.bytes)) = some (some (.slice none 0 0), 1, 24) := by kernel_rfl

set_option maxRecDepth 100000 in
set_option maxHeartbeats 3200000 in
theorem pick_any (A : Option Addr) (c : Nat) (rs : List Adj.Rt) (it : Int) (w : World) (h : SlR w A rs) (hlen : rs.length ≤ maxLen) :
    Calls Try.prog 29 #[.slice A rs.length c, .int .i64 it] w (RetPick (Adj.pickL rs it) (Adj.pickE rs it) w) := by
  have H := Lib.hid h
  unfold maxLen at hlen
  clear h
  by_cases h300 : 300 < rs.length
  · have h300' : 300 < (rs.length : Int) := by omega
    have HE : Hid (Adj.pickE rs it = 5) := by show _ = _; unfold Adj.pickE; rw [if_pos h300]
    have HLL : Hid (Adj.pickL rs it = []) := by show _ = _; unfold Adj.pickL; rw [if_neg (by rw [HE.out]; decide)]
    go_enter Try.func29, Try.ntmps29
    go_wp2
    go_ret2
    exact ⟨none, 0, [], by rw [HE.out]; rfl, ⟨Or.inl rfl, fun x hx => by simp at hx⟩, by rw [HLL.out]; rfl, Nat.le_refl _, Nat.zero_le _, Ext.refl _⟩
  · have h300' : (rs.length : Int) ≤ 300 := by omega
    have hpe : Adj.pickE rs it = if ((Adj.own rs it).map Adj.Rt.rater).Nodup then 0 else 10 := by unfold Adj.pickE; rw [if_neg h300]
    have HPE := Lib.hid hpe
    clear h300 hpe
    obtain ⟨i0, hi0, hz0, hz1, hz2⟩ := info_parts Try.infoInt
    obtain ⟨j0, hj0, hy0, hy1, hy2⟩ := info_parts Try.infoInts
    go_enter Try.func29, Try.ntmps29
    go_wp2
    go_loopw [15, 6, 7] (fun i v6 v7 wr => ∃ (k : Nat) (ils : List IL), k ≤ rs.length ∧ i = .int .i64 k ∧ ils.map IL.xs = (Adj.own (rs.take k) it).map (fun r => r.m.xs) ∧ ((Adj.own (rs.take k) it).map Adj.Rt.rater).Nodup ∧
        wr.ownsRow w.heap.size 3 1 v6 ((Adj.own (rs.take k) it).map Adj.Rt.rater).length (((Adj.own (rs.take k) it).map Adj.Rt.rater).map (Value.int .i64)) ∧ wr.ownsRow w.heap.size 25 1 v7 ils.length (ils.map IL.val) ∧
        (∀ x ∈ ils, x.In wr ∧ Far v6.ownBlock v7.ownBlock x) ∧ Ext w wr) (fun i _ _ _ => rs.length - (intOf i).toNat)
    case atStart => exact ⟨0, [], by omega, rfl, rfl, by simp [Adj.own], ⟨by simp [Adj.own], Or.inl ⟨rfl, rfl⟩⟩, ⟨by simp, Or.inl ⟨rfl, rfl⟩⟩, fun x hx => by simp at hx, Ext.refl _⟩
    case round =>
      obtain ⟨k, ils, hk, rfl, hml, hnd, hown6, hown7, hils, he⟩ := hrel
      have hszr := he.size
      have hol0 := Adj.own_take_len (rs := rs) (it := it) (k := k)
      generalize hra : (Adj.own (rs.take k) it).map Adj.Rt.rater = ra at hnd hown6
      have hral : ra.length = (Adj.own (rs.take k) it).length := by rw [← hra]; simp
      have hol : ra.length ≤ k := by omega
      have HRA := Lib.hid hra
      clear hra
      by_cases hlt : k < rs.length
      · obtain ⟨r, ht⟩ : ∃ r, rs[k]? = some r := ⟨rs[k], List.getElem?_eq_getElem hlt⟩
        obtain ⟨b, off, rfl, hb, c0, c1, c2, hrin, hrbig⟩ := (H.out.ext he).at_ ht
        by_cases hit : r.item = it
        · have hit' : (r.item != it) = false := by rw [bne_eq_false_iff_eq]; exact hit
          have HSN := Lib.hid (Adj.own_snoc_yes ht hit)
          have hge6 := own_ge hown6
          have hge7 := own_ge hown7
          have hlt6 := own_lt hown6
          have hlt7 := own_lt hown7
          have h67 := own_types hown6 hown7 (by decide)
          obtain ⟨R, rc, rfl, hr1, hr2, hr3⟩ := SlI.of_own hown6
          by_cases hmem : r.rater ∈ ra
          · have hdup := Adj.own_dup ht hit (by rw [HRA.out]; exact hmem)
            have HE : Hid (Adj.pickE rs it = 10) := by show _ = _; rw [HPE.out, if_neg hdup]
            have HLL : Hid (Adj.pickL rs it = []) := by show _ = _; unfold Adj.pickL; rw [if_neg (by rw [HE.out]; decide)]
            have HR := Lib.hid hr3
            have HRL := Lib.hid (Nat.le_trans hr1 hr2)
            have hmem' : decide (r.rater ∈ ra) = true := by simpa using hmem
            have HMEM := Lib.hid hmem'
            clear hml hnd hown6 hown7 hils ht hit hge6 hge7 hlt6 hlt7 h67 hr1 hr2 hr3 hmem hdup hmem' hral hol0
            go_wp2_with fail
            refine (contains_any R rc ra r.rater _ (HR.out.ext ((Ext.refl _).alloc _)) HRL.out).mono ?_
            rintro e w1 ⟨rfl, hb1⟩
            rw [HMEM.out]
            go_wp2
            go_ret2
            exact ⟨none, 0, [], by rw [HE.out]; rfl, ⟨Or.inl rfl, fun x hx => by simp at hx⟩, by rw [HLL.out]; rfl, Nat.le_refl _, Nat.zero_le _, (he.alloc _).trans hb1⟩
          · have hmem' : decide (r.rater ∈ ra) = false := by simpa using hmem
            have HMEM := Lib.hid hmem'
            have HR := Lib.hid hr3
            have HRL := Lib.hid (Nat.le_trans hr1 hr2)
            have HND := Lib.hid (Adj.nodup_snoc hnd hmem)
            have HML := Lib.hid hml
            have HO6 := Lib.hid hown6
            have HO7 := Lib.hid hown7
            have HILS := Lib.hid hils
            have HG6 := Lib.hid hge6
            have HG7 := Lib.hid hge7
            have HLT6 := Lib.hid hlt6
            have HLT7 := Lib.hid hlt7
            have H67 := Lib.hid h67
            have HRIN := Lib.hid (H.out.2 r (List.mem_of_getElem? ht)).1
            have HLN : Hid (ils.length = (Adj.own (rs.take k) it).length) := by show _ = _; have := congrArg List.length hml; simpa using this
            have hil : ils.length ≤ 300 := by rw [HLN.out]; omega
            clear hml hnd hown6 hown7 hils ht hit hge6 hge7 hlt6 hlt7 h67 hr1 hr2 hr3 hmem hmem' hrin hral hol0
            go_wp2_with fail
            refine (contains_any R rc ra r.rater _ (HR.out.ext ((Ext.refl _).alloc _)) HRL.out).mono ?_
            rintro e w1 ⟨rfl, hb1⟩
            rw [HMEM.out]
            have hsz1 := hb1.size
            simp at hsz1
            have bx0 : w1.cell? ⟨wr.heap.size, 0, none⟩ = some (.int .i64 r.rater) := hb1.keep (by simp [go_sem])
            have bx2 : w1.cell? ⟨wr.heap.size, 2, none⟩ = some (.slice r.m.A r.m.xs.length r.m.c) := hb1.keep (by simp [go_sem])
            have e1 : Ext wr w1 := ((Ext.refl _).alloc _).trans hb1
            have o6 := Lib.hid (own_keep HO6.out e1)
            have o7 := Lib.hid (own_keep HO7.out e1)
            go_wp2_with (at_builtin; refine wpList_append_lies _ rfl _ _ 25 rfl w.heap.size 3 i0 (.int .i64 0) 1 8 Try.underlying25 hi0 hz0 hz1 hz2 rfl (by decide) _ _ _ rfl (o6.out.alloc _) ⟨w1.heap.size, 0, none⟩ 1 1 [.int .i64 r.rater] rfl rfl (cell_one_new _ _ _) (by simp [Value.oneCell']) (by decide) (by unfold maxLen; omega) (by omega) (by simp; omega) (w1.heap.size + 1) (by simp) ?_; intro gg cap w2 hown2 hgrow2 hat2 hlt2; have hsz2 := hgrow2.size; simp at hsz2; have dx2 : w2.cell? ⟨wr.heap.size, 2, none⟩ = some (.slice r.m.A r.m.xs.length r.m.c) := by (rw [hgrow2.cell_far _ (by simp; omega) (fun e => by have := HLT6.out wr.heap.size e.symm; omega), World.cell?_alloc_lt _ _ _ (by show wr.heap.size < w1.heap.size; omega)]; exact bx2))
            have HO2 := Lib.hid hown2
            have HGR2 := Lib.hid hgrow2
            have HAT2 := Lib.hid hat2
            clear bx0 bx2 hown2 hgrow2 hat2
            go_wp2_with fail
            refine (clone_any r.m.A r.m.c r.m.xs _ ?_ hrbig).mono ?_
            · exact HRIN.out.ext (((he.trans e1).alloc _).grown HGR2.out HG6.out)
            rintro e w3 ⟨N, nc, rfl, hn, hb3, hnew⟩
            have HNN := Lib.hid hn
            have HNEW := Lib.hid hnew
            have hsz3 := hb3.size
            have o73 := Lib.hid (own_keep (own_grown (o7.out.alloc _) HGR2.out (fun q hq e => H67.out q e hq)) hb3)
            clear hn hnew dx2
            go_wp2_with (at_builtin; refine wpList_append_lies _ rfl _ _ 39 rfl w.heap.size 25 j0 (.slice none 0 0) 1 24 Try.underlying39 hj0 hy0 hy1 hy2 rfl (by decide) _ _ _ rfl (o73.out.alloc _) ⟨w3.heap.size, 0, none⟩ 1 1 [.slice N r.m.xs.length nc] rfl rfl (cell_one_new _ _ _) (by simp [Value.oneCell']) (by decide) (by unfold maxLen; omega) (by omega) (by simp; omega) (w3.heap.size + 1) (by simp) ?_; intro hh cap4 w4 hown4 hgrow4 hat4 hlt4)
            have HSTEP := Lib.hid (pick_step (y := ⟨N, nc, r.m.xs⟩) (v6' := .slice (some ⟨gg, 0, none⟩) (ra.length + 1) cap) (v7' := .slice (some ⟨hh, 0, none⟩) (ils.length + 1) cap4) he e1 HG6.out HG7.out HLT7.out H67.out HILS.out HGR2.out HAT2.out hlt2 rfl HO2.out hb3 HNN.out HNEW.out hgrow4 hat4 rfl)
            have HO4 := Lib.hid hown4
            clear hown4 hgrow4 hat4
            go_wp2
            go_roundw
            case rel =>
              obtain ⟨p1, p2, p3⟩ := HSTEP.out
              refine ⟨k + 1, ils ++ [⟨N, nc, r.m.xs⟩], by omega, by go_num, ?_, ?_, ?_, ?_, p2, p3⟩
              · rw [HSN.out, List.map_append, List.map_append, HML.out]; rfl
              · rw [HSN.out, List.map_append, HRA.out]; exact HND.out
              · rw [HSN.out, List.map_append, HRA.out, List.map_append, List.length_append]; exact p1
              · rw [List.map_append, List.length_append]; exact HO4.out
            case measure => simp [intOf]; omega
        · have hit' : (r.item != it) = true := by rw [bne_iff_ne]; exact hit
          have HSN := Lib.hid (Adj.own_snoc_no ht hit)
          have HML := Lib.hid hml
          have HND := Lib.hid hnd
          have HO6 := Lib.hid hown6
          have HO7 := Lib.hid hown7
          have HILS := Lib.hid hils
          clear hml hnd hown6 hown7 hils ht hit hral hol0
          go_wp2
          go_roundw
          case rel => exact ⟨k + 1, ils, by omega, by go_num, by rw [HSN.out]; exact HML.out, by rw [HSN.out, HRA.out]; exact HND.out, by rw [HSN.out, HRA.out]; exact HO6.out.alloc _, HO7.out.alloc _, fun x hx => ⟨(HILS.out x hx).1.ext ((Ext.refl _).alloc _), (HILS.out x hx).2⟩, he.alloc _⟩
          case measure => simp [intOf]; omega
      · obtain rfl : k = rs.length := by omega
        have hnd' : ((Adj.own rs it).map Adj.Rt.rater).Nodup := by
          have := HRA.out
          rw [List.take_of_length_le (Nat.le_refl _)] at this
          rw [this]; exact hnd
        rw [List.take_of_length_le (Nat.le_refl _)] at hml
        have HE : Hid (Adj.pickE rs it = 0) := by show _ = _; rw [HPE.out, if_pos hnd']
        have HLL : Hid (Adj.pickL rs it = ils.map IL.xs) := by show _ = _; unfold Adj.pickL; rw [if_pos HE.out, hml]
        obtain ⟨L, lc, rfl, l1, l2, l3⟩ := SlL.of_own hown7 (fun x hx => (hils x hx).1)
        have HL3 := Lib.hid l3
        clear hml hnd hnd' hown6 hown7 hils l3 hral hol0
        go_wp2
        go_ret2
        exact ⟨L, lc, ils, by rw [HE.out]; rfl, HL3.out, HLL.out.symm, l1, l2, he⟩
end Go.Proofs.Ythjledbomonfpaa
