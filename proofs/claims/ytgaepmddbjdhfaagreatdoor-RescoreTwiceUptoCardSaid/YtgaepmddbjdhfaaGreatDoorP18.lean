/- Rescoring in plain words: checked lists of items, changes applied, steps scored again, what differs. No conditions. A clone of integers as a row of its own, sorted in place; the rule of an answer's choices: contracts. Conditions: those of each theorem. Plain laws of a valid item: how long its lists can be. Conditions: those of each theorem. -/
import Derived.Test.YtgaepmddbjdhfaaGreatDoorP12
import Derived.Test.YtgaepmddbjdhfaaGreatDoorP17
import Derived.Test.YtgaepmddbjdhfaaGreatDoorRsK
import Derived.Test.YtgaepmddbjdhfaaGreatDoorP15
namespace Go.Proofs.YtgaepmddbjdhfaaGreatDoor
namespace Rs
def vla (it : It.Item) (a : Ans) : Int := if It.vld it ≠ 0 then It.vld it else vl it a
/-- The error of a score, the score. -/
def scE (it : It.Item) (a : Ans) : Int := if vla it a ≠ 0 then vla it a else if it.kind = 6 then 8 else 0
def sc (it : It.Item) (a : Ans) : Int := if scE it a ≠ 0 then 0 else cat it a
/-- The first number that is not 0, of f 0 .. f (n - 1). -/
def fstN (f : Nat → Int) : Nat → Int
  | 0 => 0
  | n + 1 => if fstN f n ≠ 0 then fstN f n else f n
theorem fstN_zero {f : Nat → Int} : ∀ {n : Nat}, fstN f n = 0 ↔ ∀ i, i < n → f i = 0
  | 0 => ⟨fun _ i h => by omega, fun _ => rfl⟩
  | n + 1 => by
    have ih := fstN_zero (f := f) (n := n)
    unfold fstN
    constructor
    · intro h i hi
      by_cases h0 : fstN f n = 0
      · rw [if_neg (by simpa using h0)] at h
        rcases Nat.lt_or_ge i n with g | g
        · exact ih.1 h0 i g
        · obtain rfl : i = n := by omega
          exact h
      · rw [if_pos h0] at h
        exact absurd h h0
    · intro h
      have h0 : fstN f n = 0 := ih.2 fun i hi => h i (by omega)
      rw [if_neg (by simpa using h0)]
      exact h n (by omega)
theorem fstN_next {f : Nat → Int} {k : Nat} (h : fstN f k = 0) (hk : f k = 0) : fstN f (k + 1) = 0 := by
  unfold fstN; rw [if_neg (by simpa using h)]; exact hk
theorem fstN_stay {f : Nat → Int} {k : Nat} (h : fstN f k ≠ 0) : ∀ d, fstN f (k + d) = fstN f k
  | 0 => rfl
  | d + 1 => by
    have ih := fstN_stay h d
    show (if fstN f (k + d) ≠ 0 then fstN f (k + d) else f (k + d)) = fstN f k
    rw [ih, if_pos h]
theorem fstN_hit {f : Nat → Int} {n k : Nat} {v : Int} (hk : k < n) (h : fstN f k = 0) (hf : f k = v) (hv : v ≠ 0) : fstN f n = v := by
  have h1 : fstN f (k + 1) = v := by unfold fstN; rw [if_neg (by simpa using h)]; exact hf
  have := fstN_stay (f := f) (k := k + 1) (by rw [h1]; exact hv) (n - (k + 1))
  rw [show k + 1 + (n - (k + 1)) = n by omega] at this
  rw [this, h1]
theorem fstN_congr {f g : Nat → Int} : ∀ {n : Nat}, (∀ i, i < n → f i = g i) → fstN f n = fstN g n
  | 0, _ => rfl
  | n + 1, h => by unfold fstN; rw [fstN_congr (fun i hi => h i (by omega)), h n (by omega)]

/-- A checked list of items. -/
def idAt (its : List It.Item) (i : Nat) : Int := match its[i]? with | some it => it.id | none => 0
def vldAt (its : List It.Item) (i : Nat) : Int := match its[i]? with | some it => It.vld it | none => 0
def ordA (its : List It.Item) (i : Nat) : Bool := decide (i = 0) || decide (idAt its (i - 1) < idAt its i)
def ordI (its : List It.Item) : Bool := It.allN (ordA its) its.length
def chkI (its : List It.Item) : Int := if 60 < its.length then 5 else if ordI its = false then 23 else fstN (vldAt its) its.length
theorem idAt_at {its : List It.Item} {i : Nat} {it : It.Item} (h : its[i]? = some it) : idAt its i = it.id := by unfold idAt; rw [h]
theorem vldAt_at {its : List It.Item} {i : Nat} {it : It.Item} (h : its[i]? = some it) : vldAt its i = It.vld it := by unfold vldAt; rw [h]
theorem chkI_few {its : List It.Item} (h : chkI its = 0) : its.length ≤ 60 := by
  unfold chkI at h
  split at h
  · exact absurd h (by decide)
  · omega
theorem chkI_ord {its : List It.Item} (h : chkI its = 0) : ordI its = true := by
  unfold chkI at h
  rw [if_neg (by have := chkI_few h; omega)] at h
  split at h
  · exact absurd h (by decide)
  · rename_i g
    cases e : ordI its with
    | true => rfl
    | false => exact absurd e g
theorem chkI_vld {its : List It.Item} (h : chkI its = 0) {it : It.Item} (hm : it ∈ its) : It.vld it = 0 := by
  have h1 := chkI_ord h
  have h2 := chkI_few h
  unfold chkI at h
  rw [if_neg (by omega), if_neg (by rw [h1]; simp)] at h
  obtain ⟨i, hi, rfl⟩ := List.mem_iff_getElem.1 hm
  have := fstN_zero.1 h i hi
  rwa [vldAt_at (List.getElem?_eq_getElem hi)] at this
/-- Where the item with a number is. -/
def fnd (its : List It.Item) (id : Int) : Option Nat := its.findIdx? fun x => decide (x.id = id)
theorem fnd_none {its : List It.Item} {id : Int} (h : ∀ (i : Nat) (it : It.Item), its[i]? = some it → it.id ≠ id) : fnd its id = none := by
  unfold fnd
  rw [List.findIdx?_eq_none_iff]
  intro x hx
  obtain ⟨i, hi, rfl⟩ := List.mem_iff_getElem.1 hx
  simpa using h i _ (List.getElem?_eq_getElem hi)
theorem fnd_some {its : List It.Item} {id : Int} {k : Nat} {x : It.Item} (hx : its[k]? = some x) (he : x.id = id) (h : ∀ (i : Nat) (it : It.Item), i < k → its[i]? = some it → it.id ≠ id) : fnd its id = some k := by
  unfold fnd
  obtain ⟨hk, rfl⟩ := List.getElem?_eq_some_iff.1 hx
  rw [List.findIdx?_eq_some_iff_getElem]
  refine ⟨hk, by simpa using he, fun j hj => ?_⟩
  simpa using h j _ hj (List.getElem?_eq_getElem (by omega))
theorem fnd_at {its : List It.Item} {id : Int} {k : Nat} (h : fnd its id = some k) : ∃ x, its[k]? = some x ∧ x.id = id := by
  unfold fnd at h
  rw [List.findIdx?_eq_some_iff_getElem] at h
  obtain ⟨hk, h1, -⟩ := h
  exact ⟨its[k], List.getElem?_eq_getElem hk, by simpa using h1⟩
theorem fnd_ids {a b : List It.Item} (h : a.map (·.id) = b.map (·.id)) (id : Int) : fnd a id = fnd b id := by
  have key : ∀ l : List It.Item, fnd l id = (l.map (·.id)).findIdx? fun x => decide (x = id) := fun l => by
    unfold fnd; rw [List.findIdx?_map]; rfl
  rw [key, key, h]
/-- Changes. -/
def fitE (old it : It.Item) : Int := if It.vld it ≠ 0 then It.vld it else if (decide (it.kind = old.kind) && (decide (it.pts = old.pts) && decide (it.opts.length = old.opts.length))) = false then 11 else if it.ver = old.ver + 1 then 0 else 18
def chgE (its : List It.Item) (c : It.Item) : Int := match fnd its c.id with
  | none => 6
  | some k => match its[k]? with
    | some old => fitE old c
    | none => 6
def upd (its : List It.Item) (c : It.Item) : List It.Item := match fnd its c.id with
  | none => its
  | some k => its.set k c
def app1 (st : Int × List It.Item) (c : It.Item) : Int × List It.Item := if st.1 ≠ 0 then st else if chgE st.2 c ≠ 0 then (chgE st.2 c, []) else (0, upd st.2 c)
def app (its cs : List It.Item) : Int × List It.Item := cs.foldl app1 (0, its)
theorem app_nil (its : List It.Item) : app its [] = (0, its) := rfl
theorem app_next {its cs : List It.Item} {k : Nat} {c : It.Item} (h : cs[k]? = some c) : app its (cs.take (k + 1)) = app1 (app its (cs.take k)) c := by
  unfold app; rw [List.take_add_one, h, List.foldl_append]; rfl
theorem app1_stuck {st : Int × List It.Item} (h : st.1 ≠ 0) (c : It.Item) : app1 st c = st := by unfold app1; rw [if_pos h]
theorem fold_stuck {st : Int × List It.Item} (h : st.1 ≠ 0) : ∀ l : List It.Item, l.foldl app1 st = st
  | [] => rfl
  | c :: l => by rw [List.foldl_cons, app1_stuck h]; exact fold_stuck h l
theorem app_split (its : List It.Item) (a b : List It.Item) : app its (a ++ b) = b.foldl app1 (app its a) := by unfold app; rw [List.foldl_append]
theorem app_bad {its cs cur : List It.Item} {k : Nat} {c : It.Item} {v : Int} (h : cs[k]? = some c) (h0 : app its (cs.take k) = (0, cur)) (hv : chgE cur c = v) (hn : v ≠ 0) : app its cs = (v, []) := by
  have h1 : app its (cs.take (k + 1)) = (v, []) := by rw [app_next h, h0]; unfold app1; rw [if_neg (by simp), if_pos (by rw [hv]; exact hn), hv]
  have h2 : cs = cs.take (k + 1) ++ cs.drop (k + 1) := (List.take_append_drop _ _).symm
  rw [h2, app_split, h1]
  exact fold_stuck hn _
theorem app_good {its cs cur : List It.Item} {k : Nat} {c : It.Item} (h : cs[k]? = some c) (h0 : app its (cs.take k) = (0, cur)) (hv : chgE cur c = 0) : app its (cs.take (k + 1)) = (0, upd cur c) := by
  rw [app_next h, h0]; unfold app1; rw [if_neg (by simp), if_neg (by simpa using hv)]
theorem chgE_none {its : List It.Item} {c : It.Item} (h : fnd its c.id = none) : chgE its c = 6 := by unfold chgE; rw [h]
theorem chgE_some {its : List It.Item} {c old : It.Item} {k : Nat} (h : fnd its c.id = some k) (ho : its[k]? = some old) : chgE its c = fitE old c := by unfold chgE; rw [h]; simp only [ho]
theorem upd_some {its : List It.Item} {c : It.Item} {k : Nat} (h : fnd its c.id = some k) : upd its c = its.set k c := by unfold upd; rw [h]
theorem upd_len (its : List It.Item) (c : It.Item) : (upd its c).length = its.length := by unfold upd; split <;> simp
/-- Times must not fall. -/
def timA (ts : List Int) (i : Nat) : Bool := decide (i = 0) || decide (ts.getD (i - 1) 0 ≤ ts.getD i 0)
def timO (ts : List Int) : Bool := It.allN (timA ts) ts.length
abbrev Chg := It.Item × Int
def itmE (its : List It.Item) (l : List Chg) : Int := if chkI its ≠ 0 then chkI its else if 50 < l.length then 5 else if timO (l.map (·.2)) = false then 15 else (app its (l.map (·.1))).1
def itmL (its : List It.Item) (l : List Chg) : List It.Item := if itmE its l ≠ 0 then [] else (app its (l.map (·.1))).2
/-- Steps scored. -/
abbrev Stp := Int × Int
def stpE (its : List It.Item) (a : Ans) (s : Stp) : Int := match fnd its s.1 with
  | none => 6
  | some k => if a.item ≠ s.1 then 1 else match its[k]? with
    | some it => scE it a
    | none => 6
def stpV (its : List It.Item) (a : Ans) (s : Stp) : Stp := (s.1, match fnd its s.1 with
  | none => 0
  | some k => match its[k]? with
    | some it => sc it a
    | none => 0)
def stpA (its : List It.Item) (an : List Ans) (ss : List Stp) (i : Nat) : Int := match an[i]?, ss[i]? with
  | some a, some s => stpE its a s
  | _, _ => 0
def stsE (its : List It.Item) (an : List Ans) (ss : List Stp) : Int := if 18 < ss.length then 5 else if an.length ≠ ss.length then 1 else if chkI its ≠ 0 then chkI its else fstN (stpA its an ss) ss.length
def stsV (its : List It.Item) (an : List Ans) (ss : List Stp) : List Stp := List.zipWith (stpV its) an ss
def stsL (its : List It.Item) (an : List Ans) (ss : List Stp) : List Stp := if stsE its an ss ≠ 0 then [] else stsV its an ss
theorem stpA_at {its : List It.Item} {an : List Ans} {ss : List Stp} {i : Nat} {a : Ans} {s : Stp} (ha : an[i]? = some a) (hs : ss[i]? = some s) : stpA its an ss i = stpE its a s := by unfold stpA; simp only [ha, hs]
theorem stpE_none {its : List It.Item} {a : Ans} {s : Stp} (h : fnd its s.1 = none) : stpE its a s = 6 := by unfold stpE; rw [h]
theorem stpE_not {its : List It.Item} {a : Ans} {s : Stp} {k : Nat} (h : fnd its s.1 = some k) (ha : a.item ≠ s.1) : stpE its a s = 1 := by unfold stpE; rw [h]; simp only [if_pos ha]
theorem stpE_some {its : List It.Item} {a : Ans} {s : Stp} {k : Nat} {it : It.Item} (h : fnd its s.1 = some k) (ha : a.item = s.1) (hi : its[k]? = some it) : stpE its a s = scE it a := by unfold stpE; rw [h]; simp only [hi]; rw [if_neg (by simpa using ha)]
theorem stpV_some {its : List It.Item} {a : Ans} {s : Stp} {k : Nat} {it : It.Item} (h : fnd its s.1 = some k) (hi : its[k]? = some it) : stpV its a s = (s.1, sc it a) := by unfold stpV; rw [h]; simp only [hi]
/-- What differs. -/
def itA (a : List Stp) (i : Nat) : Int := match a[i]? with | some s => s.1 | none => 0
def ctA (a : List Stp) (i : Nat) : Int := match a[i]? with | some s => s.2 | none => 0
def chdA (a b : List Stp) (i : Nat) : Int := if itA a i = itA b i then 0 else 1
def chdE (a b : List Stp) : Int := if a.length ≠ b.length then 1 else fstN (chdA a b) a.length
def chdV (a b : List Stp) (n : Nat) : List Int := ((List.range n).filter fun i => decide (ctA a i ≠ ctA b i)).map Int.ofNat
def chdL (a b : List Stp) : List Int := if chdE a b ≠ 0 then [] else chdV a b a.length
theorem chdV_next (a b : List Stp) (n : Nat) : chdV a b (n + 1) = chdV a b n ++ if ctA a n = ctA b n then [] else [(n : Int)] := by
  unfold chdV
  rw [List.range_succ, List.filter_append, List.map_append]
  by_cases h : ctA a n = ctA b n <;> simp [h]
theorem chdV_len (a b : List Stp) (n : Nat) : (chdV a b n).length ≤ n := by
  unfold chdV
  rw [List.length_map]
  exact Nat.le_trans (List.length_filter_le _ _) (by simp)
/-- Whether a change affects an answer. -/
def dfs (x y : It.Item) (a : Ans) : Bool := (decide (scE x a = 0) != decide (scE y a = 0)) || (decide (scE x a = 0) && decide (sc x a ≠ sc y a))
def afA (b c : List It.Item) (a : Ans) : Bool := match fnd b a.item with
  | none => false
  | some k => match b[k]?, c[k]? with
    | some x, some y => dfs x y a
    | _, _ => false
def afE (b c : List It.Item) : Int := if chkI b ≠ 0 then chkI b else if chkI c ≠ 0 then chkI c else if b.map (·.id) = c.map (·.id) then 0 else 1
def afV (b c : List It.Item) (an : List Ans) : Bool := if afE b c ≠ 0 then false else an.any (afA b c)
theorem afA_none {b c : List It.Item} {a : Ans} (h : fnd b a.item = none) : afA b c a = false := by unfold afA; rw [h]
theorem afA_some {b c : List It.Item} {a : Ans} {k : Nat} {x y : It.Item} (h : fnd b a.item = some k) (hx : b[k]? = some x) (hy : c[k]? = some y) : afA b c a = dfs x y a := by unfold afA; rw [h]; simp only [hx, hy]
end Rs
end Go.Proofs.YtgaepmddbjdhfaaGreatDoor
namespace Go.Proofs.YtgaepmddbjdhfaaGreatDoor
open Go.ChangeShapes Go.WideShapes Go.ChangeAt Go.RowKit Go.Shelf Go.Sort
theorem sort_own (W0 : World) (base : Nat) (hB : W0.heap.size ≤ base) (v : Value) (xs : List Int) {n : Nat} (hn : xs.length = n) (hb : n < 4611686018427387904) (w : World) (hX : Ext W0 w) (h : w.ownsRow base 3 1 v n (xs.map (Value.int .i64))) :
    Calls Tryz.prog 115 #[v] w fun e w' => e = .returned (.tuple #[]) ∧ w'.ownsRow base 3 1 v n ((It.sorted xs).map (Value.int .i64)) ∧ Ext W0 w' := by
  subst hn
  rcases h.2 with ⟨rfl, hz⟩ | ⟨gb, cap, cur, rfl, hbase, hgb, r1, r2, r3, r4⟩
  · have hss : xs = [] := List.eq_nil_of_length_eq_zero hz
    subst hss
    refine (AnyM.slices_Sort_int_none Tryz.sortA none 0 w).mono ?_
    rintro e w' ⟨rfl, rfl⟩
    exact ⟨rfl, by simpa [It.sorted] using h, hX⟩
  · have hH : Holds encZ w gb 0 xs.toArray := holds_of_block_i hgb (by simpa using r4)
    have hgl : gb < w.heap.size := (Array.getElem?_eq_some_iff.1 hgb).1
    refine (AnyM.slices_Sort_int Tryz.sortA gb 0 cap xs w hH hgl hb).mono ?_
    rintro e w' ⟨rfl, nn, os, rfl⟩
    exact ⟨rfl, ownsRow_sorted_i (by simp) hbase hgb r1 r2 r3, hX.grown (grownBy_sorted_i _) (fun j hj => by cases hj; exact Nat.le_trans hB hbase)⟩
namespace Rs
theorem fit_1 (n : Nat) (l : List Int) : fit 1 n l = decide (l.length = 1) := by unfold fit; rw [if_pos rfl]
theorem fit_2 (n : Nat) (l : List Int) : fit 2 n l = inc l := by unfold fit; rw [if_neg (by decide), if_pos rfl]
theorem fit_3 (n : Nat) (l : List Int) : fit 3 n l = (decide (l.length = n) && uni l) := by unfold fit; rw [if_neg (by decide), if_neg (by decide)]
theorem alli_no {p : Int → Bool} {l : List Int} {k : Nat} {x : Int} (hx : l[k]? = some x) (hb : p x = false) : l.all p = false := by
  rw [List.all_eq_false]
  exact ⟨x, List.mem_of_getElem? hx, by rw [hb]; simp⟩
theorem alli_next {p : Int → Bool} {l : List Int} {k : Nat} {x : Int} (hx : l[k]? = some x) (h : (l.take k).all p = true) (hb : p x = true) : (l.take (k + 1)).all p = true := by
  rw [List.take_add_one, hx, List.all_append, h]
  simp [hb]
end Rs
set_option maxRecDepth 100000 in
set_option maxHeartbeats 6400000 in
theorem checkChoices_any (it : It.Item) (L : It.Loc) (A : Option Addr) (c : Nat) (l : List Int) {n m : Nat} (hn : l.length = n) (hm : it.opts.length = m) (hk : it.kind = 1 ∨ it.kind = 2 ∨ it.kind = 3) (hb1 : n ≤ 17592186043904) {v : Int} (hv : Rs.cho it.kind it.opts.length l = v)
    (w : World) (h : SlI w A l) :
    Calls Tryz.prog 86 #[It.agg it L, .slice A n c] w fun e w' => e = .returned (.int .i64 v) ∧ Ext w w' := by
  obtain ⟨CA, hca, hna, -, hka⟩ := rs_packed it L
  rw [hca]
  have ja2 : CA[2]? = some (.int .i64 it.kind) := by rw [← hka]; rfl
  have ja4 : CA[4]? = some (.slice L.oA m L.oc) := by rw [← hka, ← hm]; rfl
  have J := Lib.hid (And.intro ja2 ja4)
  have H := Lib.hid h
  have HN := Lib.hid hn
  have HM := Lib.hid hm
  have HV := Lib.hid hv
  clear hca hna hka ja2 ja4 h hn hm hv
  have a4 : (w.alloc (.cells CA 55)).cell? ⟨w.heap.size, 4, none⟩ = some (.slice L.oA m L.oc) := by rw [World.cell?_alloc_new]; exact J.out.2
  go_enter Tryz.func86, Tryz.ntmps86
  go_wp2
  go_loop [15] (fun i => ∃ k : Nat, k ≤ n ∧ i = .int .i64 k ∧ Hid ((l.take k).all (fun x => It.wi x 0 ((it.opts.length : Int) - 1)) = true)) (fun i => n - (intOf i).toNat)
  case atStart => exact ⟨0, by omega, rfl, Lib.hid rfl⟩
  case round =>
    obtain ⟨k, hkn, rfl, HA⟩ := hrel
    by_cases hlt : k < n
    · obtain ⟨b, off, x, rfl, hb, hx, hc⟩ := (H.out.ext ((Ext.refl w).alloc (.cells CA 55))).at_ (i := k) (by rw [HN.out]; exact hlt)
      have HX := Lib.hid hx
      clear hx
      have ki1 : (k : Int) < (n : Int) := by omega
      rcases (show x < 0 ∨ (0 ≤ x ∧ (m : Int) ≤ x) ∨ (0 ≤ x ∧ x < (m : Int)) by omega) with h1 | ⟨h1, h2⟩ | ⟨h1, h2⟩
      · have HF : Hid (v = 3) := Lib.hid (by
          rw [← HV.out]; unfold Rs.cho
          rw [if_pos (Rs.alli_no HX.out (by unfold It.wi; simp; omega))])
        go_wp2
        go_ret
        exact ⟨ret_int HF.out.symm, (Ext.refl _).alloc _⟩
      · have HF : Hid (v = 3) := Lib.hid (by
          rw [← HV.out]; unfold Rs.cho
          rw [if_pos (Rs.alli_no HX.out (by rw [HM.out]; unfold It.wi; simp; omega))])
        go_wp2
        go_ret
        exact ⟨ret_int HF.out.symm, (Ext.refl _).alloc _⟩
      · have HF := Lib.hid (Rs.alli_next HX.out HA.out (by rw [HM.out]; unfold It.wi; simp; omega))
        go_wp2
        go_round
        case rel => exact ⟨k + 1, by omega, by go_num, HF⟩
        case measure => simp [intOf]; omega
    · obtain rfl : k = n := by omega
      have HG : Hid (v = if Rs.fit it.kind m l = true then 0 else 23) := Lib.hid (by
        rw [← HV.out]; unfold Rs.cho
        have h1 := HA.out
        rw [← HN.out, List.take_length] at h1
        rw [h1, if_neg (by simp), HM.out])
      have a2 : (w.alloc (.cells CA 55)).cell? ⟨w.heap.size, 2, none⟩ = some (.int .i64 it.kind) := by rw [World.cell?_alloc_new]; exact J.out.1
      have X0 := Lib.hid ((Ext.refl w).alloc (.cells CA 55))
      rcases hk with hk | hk | hk
      · rw [hk] at a2 HG
        by_cases h1 : k = 1
        · have HF : Hid (v = 0) := Lib.hid (by rw [HG.out, Rs.fit_1, HN.out]; simp [h1])
          have t1 : ((k : Int) == 1) = true := by rw [beq_iff_eq]; omega
          go_wp2
          go_ret
          exact ⟨ret_int HF.out.symm, X0.out⟩
        · have HF : Hid (v = 23) := Lib.hid (by rw [HG.out, Rs.fit_1, HN.out]; simp [h1])
          have t1 : ((k : Int) == 1) = false := by rw [beq_eq_false_iff_ne]; omega
          go_wp2
          go_ret
          exact ⟨ret_int HF.out.symm, X0.out⟩
      · rw [hk] at a2 HG
        obtain ⟨q, hq⟩ : ∃ q, Rs.inc l = q := ⟨_, rfl⟩
        have HF : Hid (v = if q = true then 0 else 23) := Lib.hid (by rw [HG.out, ← hq, Rs.fit_2])
        have HQ := Lib.hid hq
        clear hq
        cases q with
        | true =>
          go_wp2_with fail
          with_reducible refine (krising_any A c l HN.out HQ.out _ (H.out.ext X0.out) (by omega)).mono ?_
          rintro e w1 ⟨rfl, hb1⟩
          have X1 := Lib.hid (X0.out.trans hb1)
          clear hb1
          go_wp2
          go_ret
          exact ⟨ret_int HF.out.symm, X1.out⟩
        | false =>
          go_wp2_with fail
          with_reducible refine (krising_any A c l HN.out HQ.out _ (H.out.ext X0.out) (by omega)).mono ?_
          rintro e w1 ⟨rfl, hb1⟩
          have X1 := Lib.hid (X0.out.trans hb1)
          clear hb1
          go_wp2
          go_ret
          exact ⟨ret_int HF.out.symm, X1.out⟩
      · rw [hk] at a2 HG
        obtain ⟨q, hq⟩ : ∃ q, Rs.inc (It.sorted l) = q := ⟨_, rfl⟩
        have HF : Hid (v = if (decide (k = m) && q) = true then 0 else 23) := Lib.hid (by rw [HG.out, ← hq, Rs.inc_sorted, Rs.fit_3, HN.out])
        have HSL : Hid ((It.sorted l).length = k) := Lib.hid ((It.sorted_perm l).length_eq.trans HN.out)
        have HQ := Lib.hid hq
        clear hq
        go_wp2_with fail
        with_reducible refine (clone_own A c l HN.out _ (H.out.ext X0.out) (by omega)).mono ?_
        rintro e w1 ⟨v1, rfl, ho1, hb1⟩
        have HO1 := Lib.hid ho1
        have X1 := Lib.hid hb1
        clear ho1 hb1
        go_wp2_with fail
        with_reducible refine (sort_own (w.alloc (.cells CA 55)) _ (Nat.le_refl _) v1 l HN.out (by omega) _ X1.out HO1.out).mono ?_
        rintro e w2 ⟨rfl, ho2, hb2⟩
        obtain ⟨R, rc, rfl, hR⟩ : ∃ R rc, v1 = .slice R k rc ∧ SlI w2 R (It.sorted l) := by
          obtain ⟨R, rc, e1, -, -, e2⟩ := SlI.of_own (by rw [← HSL.out] at ho2; exact ho2)
          exact ⟨R, rc, by rw [e1, HSL.out], e2⟩
        have HR := Lib.hid hR
        have a4' := hb2.keep a4
        have X2 := Lib.hid (X0.out.trans hb2)
        clear ho2 hb2 hR
        by_cases h1 : k = m
        · have t1 : ((k : Int) == (m : Int)) = true := by rw [beq_iff_eq]; omega
          have HFK : Hid (v = if q = true then 0 else 23) := Lib.hid (by rw [HF.out, decide_eq_true h1, Bool.true_and])
          clear h1
          cases q with
          | true =>
            go_wp2_with fail
            with_reducible refine (krising_any R rc (It.sorted l) HSL.out HQ.out _ HR.out (by omega)).mono ?_
            rintro e w3 ⟨rfl, hb3⟩
            have X3 := Lib.hid (X2.out.trans hb3)
            clear hb3
            go_wp2
            go_ret
            exact ⟨ret_int HFK.out.symm, X3.out⟩
          | false =>
            go_wp2_with fail
            with_reducible refine (krising_any R rc (It.sorted l) HSL.out HQ.out _ HR.out (by omega)).mono ?_
            rintro e w3 ⟨rfl, hb3⟩
            have X3 := Lib.hid (X2.out.trans hb3)
            clear hb3
            go_wp2
            go_ret
            exact ⟨ret_int HFK.out.symm, X3.out⟩
        · have t1 : ((k : Int) == (m : Int)) = false := by rw [beq_eq_false_iff_ne]; omega
          have HFK : Hid (v = 23) := Lib.hid (by rw [HF.out, decide_eq_false h1]; rfl)
          clear h1
          go_wp2
          go_ret
          exact ⟨ret_int HFK.out.symm, X2.out⟩
end Go.Proofs.YtgaepmddbjdhfaaGreatDoor
namespace Go.Proofs.YtgaepmddbjdhfaaGreatDoor
open Go.RowKit
namespace It
/-- Numbers that rise are at most as many as their range holds. -/
theorem rising_len {l : List Int} {lo hi : Int} (h : rising l lo hi = true) : (l.length : Int) ≤ max 0 (hi - lo + 1) := by
  unfold rising at h
  have ha := allN_iff.1 h
  have step : ∀ i, i < l.length → lo + (i : Int) ≤ l.getD i 0 := by
    intro i
    induction i with
    | zero =>
      intro hi0
      have := ha 0 hi0
      unfold risA at this
      rw [Bool.and_eq_true] at this
      have := (wi_iff.1 this.1).1
      omega
    | succ i ih =>
      intro hi1
      have h1 := ih (by omega)
      have := ha (i + 1) hi1
      unfold risA at this
      rw [Bool.and_eq_true, Bool.or_eq_true, decide_eq_true_eq, decide_eq_true_eq] at this
      have h2 := this.2
      simp only [Nat.add_sub_cancel] at h2
      omega
  by_cases h0 : l.length = 0
  · omega
  · have h1 := step (l.length - 1) (by omega)
    have := ha (l.length - 1) (by omega)
    unfold risA at this
    rw [Bool.and_eq_true] at this
    have := (wi_iff.1 this.1).2
    omega
/-- The lists of a valid item are short. -/
theorem vld_small {it : Item} (h : vld it = 0) : it.opts.length ≤ 10 ∧ it.chs.length ≤ 10 ∧ it.texts.length ≤ 10 ∧ it.assets.length ≤ 8 := by
  unfold vld at h
  split at h
  · cases h
  split at h
  · cases h
  split at h
  · cases h
  split at h
  · cases h
  rename_i hl
  split at h
  · cases h
  rename_i hk
  have hk : key it = true := by simpa using hk
  clear h
  refine ⟨by omega, ?_, by omega, by omega⟩
  have hno : ∀ {p : Bool}, (noOpt it && p) = true → it.chs.length = 0 := by
    intro p hp
    rw [Bool.and_eq_true] at hp
    have := hp.1
    unfold noOpt at this
    simp only [Bool.and_eq_true, decide_eq_true_eq] at this
    exact this.2
  unfold key at hk
  split at hk
  · unfold key1 at hk
    simp only [Bool.and_eq_true, decide_eq_true_eq] at hk
    omega
  split at hk
  · unfold key2 at hk
    rw [Bool.and_eq_true] at hk
    have := rising_len hk.2
    omega
  split at hk
  · unfold key3 perm at hk
    simp only [Bool.and_eq_true, decide_eq_true_eq] at hk
    omega
  split at hk
  · unfold key4 at hk
    simp only [Bool.and_assoc] at hk
    have := hno hk
    omega
  split at hk
  · unfold key5 at hk
    rw [Bool.and_eq_true] at hk
    have hk := hk.2
    simp only [Bool.and_assoc] at hk
    have := hno hk
    omega
  · unfold key6 at hk
    simp only [Bool.and_assoc] at hk
    have := hno hk
    omega
end It
end Go.Proofs.YtgaepmddbjdhfaaGreatDoor
