/- The reference's less, put and Merge: contracts. Conditions: those of each theorem. -/
import Derived.Test.YtcpapnnghclbmaaDoorInP
import Derived.Test.YtcpapnnghclbmaaDoorInQ
import Derived.Test.YtcpapnnghclbmaaDoorTab
namespace Go.Proofs.YtcpapnnghclbmaaDoor
open Go.RowKit

namespace In
/-- Where an incident belongs in a list in order. -/
def ix : List Inc → Inc → Nat
  | [], _ => 0
  | p :: l, x => if lt p x then ix l x + 1 else 0
theorem ix_le : ∀ (l : List Inc) (x : Inc), ix l x ≤ l.length
  | [], _ => Nat.le_refl _
  | p :: l, x => by unfold ix; split <;> simp; exact ix_le l x
theorem ix_lt : ∀ {l : List Inc} {x : Inc} {k : Nat} {p : Inc}, k < ix l x → l[k]? = some p → lt p x = true
  | [], _, _, _, h, _ => by simp [ix] at h
  | q :: l, x, 0, p, h, hp => by
    simp at hp; subst hp
    unfold ix at h
    by_cases e : lt q x = true
    · exact e
    · rw [if_neg e] at h; omega
  | q :: l, x, k + 1, p, h, hp => by
    unfold ix at h
    by_cases e : lt q x = true
    · rw [if_pos e] at h
      exact ix_lt (l := l) (k := k) (by omega) (by simpa using hp)
    · rw [if_neg e] at h; omega
theorem ix_at : ∀ {l : List Inc} {x p : Inc}, l[ix l x]? = some p → lt p x = false
  | [], _, _, h => by simp at h
  | q :: l, x, p, h => by
    unfold ix at h
    by_cases e : lt q x = true
    · rw [if_pos e] at h
      exact ix_at (l := l) (by simpa using h)
    · rw [if_neg e] at h
      simp at h; subst h
      simpa using e
theorem ix_of {l : List Inc} {x p : Inc} {k : Nat} (hk : ∀ j q, j < k → l[j]? = some q → lt q x = true) (hp : l[k]? = some p) (h : lt p x = false) : ix l x = k := by
  rcases Nat.lt_trichotomy (ix l x) k with g | g | g
  · have hl : ix l x < l.length := by
      have := (List.getElem?_eq_some_iff.1 hp).1
      omega
    have e := List.getElem?_eq_getElem hl
    have := hk _ _ g e
    rw [ix_at e] at this
    cases this
  · exact g
  · have := ix_lt g hp
    rw [h] at this; cases this
theorem ix_end {l : List Inc} {x : Inc} (hk : ∀ j q, j < l.length → l[j]? = some q → lt q x = true) : ix l x = l.length := by
  rcases Nat.lt_or_ge (ix l x) l.length with g | g
  · have e := List.getElem?_eq_getElem g
    have := hk _ _ g e
    rw [ix_at e] at this; cases this
  · have := ix_le l x; omega
def put (l : List Inc) (x : Inc) : List Inc := if l[ix l x]? = some x then l else l.take (ix l x) ++ x :: l.drop (ix l x)
theorem put_len (l : List Inc) (x : Inc) : (put l x).length ≤ l.length + 1 := by
  unfold put
  split
  · omega
  · have := ix_le l x
    simp
    omega
theorem put_mem {l : List Inc} {x p : Inc} : p ∈ put l x ↔ p ∈ l ∨ p = x := by
  unfold put
  split
  · rename_i h
    constructor
    · exact Or.inl
    · rintro (e | rfl)
      · exact e
      · exact List.mem_of_getElem? h
  · rw [List.mem_append, List.mem_cons]
    constructor
    · rintro (e | e | e)
      · exact Or.inl (List.mem_of_mem_take e)
      · exact Or.inr e
      · exact Or.inl (List.mem_of_mem_drop e)
    · rintro (e | rfl)
      · rw [← List.take_append_drop (ix l x) l] at e
        rcases List.mem_append.1 e with g | g
        · exact Or.inl g
        · exact Or.inr (Or.inr g)
      · exact Or.inr (Or.inl rfl)
theorem put_str {l : List Inc} {x : Inc} (h : Str l) : Str (put l x) := by
  unfold put
  split
  · exact h
  · rename_i hne
    have hs := h
    unfold Str at h ⊢
    have h0 := h
    rw [← List.take_append_drop (ix l x) l, List.pairwise_append] at h0
    obtain ⟨h1, h2, h3⟩ := h0
    have hl : ∀ p ∈ l.take (ix l x), Lt p x := fun p hp => by
      obtain ⟨j, hj⟩ := List.getElem?_of_mem hp
      rw [List.getElem?_take] at hj
      split at hj
      · rename_i hji
        exact (lt_iff p x).1 (ix_lt hji hj)
      · cases hj
    have hr : ∀ p ∈ l.drop (ix l x), Lt x p := fun p hp => by
      have hlt : ix l x < l.length := by
        rcases Nat.lt_or_ge (ix l x) l.length with g | g
        · exact g
        · rw [List.drop_eq_nil_of_le g] at hp; simp at hp
      have e := List.getElem?_eq_getElem hlt
      have h5 := (lt_false _ _).1 (ix_at e)
      have hx : Lt x l[ix l x] := by
        by_cases g : Lt x l[ix l x]
        · exact g
        · exact absurd (by rw [e, Lt.total h5 g]) hne
      rw [List.drop_eq_getElem_cons hlt] at hp h2
      rcases List.mem_cons.1 hp with rfl | g
      · exact hx
      · exact Lt.trans hx ((List.pairwise_cons.1 h2).1 p g)
    rw [List.pairwise_append]
    refine ⟨h1, List.pairwise_cons.2 ⟨hr, h2⟩, fun p hp q hq => ?_⟩
    rcases List.mem_cons.1 hq with rfl | g
    · exact hl p hp
    · exact Lt.trans (hl p hp) (hr q g)
/-- All, one after the other. -/
def puts (out l : List Inc) : List Inc := l.foldl put out
theorem puts_snoc {out l : List Inc} {k : Nat} {p : Inc} (h : l[k]? = some p) : puts out (l.take (k + 1)) = put (puts out (l.take k)) p := by
  unfold puts; rw [List.take_add_one, h, List.foldl_append]; rfl
theorem puts_len (l : List Inc) : ∀ out : List Inc, (puts out l).length ≤ out.length + l.length := by
  induction l with
  | nil => intro out; simp [puts]
  | cons p l ih =>
    intro out
    have := ih (put out p)
    have h2 := put_len out p
    show (puts (put out p) l).length ≤ _
    simp
    omega
theorem puts_str (l : List Inc) : ∀ {out : List Inc}, Str out → Str (puts out l) := by
  induction l with
  | nil => intro out h; exact h
  | cons p l ih => intro out h; exact ih (put_str h)
theorem puts_mem (l : List Inc) : ∀ {out : List Inc} {p : Inc}, p ∈ puts out l ↔ p ∈ out ∨ p ∈ l := by
  induction l with
  | nil => intro out p; simp [puts]
  | cons q l ih =>
    intro out p
    show p ∈ puts (put out q) l ↔ _
    rw [ih, put_mem, List.mem_cons, or_assoc]
theorem puts_mrg (a b : List Inc) : puts (puts [] a) b = mrg a b := str_eq (puts_str _ (puts_str _ List.Pairwise.nil)) (mrg_str _ _) (fun p => by rw [puts_mem, puts_mem, mrg_mem]; simp)
end In

set_option maxRecDepth 100000 in
set_option maxHeartbeats 3200000 in
theorem less_any (p q : In.Inc) {v : Bool} (hv : In.lt p q = v) (w : World) : Calls Tryd.prog 50 #[.agg #[.int .i64 p.1, .int .i64 p.2.1, .int .i64 p.2.2.1, .int .i64 p.2.2.2], .agg #[.int .i64 q.1, .int .i64 q.2.1, .int .i64 q.2.2.1, .int .i64 q.2.2.2]] w fun e w' => e = .returned (.bool v) ∧ Ext w w' := by
  have HL : Hid ((In.Lt p q → v = true) ∧ (¬ In.Lt p q → v = false)) := Lib.hid ⟨fun h => by rw [← hv]; exact (In.lt_iff p q).2 h, fun h => by rw [← hv]; exact (In.lt_false p q).2 h⟩
  clear hv
  obtain ⟨a, b, c, d⟩ := p
  obtain ⟨a', b', c', d'⟩ := q
  simp only
  have key : ∀ (x y : Int), (x < y → In.Lt (a, b, c, d) (a', b', c', d')) → (¬ x < y → ¬ In.Lt (a, b, c, d) (a', b', c', d')) → decide (x < y) = v := fun x y h1 h2 => by
    by_cases h : x < y
    · rw [decide_eq_true h, HL.out.1 (h1 h)]
    · rw [decide_eq_false h, HL.out.2 (h2 h)]
  have KEY := Lib.hid key
  clear key
  have x2 : Ext w ((w.alloc (.cells #[.int .i64 a, .int .i64 b, .int .i64 c, .int .i64 d] 23)).alloc (.cells #[.int .i64 a', .int .i64 b', .int .i64 c', .int .i64 d'] 23)) := ((Ext.refl w).alloc _).alloc _
  by_cases h1 : b = b'
  · have e1 : (b != b') = false := by rw [h1]; simp
    by_cases h2 : a = a'
    · have e2 : (a != a') = false := by rw [h2]; simp
      by_cases h3 : c = c'
      · have e3 : (c != c') = false := by rw [h3]; simp
        have HR : Hid (decide (d < d') = v) := Lib.hid (KEY.out d d' (fun h => by unfold In.Lt; simp only; omega) (fun h => by unfold In.Lt; simp only; omega))
        clear h1 h2 h3
        go_enter Tryd.func50, Tryd.ntmps50
        go_wp2
        go_ret
        exact ⟨ret_bool HR.out, x2⟩
      · have e3 : (c != c') = true := by rw [bne_iff_ne]; exact h3
        have HR : Hid (decide (c < c') = v) := Lib.hid (KEY.out c c' (fun h => by unfold In.Lt; simp only; omega) (fun h => by unfold In.Lt; simp only; omega))
        clear h1 h2 h3
        go_enter Tryd.func50, Tryd.ntmps50
        go_wp2
        go_ret
        exact ⟨ret_bool HR.out, x2⟩
    · have e2 : (a != a') = true := by rw [bne_iff_ne]; exact h2
      have HR : Hid (decide (a < a') = v) := Lib.hid (KEY.out a a' (fun h => by unfold In.Lt; simp only; omega) (fun h => by unfold In.Lt; simp only; omega))
      clear h1 h2
      go_enter Tryd.func50, Tryd.ntmps50
      go_wp2
      go_ret
      exact ⟨ret_bool HR.out, x2⟩
  · have e1 : (b != b') = true := by rw [bne_iff_ne]; exact h1
    have HR : Hid (decide (b < b') = v) := Lib.hid (KEY.out b b' (fun h => by unfold In.Lt; simp only; omega) (fun h => by unfold In.Lt; simp only; omega))
    clear h1
    go_enter Tryd.func50, Tryd.ntmps50
    go_wp2
    go_ret
    exact ⟨ret_bool HR.out, x2⟩
end Go.Proofs.YtcpapnnghclbmaaDoor
