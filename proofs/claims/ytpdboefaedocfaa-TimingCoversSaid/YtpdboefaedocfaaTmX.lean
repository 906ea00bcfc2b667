/- Intervals: the reference's ends and minus, plain. No conditions beyond those of each theorem. -/
import Derived.Test.YtpdboefaedocfaaTmV
namespace Go.Proofs.Ytpdboefaedocfaa.Tm

def isEnd (l : List (Int × Int)) (x : Int) : Prop := ∃ p ∈ l, x = p.1 ∨ x = p.2
def upd (last best : Int) (p : Int × Int) : Int :=
  if last < p.2 ∧ p.2 < (if last < p.1 ∧ p.1 < best then p.1 else best) then p.2 else (if last < p.1 ∧ p.1 < best then p.1 else best)
/-- The least end beyond last. -/
def nx (last : Int) (l : List (Int × Int)) : Int := l.foldl (upd last) 1099511627777
theorem upd_eq {last best b1 b2 : Int} {p : Int × Int} (h1 : (if last < p.1 ∧ p.1 < best then p.1 else best) = b1) (h2 : (if last < p.2 ∧ p.2 < b1 then p.2 else b1) = b2) : upd last best p = b2 := by
  unfold upd; rw [h1, h2]
theorem upd_fold (last : Int) : ∀ (l : List (Int × Int)) (b0 : Int), (l.foldl (upd last) b0 = b0 ∨ (isEnd l (l.foldl (upd last) b0) ∧ last < l.foldl (upd last) b0)) ∧ l.foldl (upd last) b0 ≤ b0 ∧ ∀ x, isEnd l x → last < x → l.foldl (upd last) b0 ≤ x
  | [], b0 => ⟨Or.inl rfl, Int.le_refl _, fun x ⟨p, hp, _⟩ => by cases hp⟩
  | p :: l, b0 => by
    obtain ⟨h1, h2, h3⟩ := upd_fold last l (upd last b0 p)
    rw [List.foldl_cons]
    have hu : (upd last b0 p = b0 ∨ ((upd last b0 p = p.1 ∨ upd last b0 p = p.2) ∧ last < upd last b0 p)) ∧ upd last b0 p ≤ b0 ∧ (last < p.1 → upd last b0 p ≤ p.1) ∧ (last < p.2 → upd last b0 p ≤ p.2) := by
      unfold upd
      split <;> split at * <;> omega
    obtain ⟨u1, u2, u3, u4⟩ := hu
    refine ⟨?_, by omega, fun x ⟨q, hq, hx⟩ hlx => ?_⟩
    · rcases h1 with g | ⟨⟨q, hq, g⟩, g2⟩
      · rw [g]
        rcases u1 with v | ⟨v, v2⟩
        · exact Or.inl v
        · exact Or.inr ⟨⟨p, by simp, v⟩, v2⟩
      · exact Or.inr ⟨⟨q, List.mem_cons_of_mem _ hq, g⟩, g2⟩
    · rcases List.mem_cons.1 hq with rfl | hq
      · rcases hx with rfl | rfl
        · have := u3 hlx; omega
        · have := u4 hlx; omega
      · exact h3 x ⟨q, hq, hx⟩ hlx
theorem nx_spec (last : Int) (l : List (Int × Int)) : (nx last l = 1099511627777 ∨ (isEnd l (nx last l) ∧ last < nx last l)) ∧ nx last l ≤ 1099511627777 ∧ ∀ x, isEnd l x → last < x → nx last l ≤ x := upd_fold last l 1099511627777
theorem end_ok {l : List (Int × Int)} (h : ∀ p ∈ l, ok p) {x : Int} (hx : isEnd l x) : 0 ≤ x ∧ x ≤ 1099511627776 := by
  obtain ⟨p, hp, hx⟩ := hx
  have := h p hp
  unfold ok at this
  omega
/-- What the ends function has collected up to last. -/
def Ends (l : List (Int × Int)) (out : List Int) (last : Int) : Prop := out.Pairwise (· < ·) ∧ (∀ x ∈ out, x ≤ last ∧ isEnd l x) ∧ ∀ x, isEnd l x → x ≤ last → x ∈ out
theorem Ends.start {l : List (Int × Int)} (h : ∀ p ∈ l, ok p) : Ends l [] (-1) :=
  ⟨List.Pairwise.nil, fun x hx => (by cases hx), fun x hx hl => (by have := end_ok h hx; omega)⟩
theorem Ends.more {l : List (Int × Int)} {out : List Int} {last best : Int} (h : Ends l out last) (hb : nx last l = best) (hle : best ≤ 1099511627776) : Ends l (out ++ [best]) best ∧ last < best := by
  obtain ⟨h1, h2, h3⟩ := nx_spec last l
  rw [hb] at h1 h2 h3
  have hE : isEnd l best ∧ last < best := by
    rcases h1 with g | g
    · omega
    · exact g
  refine ⟨⟨List.pairwise_append.2 ⟨h.1, by simp, fun x hx y hy => ?_⟩, fun x hx => ?_, fun x hx hl => ?_⟩, hE.2⟩
  · simp at hy; subst hy
    have := (h.2.1 x hx).1
    omega
  · rcases List.mem_append.1 hx with g | g
    · have := h.2.1 x g
      exact ⟨by omega, this.2⟩
    · simp at g; subst g; exact ⟨Int.le_refl _, hE.1⟩
  · rcases Int.lt_or_le last x with g | g
    · have := h3 x hx g
      have e : x = best := by omega
      subst e
      simp
    · exact List.mem_append_left _ (h.2.2 x hx g)
theorem Ends.done {l : List (Int × Int)} (hok : ∀ p ∈ l, ok p) {out : List Int} {last best : Int} (h : Ends l out last) (hb : nx last l = best) (hle : ¬ best ≤ 1099511627776) : out.Pairwise (· < ·) ∧ ∀ x, x ∈ out ↔ isEnd l x := by
  obtain ⟨h1, h2, h3⟩ := nx_spec last l
  rw [hb] at h1 h2 h3
  refine ⟨h.1, fun x => ⟨fun hx => (h.2.1 x hx).2, fun hx => ?_⟩⟩
  rcases Int.lt_or_le last x with g | g
  · have := h3 x hx g
    have := end_ok hok hx
    omega
  · exact h.2.2 x hx g
theorem Ends.len {l : List (Int × Int)} {out : List Int} {last : Int} (h : Ends l out last) : out.length ≤ 2 * l.length := by
  have := len_sub (m := l.map (·.1) ++ l.map (·.2)) h.1 (fun x hx => by
    obtain ⟨p, hp, e⟩ := (h.2.1 x hx).2
    rcases e with e | e
    · exact List.mem_append_left _ (by rw [e]; exact List.mem_map_of_mem hp)
    · exact List.mem_append_right _ (by rw [e]; exact List.mem_map_of_mem hp))
  simp at this
  omega

/-- One piece between neighbouring ends. -/
def rst (a b out : List (Int × Int)) (x y : Int) : List (Int × Int) :=
  if cov a x = true ∧ cov b x = false then (match out.getLast? with | some q => if q.2 = x then out.dropLast ++ [(q.1, y)] else out ++ [(x, y)] | none => out ++ [(x, y)]) else out
def rfold (a b : List (Int × Int)) (E : List Int) : Nat → List (Int × Int)
  | 0 => []
  | k + 1 => rst a b (rfold a b E k) (E.getD k 0) (E.getD (k + 1) 0)
theorem rst_skip {a b out : List (Int × Int)} {x y : Int} (h : ¬ (cov a x = true ∧ cov b x = false)) : rst a b out x y = out := by unfold rst; rw [if_neg h]
theorem rst_join {a b out : List (Int × Int)} {x y : Int} {q : Int × Int} (h : cov a x = true ∧ cov b x = false) (hq : out.getLast? = some q) (hx : q.2 = x) : rst a b out x y = out.dropLast ++ [(q.1, y)] := by
  unfold rst; rw [if_pos h, hq]; simp only; rw [if_pos hx]
theorem rst_new {a b out : List (Int × Int)} {x y : Int} {q : Int × Int} (h : cov a x = true ∧ cov b x = false) (hq : out.getLast? = some q) (hx : q.2 ≠ x) : rst a b out x y = out ++ [(x, y)] := by
  unfold rst; rw [if_pos h, hq]; simp only; rw [if_neg hx]
theorem rst_first {a b : List (Int × Int)} {x y : Int} (h : cov a x = true ∧ cov b x = false) : rst a b [] x y = [] ++ [(x, y)] := by
  unfold rst; rw [if_pos h]; rfl
theorem rst_len (a b out : List (Int × Int)) (x y : Int) : (rst a b out x y).length ≤ out.length + 1 := by
  unfold rst
  split
  · split
    · split
      · simp
      · simp
    · simp
  · omega
theorem rst_inv {a b out : List (Int × Int)} {x0 x y : Int} (hxy : x < y) (h0 : x0 ≤ x) (hn : Norm out) (hle : ∀ p ∈ out, p.2 ≤ x) (hc : ∀ z, cov out z = (decide (x0 ≤ z ∧ z < x) && (cov a z && !cov b z)))
    (hal : ∀ z, x ≤ z → z < y → cov a z = cov a x ∧ cov b z = cov b x) :
    Norm (rst a b out x y) ∧ (∀ p ∈ rst a b out x y, p.2 ≤ y) ∧ ∀ z, cov (rst a b out x y) z = (decide (x0 ≤ z ∧ z < y) && (cov a z && !cov b z)) := by
  have key : ∀ z, (decide (x0 ≤ z ∧ z < y) && (cov a z && !cov b z)) = ((decide (x0 ≤ z ∧ z < x) && (cov a z && !cov b z)) || (decide (x ≤ z ∧ z < y) && (cov a x && !cov b x))) := by
    intro z
    by_cases hz : x ≤ z ∧ z < y
    · obtain ⟨e1, e2⟩ := hal z hz.1 hz.2
      have d1 : decide (x0 ≤ z ∧ z < y) = true := by rw [decide_eq_true_iff]; omega
      have d2 : decide (x0 ≤ z ∧ z < x) = false := by rw [decide_eq_false_iff_not]; omega
      have d3 : decide (x ≤ z ∧ z < y) = true := by rw [decide_eq_true_iff]; exact hz
      rw [d1, d2, d3, e1, e2]
      simp
    · have d3 : decide (x ≤ z ∧ z < y) = false := by rw [decide_eq_false_iff_not]; exact hz
      have d1 : decide (x0 ≤ z ∧ z < y) = decide (x0 ≤ z ∧ z < x) := by
        rw [decide_eq_decide]; omega
      rw [d1, d3]
      simp
  by_cases h : cov a x = true ∧ cov b x = false
  · have hv : (cov a x && !cov b x) = true := by rw [h.1, h.2]; rfl
    cases hq : out.getLast? with
    | none =>
      rw [List.getLast?_eq_none_iff] at hq
      subst hq
      rw [rst_first h]
      refine ⟨⟨fun p hp => ?_, by simp⟩, fun p hp => ?_, fun z => ?_⟩
      · simp at hp; subst hp; exact hxy
      · simp at hp; subst hp; exact Int.le_refl _
      · rw [key z, hv, ← hc z]
        simp [cov]
    | some q =>
      obtain ⟨ys, rfl⟩ := List.getLast?_eq_some_iff.1 hq
      have hqx := hle q (by simp)
      have hpw := List.pairwise_append.1 hn.2
      by_cases hx : q.2 = x
      · rw [rst_join h hq hx, List.dropLast_concat]
        have hq12 := hn.1 q (by simp)
        refine ⟨⟨fun p hp => ?_, List.pairwise_append.2 ⟨hpw.1, by simp, fun s hs t ht => ?_⟩⟩, fun p hp => ?_, fun z => ?_⟩
        · rcases List.mem_append.1 hp with g | g
          · exact hn.1 p (List.mem_append_left _ g)
          · simp at g; subst g; simp only; omega
        · simp at ht; subst ht
          exact hpw.2.2 s hs q (by simp)
        · rcases List.mem_append.1 hp with g | g
          · have := hle p (List.mem_append_left _ g); omega
          · simp at g; subst g; exact Int.le_refl _
        · rw [key z, hv, ← hc z, cov_append, cov_append]
          simp only [cov, List.any_cons, List.any_nil, Bool.or_false, Bool.and_true]
          rw [Bool.or_assoc]
          congr 1
          rw [← Bool.decide_or, decide_eq_decide]
          omega
      · rw [rst_new h hq hx]
        refine ⟨⟨fun p hp => ?_, List.pairwise_append.2 ⟨hn.2, by simp, fun s hs t ht => ?_⟩⟩, fun p hp => ?_, fun z => ?_⟩
        · rcases List.mem_append.1 hp with g | g
          · exact hn.1 p g
          · simp at g; subst g; exact hxy
        · simp at ht; subst ht
          have hs2 := hle s hs
          rcases List.mem_append.1 hs with g | g
          · have := hpw.2.2 s g q (by simp)
            have := hn.1 q (by simp)
            simp only; omega
          · simp at g; subst g; simp only; omega
        · rcases List.mem_append.1 hp with g | g
          · have := hle p g; omega
          · simp at g; subst g; exact Int.le_refl _
        · rw [key z, hv, ← hc z, cov_append (ys ++ [q])]
          simp [cov]
  · rw [rst_skip h]
    have hv : (cov a x && !cov b x) = false := by
      cases h1 : cov a x <;> cases h2 : cov b x <;> simp_all
    refine ⟨hn, fun p hp => by have := hle p hp; omega, fun z => ?_⟩
    rw [key z, hv, ← hc z]
    simp
theorem alike {a : List (Int × Int)} {E : List Int} (hp : E.Pairwise (· < ·)) (hE : ∀ p ∈ a, p.1 ∈ E ∧ p.2 ∈ E) {k : Nat} {x y : Int} (hx : E[k]? = some x) (hy : E[k + 1]? = some y) {z : Int} (h1 : x ≤ z) (h2 : z < y) : cov a z = cov a x := by
  have gap : ∀ e ∈ E, e ≤ x ∨ y ≤ e := by
    intro e he
    obtain ⟨j, hj, rfl⟩ := List.getElem_of_mem he
    obtain ⟨hk, rfl⟩ := List.getElem?_eq_some_iff.1 hx
    obtain ⟨hk1, rfl⟩ := List.getElem?_eq_some_iff.1 hy
    rcases Nat.lt_trichotomy j k with g | g | g
    · have := List.pairwise_iff_getElem.1 hp j k hj hk g; omega
    · subst g; exact Or.inl (Int.le_refl _)
    · rcases Nat.lt_or_ge (k + 1) j with g2 | g2
      · have := List.pairwise_iff_getElem.1 hp (k + 1) j hk1 hj g2; omega
      · obtain rfl : j = k + 1 := by omega
        exact Or.inr (Int.le_refl _)
  rw [Bool.eq_iff_iff, cov_iff, cov_iff]
  constructor
  · rintro ⟨p, hp1, g1, g2⟩
    have e1 := gap _ (hE p hp1).1
    exact ⟨p, hp1, by omega, by omega⟩
  · rintro ⟨p, hp1, g1, g2⟩
    have e2 := gap _ (hE p hp1).2
    exact ⟨p, hp1, by omega, by omega⟩
theorem rfold_len (a b : List (Int × Int)) (E : List Int) : ∀ k, (rfold a b E k).length ≤ k
  | 0 => Nat.le_refl 0
  | k + 1 => by
    have h1 := rfold_len a b E k
    have h2 := rst_len a b (rfold a b E k) (E.getD k 0) (E.getD (k + 1) 0)
    rw [rfold]
    omega
theorem rfold_inv {a b : List (Int × Int)} {E : List Int} (hp : E.Pairwise (· < ·)) (hE : ∀ p ∈ a ++ b, p.1 ∈ E ∧ p.2 ∈ E) :
    ∀ k, k < E.length → Norm (rfold a b E k) ∧ (∀ p ∈ rfold a b E k, p.2 ≤ E.getD k 0) ∧ ∀ z, cov (rfold a b E k) z = (decide (E.getD 0 0 ≤ z ∧ z < E.getD k 0) && (cov a z && !cov b z))
  | 0, hk => ⟨Norm.nil, fun p hp => (by cases hp), fun z => by
      have : decide (E.getD 0 0 ≤ z ∧ z < E.getD 0 0) = false := by rw [decide_eq_false_iff_not]; omega
      rw [this]; rfl⟩
  | k + 1, hk => by
    obtain ⟨h1, h2, h3⟩ := rfold_inv hp hE k (by omega)
    have ex : E[k]? = some (E.getD k 0) := by rw [List.getD_eq_getElem?_getD, List.getElem?_eq_getElem (by omega)]; rfl
    have ey : E[k + 1]? = some (E.getD (k + 1) 0) := by rw [List.getD_eq_getElem?_getD, List.getElem?_eq_getElem hk]; rfl
    have e0 : E[0]? = some (E.getD 0 0) := by rw [List.getD_eq_getElem?_getD, List.getElem?_eq_getElem (by omega)]; rfl
    have hlt : E.getD k 0 < E.getD (k + 1) 0 := by
      obtain ⟨g1, g2⟩ := List.getElem?_eq_some_iff.1 ex
      obtain ⟨g3, g4⟩ := List.getElem?_eq_some_iff.1 ey
      rw [← g2, ← g4]
      exact List.pairwise_iff_getElem.1 hp k (k + 1) g1 g3 (by omega)
    have h0 : E.getD 0 0 ≤ E.getD k 0 := by
      obtain ⟨g1, g2⟩ := List.getElem?_eq_some_iff.1 ex
      obtain ⟨g3, g4⟩ := List.getElem?_eq_some_iff.1 e0
      rw [← g2, ← g4]
      rcases Nat.eq_zero_or_pos k with g | g
      · subst g; exact Int.le_refl _
      · exact Int.le_of_lt (List.pairwise_iff_getElem.1 hp 0 k g3 g1 g)
    rw [rfold]
    exact rst_inv hlt h0 h1 h2 h3 (fun z g1 g2 => ⟨alike hp (fun p hp => hE p (List.mem_append_left _ hp)) ex ey g1 g2, alike hp (fun p hp => hE p (List.mem_append_right _ hp)) ex ey g1 g2⟩)
/-- The reference's difference is the difference. -/
theorem rfold_eq {a b : List (Int × Int)} {E : List Int} (ha : ∀ p ∈ a, ok p) (hb : ∀ p ∈ b, ok p) (hp : E.Pairwise (· < ·)) (hE : ∀ x, x ∈ E ↔ isEnd (a ++ b) x) : rfold a b E (E.length - 1) = mns (nrm a) (nrm b) := by
  have hE2 : ∀ p ∈ a ++ b, p.1 ∈ E ∧ p.2 ∈ E := fun p hp => ⟨(hE _).2 ⟨p, hp, Or.inl rfl⟩, (hE _).2 ⟨p, hp, Or.inr rfl⟩⟩
  obtain ⟨na, ca⟩ := nrm_norm (ok_lt ha)
  obtain ⟨nb, cb⟩ := nrm_norm (ok_lt hb)
  obtain ⟨nm, cm⟩ := mns_norm _ _ na nb
  rcases Nat.eq_zero_or_pos E.length with g | g
  · have h1 : a = [] := by
      cases a with
      | nil => rfl
      | cons p a =>
        have := (hE2 p (by simp)).1
        rw [List.eq_nil_of_length_eq_zero g] at this
        cases this
    subst h1
    rw [g]
    refine (norm_unique _ _ nm Norm.nil fun x => ?_).symm
    rw [cm, ca, cov_nil]
    rfl
  · obtain ⟨h1, h2, h3⟩ := rfold_inv hp hE2 (E.length - 1) (by omega)
    refine norm_unique _ _ h1 nm fun z => ?_
    rw [h3, cm, ca, cb]
    cases hc : cov a z with
    | false => simp
    | true =>
      obtain ⟨p, hpm, g1, g2⟩ := cov_iff.1 hc
      have hm := hE2 p (List.mem_append_left _ hpm)
      obtain ⟨i, hi, ei⟩ := List.getElem_of_mem hm.1
      obtain ⟨j, hj, ej⟩ := List.getElem_of_mem hm.2
      have e0 : E.getD 0 0 ≤ p.1 := by
        rw [List.getD_eq_getElem?_getD, List.getElem?_eq_getElem (show 0 < E.length by omega)]
        simp only [Option.getD_some]
        rcases Nat.eq_zero_or_pos i with q | q
        · subst q; omega
        · have := List.pairwise_iff_getElem.1 hp 0 i (by omega) hi q; omega
      have e1 : p.2 ≤ E.getD (E.length - 1) 0 := by
        rw [List.getD_eq_getElem?_getD, List.getElem?_eq_getElem (show E.length - 1 < E.length by omega)]
        simp only [Option.getD_some]
        rcases Nat.lt_or_ge j (E.length - 1) with q | q
        · have := List.pairwise_iff_getElem.1 hp j (E.length - 1) hj (by omega) q; omega
        · have : j = E.length - 1 := by omega
          subst this; omega
      have : decide (E.getD 0 0 ≤ z ∧ z < E.getD (E.length - 1) 0) = true := by rw [decide_eq_true_iff]; omega
      rw [this]
      rfl
theorem nrm_nil : nrm [] = [] := nrm_id Norm.nil
theorem mns_nil {a : List (Int × Int)} (ha : ∀ p ∈ a, ok p) : mns (nrm a) (nrm []) = nrm a := by
  obtain ⟨na, ca⟩ := nrm_norm (ok_lt ha)
  rw [nrm_nil]
  obtain ⟨nm, cm⟩ := mns_norm _ _ na Norm.nil
  refine norm_unique _ _ nm na fun x => ?_
  rw [cm, cov_nil]
  simp
theorem chk_two (a : List (Int × Int)) : chk [a, []] = chk [a] := by
  unfold chk
  simp only [List.any_cons, List.any_nil, Bool.or_false]
  rw [show big [] = false from rfl, Bool.or_false]
end Go.Proofs.Ytpdboefaedocfaa.Tm
