/- Adjudication as plain data: agreement, need and scores: no program in sight. No conditions. -/
import Derived.Test.YthjledbomonfpaaRubS
namespace Go.Proofs.Ythjledbomonfpaa.Adj
open Rub

def adjE (gap rule : Int) : Int := if gap < 0 ∨ 10 < gap then 3 else if rule = 1 ∨ rule = 2 ∨ rule = 3 then 0 else 1
def agreeE (gap rule id : Int) (ts : List Trait) (x y : List Int) : Int := if adjE gap rule = 0 then checkAllE id ts [x, y] else adjE gap rule
def agreeB (gap rule id : Int) (ts : List Trait) (x y : List Int) : Bool := if agreeE gap rule id ts x y = 0 then decide (dist (x.zip y) 0 ≤ gap) else false
def chkE (gap rule id : Int) (ts : List Trait) (ls : List (List Int)) : Int :=
  if adjE gap rule = 0 then (if validE id ts = 0 then (if 3 < ls.length then 5 else checkAllE id ts ls) else validE id ts) else adjE gap rule
def need (gap : Int) : List (List Int) → Int
  | [] => 2
  | [_] => 1
  | [x, y] => if dist (x.zip y) 0 ≤ gap then 0 else 1
  | _ => 0
def needV (gap rule id : Int) (ts : List Trait) (ls : List (List Int)) : Int := if chkE gap rule id ts ls = 0 then need gap ls else 0
def nearer (t x y : Int) : Int := if max (t - y) (y - t) < max (t - x) (x - t) then y else x
/-- The score of ratings that fit and of which none is needed any more: value and error. -/
def score (gap rule : Int) (ts : List Trait) : List (List Int) → Int × Int
  | [x, y] => (tot (ts.zip x) + tot (ts.zip y), 0)
  | [x, y, z] => if dist (x.zip y) 0 ≤ gap then (0, 21) else if rule = 1 then (2 * tot (ts.zip z), 0)
      else if rule = 2 then (tot (ts.zip z) + nearer (tot (ts.zip z)) (tot (ts.zip x)) (tot (ts.zip y)), 0) else (2 * tot (ts.zip (mids x y z)), 0)
  | _ => (0, 0)
def scoreR (gap rule id : Int) (ts : List Trait) (ls : List (List Int)) : Int × Int :=
  if chkE gap rule id ts ls = 0 then (if 0 < need gap ls then (0, 22) else score gap rule ts ls) else (0, chkE gap rule id ts ls)

theorem chk_zero {gap rule id : Int} {ts : List Trait} {ls : List (List Int)} (h : chkE gap rule id ts ls = 0) : adjE gap rule = 0 ∧ validE id ts = 0 ∧ ls.length ≤ 3 ∧ checkAllE id ts ls = 0 := by
  unfold chkE at h
  by_cases h1 : adjE gap rule = 0
  · rw [if_pos h1] at h
    by_cases h2 : validE id ts = 0
    · rw [if_pos h2] at h
      by_cases h3 : 3 < ls.length
      · rw [if_pos h3] at h; cases h
      · rw [if_neg h3] at h; exact ⟨h1, h2, by omega, h⟩
    · rw [if_neg h2] at h; exact absurd h h2
  · rw [if_neg h1] at h; exact absurd h h1
theorem chk_adj {gap rule id : Int} {ts : List Trait} {ls : List (List Int)} (h : adjE gap rule ≠ 0) : chkE gap rule id ts ls = adjE gap rule := by unfold chkE; rw [if_neg h]
theorem chk_valid {gap rule id : Int} {ts : List Trait} {ls : List (List Int)} (h : adjE gap rule = 0) (h1 : validE id ts ≠ 0) : chkE gap rule id ts ls = validE id ts := by unfold chkE; rw [if_pos h, if_neg h1]
theorem chk_long {gap rule id : Int} {ts : List Trait} {ls : List (List Int)} (h : adjE gap rule = 0) (h1 : validE id ts = 0) (h2 : 3 < ls.length) : chkE gap rule id ts ls = 5 := by unfold chkE; rw [if_pos h, if_pos h1, if_pos h2]
theorem chk_all {gap rule id : Int} {ts : List Trait} {ls : List (List Int)} (h : adjE gap rule = 0) (h1 : validE id ts = 0) (h2 : ls.length ≤ 3) : chkE gap rule id ts ls = checkAllE id ts ls := by unfold chkE; rw [if_pos h, if_pos h1, if_neg (by omega)]
theorem need_not {gap rule id : Int} {ts : List Trait} {ls : List (List Int)} (h : chkE gap rule id ts ls ≠ 0) : needV gap rule id ts ls = 0 := by unfold needV; rw [if_neg h]
theorem need_yes {gap rule id : Int} {ts : List Trait} {ls : List (List Int)} (h : chkE gap rule id ts ls = 0) : needV gap rule id ts ls = need gap ls := by unfold needV; rw [if_pos h]
theorem adj_zero {gap rule : Int} (h : adjE gap rule = 0) : 0 ≤ gap ∧ gap ≤ 10 ∧ (rule = 1 ∨ rule = 2 ∨ rule = 3) := by
  unfold adjE at h
  by_cases h1 : gap < 0 ∨ 10 < gap
  · rw [if_pos h1] at h; cases h
  · rw [if_neg h1] at h
    by_cases h2 : rule = 1 ∨ rule = 2 ∨ rule = 3
    · exact ⟨by omega, by omega, h2⟩
    · rw [if_neg h2] at h; cases h

theorem marks_mids {ts : List Trait} {a b d : List Int} (h1 : marksOk ts a = true) (h2 : marksOk ts b = true) (h3 : marksOk ts d = true) (l1 : a.length = ts.length) (l2 : b.length = ts.length) (l3 : d.length = ts.length) : marksOk ts (mids a b d) = true := by
  refine marks_yes fun j t m ht hm => ?_
  have hj : j < ts.length := by
    rcases Nat.lt_or_ge j ts.length with g | g
    · exact g
    · rw [List.getElem?_eq_none g] at ht; cases ht
  have ea := List.getElem?_eq_getElem (l := a) (i := j) (by omega)
  have eb := List.getElem?_eq_getElem (l := b) (i := j) (by omega)
  have ed := List.getElem?_eq_getElem (l := d) (i := j) (by omega)
  have e := mids_at a b d j _ _ _ ea eb ed
  rw [hm] at e
  injection e with e
  have b1 := marks_at h1 ht ea
  have b2 := marks_at h2 ht eb
  have b3 := marks_at h3 ht ed
  rw [e]
  unfold mid
  omega
theorem check_mids {id : Int} {ts : List Trait} {a b d : List Int} (h1 : checkE id ts a = 0) (h2 : checkE id ts b = 0) (h3 : checkE id ts d = 0) : checkE id ts (mids a b d) = 0 := by
  obtain ⟨v, l1, m1⟩ := check_zero h1
  obtain ⟨-, l2, m2⟩ := check_zero h2
  obtain ⟨-, l3, m3⟩ := check_zero h3
  exact check_ok v ((mids_length a b d (by omega) (by omega)).trans l1) (marks_mids m1 m2 m3 l1 l2 l3)
theorem tot_bd {id : Int} {ts : List Trait} {a : List Int} (h : checkE id ts a = 0) : 0 ≤ tot (ts.zip a) ∧ tot (ts.zip a) ≤ most ts ∧ most ts ≤ 600 := by
  obtain ⟨v, l1, m1⟩ := check_zero h
  obtain ⟨g1, g2, hall⟩ := valid_zero v
  have hw : ∀ t ∈ ts, 0 ≤ t.weight := fun t ht => by have := hall t ht; omega
  have := tot_most ts a l1 hw (fun j t x h1 h2 => marks_at m1 h1 h2)
  have h2 := most_ge ts hall
  omega
end Go.Proofs.Ythjledbomonfpaa.Adj
