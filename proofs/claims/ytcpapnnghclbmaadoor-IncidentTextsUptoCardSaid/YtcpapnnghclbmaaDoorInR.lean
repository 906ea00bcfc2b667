/- Plain laws of lines: a printed line is parsed as the incident, and a line that is parsed is what is printed of it. No conditions. -/
import Derived.Test.YtcpapnnghclbmaaDoorInL
namespace Go.Proofs.YtcpapnnghclbmaaDoor
namespace In
theorem head_app {m n : List UInt8} (h : m ≠ []) : (m ++ n).head? = m.head? := by
  cases m with
  | nil => exact absurd rfl h
  | cons a l => rfl
theorem ix_cons (b : UInt8) (l : List UInt8) (c : UInt8) : Lib.index (b :: l) [c] = if b = c then 0 else if Lib.index l [c] = -1 then -1 else Lib.index l [c] + 1 := by
  rw [Lib.index]
  by_cases h : b = c
  · subst h; simp [List.isPrefixOf]
  · rw [if_neg h]
    have hp : ([c] : List UInt8).isPrefixOf (b :: l) = false := by simp [List.isPrefixOf, Ne.symm h]
    rw [hp]
    simp
theorem ix_no {c : UInt8} : ∀ {l : List UInt8}, c ∉ l → Lib.index l [c] = -1
  | [], _ => by simp [Lib.index]
  | b :: l, h => by
    rw [ix_cons, if_neg (fun e => h (by simp [e])), ix_no (l := l) (fun e => h (by simp [e]))]
    rfl
theorem ix_hit {c : UInt8} {r : List UInt8} : ∀ {l : List UInt8}, c ∉ l → Lib.index (l ++ c :: r) [c] = (l.length : Int)
  | [], _ => by rw [List.nil_append, ix_cons, if_pos rfl]; rfl
  | b :: l, h => by
    rw [List.cons_append, ix_cons, if_neg (fun e => h (by simp [e])), ix_hit (l := l) (fun e => h (by simp [e])), if_neg (by omega)]
    simp
theorem ix_inv {c : UInt8} : ∀ {l : List UInt8}, Lib.index l [c] ≠ -1 → ∃ a r, l = a ++ c :: r ∧ c ∉ a
  | [], h => absurd (by simp [Lib.index]) h
  | b :: l, h => by
    by_cases e : b = c
    · subst e; exact ⟨[], l, rfl, by simp⟩
    · rw [ix_cons, if_neg e] at h
      by_cases e2 : Lib.index l [c] = -1
      · rw [if_pos e2] at h; exact absurd rfl h
      · obtain ⟨a, r, rfl, ha⟩ := ix_inv e2
        exact ⟨b :: a, r, rfl, by simp [ha, Ne.symm e]⟩
theorem spl_no {k : Nat} {l : List UInt8} (h : 32 ∉ l) : Lib.splitK [32] 0 k l = [l] := by
  cases k with
  | zero => rfl
  | succ k => rw [Lib.splitK, if_pos (by rw [ix_no h]; rfl)]
theorem spl_hit {k : Nat} {l r : List UInt8} (h : 32 ∉ l) : Lib.splitK [32] 0 (k + 1) (l ++ 32 :: r) = l :: Lib.splitK [32] 0 k r := by
  rw [Lib.splitK, ix_hit h, if_neg (by intro e; have := beq_iff_eq.1 e; omega)]
  have e1 : ((l.length : Int).toNat + 0) = l.length := by omega
  have e2 : ((l.length : Int).toNat + [(32 : UInt8)].length) = l.length + 1 := by simp
  rw [e1, e2]
  simp
/-- The pieces with a blank between two. -/
def glue : List (List UInt8) → List UInt8
  | [] => []
  | [a] => a
  | a :: b :: l => a ++ 32 :: glue (b :: l)
theorem spl_ne : ∀ (k : Nat) (l : List UInt8), Lib.splitK [32] 0 k l ≠ []
  | 0, _ => by simp [Lib.splitK]
  | k + 1, l => by rw [Lib.splitK]; split <;> simp
theorem glue_spl : ∀ (k : Nat) (l : List UInt8), glue (Lib.splitK [32] 0 k l) = l
  | 0, _ => rfl
  | k + 1, l => by
    by_cases h : Lib.index l [32] = -1
    · rw [Lib.splitK, if_pos (beq_iff_eq.2 h)]; rfl
    · obtain ⟨a, r, rfl, ha⟩ := ix_inv h
      rw [spl_hit ha]
      have h1 := spl_ne k r
      have h2 := glue_spl k r
      cases hc : Lib.splitK [32] 0 k r with
      | nil => exact absurd hc h1
      | cons b m => rw [hc] at h2; rw [glue, h2]
/-- The value of a numeral. -/
def vl (l : List UInt8) : Nat := l.foldl (fun n c => 10 * n + (c.toNat - 48)) 0
theorem vl_snoc (l : List UInt8) (c : UInt8) : vl (l ++ [c]) = 10 * vl l + (c.toNat - 48) := by unfold vl; rw [List.foldl_append]; rfl
theorem dig_iff {c : UInt8} : dig c = true ↔ 48 ≤ c.toNat ∧ c.toNat ≤ 57 := by unfold dig; rw [decide_eq_true_eq]; omega
theorem numF_vl (most : Int) (h0 : 0 ≤ most) (l : List UInt8) (hd : ∀ c ∈ l, dig c = true) : numF l most = min (vl l : Int) (most + 1) := by
  suffices hh : ∀ r : List UInt8, (∀ c ∈ r, dig c = true) → numF r.reverse most = min (vl r.reverse : Int) (most + 1) by
    have := hh l.reverse (fun c hc => hd c (by simpa using hc))
    simpa using this
  intro r
  induction r with
  | nil => intro _; simp [numF, vl]; omega
  | cons c r ih =>
    intro hr
    have h1 := ih (fun c hc => hr c (by simp [hc]))
    have h2 := dig_iff.1 (hr c (by simp))
    rw [List.reverse_cons, vl_snoc]
    unfold numF at h1 ⊢
    rw [List.foldl_append, h1]
    simp only [List.foldl_cons, List.foldl_nil, stepN]
    omega
theorem dec_dig : ∀ (k u : Nat), u < k → ∀ c ∈ Lib.decDigits u, dig c = true
  | 0, u, h => by omega
  | k + 1, u, h => by
    intro c hc
    rw [Lib.decDigits] at hc
    split at hc
    · simp at hc; subst hc
      rw [dig_iff]
      simp
      omega
    · rcases List.mem_append.1 hc with g | g
      · exact dec_dig k (u / 10) (by omega) c g
      · simp at g; subst g
        rw [dig_iff]
        simp
        omega
theorem dec_vl : ∀ (k u : Nat), u < k → vl (Lib.decDigits u) = u
  | 0, u, h => by omega
  | k + 1, u, h => by
    rw [Lib.decDigits]
    split
    · simp [vl]; omega
    · rw [vl_snoc, dec_vl k (u / 10) (by omega)]
      simp
      omega
theorem dec_head : ∀ (k u : Nat), u < k → Lib.decDigits u ≠ [] ∧ ((Lib.decDigits u).head? = some 48 → (Lib.decDigits u).length = 1)
  | 0, u, h => by omega
  | k + 1, u, h => by
    by_cases hu : u < 10
    · rw [Lib.decDigits_one hu]; simp
    · obtain ⟨h1, h2⟩ := dec_head k (u / 10) (by omega)
      have e : Lib.decDigits u = Lib.decDigits (u / 10) ++ [UInt8.ofNat (48 + u % 10)] := by rw [Lib.decDigits, dif_neg hu]
      have hv := dec_vl k (u / 10) (by omega)
      rw [e]
      refine ⟨by simp, fun hh => ?_⟩
      exfalso
      rw [head_app h1] at hh
      have hl := h2 hh
      match hm : Lib.decDigits (u / 10), hl with
      | [c], _ =>
        rw [hm] at hh hv
        simp at hh
        subst hh
        simp [vl] at hv
        omega
theorem dec_num (u : Nat) : isNum (Lib.decDigits u) = true := by
  obtain ⟨h1, h2⟩ := dec_head (u + 1) u (by omega)
  exact isNum_ok h1 (fun ⟨a, b⟩ => by have := h2 a; omega) (dec_dig (u + 1) u (by omega))
theorem dec_numV (u : Nat) (most : Int) (h : (u : Int) ≤ most) : numV (Lib.decDigits u) most = u := by
  unfold numV
  rw [dec_num, if_pos rfl, numF_vl most (by omega) _ (dec_dig (u + 1) u (by omega)), dec_vl (u + 1) u (by omega)]
  omega
theorem isNum_parts {l : List UInt8} (h : isNum l = true) : l ≠ [] ∧ ¬ (l.head? = some 48 ∧ 1 < l.length) ∧ ∀ c ∈ l, dig c = true := by
  unfold isNum at h
  simp only [Bool.and_eq_true, Bool.not_eq_true', Bool.and_eq_false_iff, decide_eq_false_iff_not, List.all_eq_true] at h
  obtain ⟨⟨h1, h2⟩, h3⟩ := h
  refine ⟨fun e => by rw [e] at h1; simp at h1, fun ⟨a, b⟩ => ?_, h3⟩
  rcases h2 with g | g
  · exact g a
  · exact g b
theorem vl_dec : ∀ (k : Nat) (l : List UInt8), l.length ≤ k → l ≠ [] → ¬ (l.head? = some 48 ∧ 1 < l.length) → (∀ c ∈ l, dig c = true) → Lib.decDigits (vl l) = l ∧ (1 < l.length → 10 ≤ vl l) ∧ (l.head? ≠ some 48 → 1 ≤ vl l)
  | 0, l, h, h1, _, _ => absurd (List.eq_nil_of_length_eq_zero (by omega)) h1
  | k + 1, l, h, h1, h2, h3 => by
    rcases List.eq_nil_or_concat l with rfl | ⟨m, c, rfl⟩
    · exact absurd rfl h1
    · rw [List.concat_eq_append] at *
      have hc := dig_iff.1 (h3 c (by simp))
      have hlt := c.toNat_lt
      rw [vl_snoc]
      rcases hm : m with _ | ⟨b, t⟩
      · have e : vl [] = 0 := rfl
        rw [e]
        have e2 : 10 * 0 + (c.toNat - 48) < 10 := by omega
        rw [Lib.decDigits_one e2]
        refine ⟨?_, by simp, ?_⟩
        · have : 48 + (10 * 0 + (c.toNat - 48)) = c.toNat := by omega
          rw [this]; simp
        · intro g
          simp at g
          have : c.toNat ≠ 48 := fun e => g (UInt8.toNat_inj.1 e)
          omega
      · rw [← hm]
        have hmn : m ≠ [] := by rw [hm]; simp
        have hne : m.head? ≠ some 48 := fun e => h2 ⟨by rw [head_app hmn]; exact e, by
          have : 1 ≤ m.length := by rw [hm]; simp
          simp; omega⟩
        obtain ⟨i1, i2, i3⟩ := vl_dec k m (by simp at h; omega) hmn (fun ⟨a, _⟩ => hne a) (fun x hx => h3 x (by simp [hx]))
        have i4 := i3 hne
        have e : ¬ (10 * vl m + (c.toNat - 48) < 10) := by omega
        refine ⟨?_, fun _ => by omega, fun _ => by omega⟩
        rw [Lib.decDigits, dif_neg e]
        have e1 : (10 * vl m + (c.toNat - 48)) / 10 = vl m := by omega
        have e2 : 48 + (10 * vl m + (c.toNat - 48)) % 10 = c.toNat := by omega
        rw [e1, e2, i1]
        simp
theorem num_dec {l : List UInt8} {most : Int} (h0 : 0 ≤ most) (h : isNum l = true) (hm : numV l most ≤ most) : Lib.itoa (numV l most) = l := by
  obtain ⟨h1, h2, h3⟩ := isNum_parts h
  unfold numV at hm ⊢
  rw [h, if_pos rfl, numF_vl most h0 l h3] at hm ⊢
  have e : min (vl l : Int) (most + 1) = (vl l : Int) := by omega
  rw [e, Lib.itoa_nonneg]
  exact (vl_dec l.length l (Nat.le_refl _) h1 h2 h3).1
theorem line_glue (p : Inc) : line p = glue [word p.1, [97, 116], Lib.itoa p.2.1, [108, 111, 115, 116], Lib.itoa p.2.2.1, [103, 114, 97, 118, 101], Lib.itoa p.2.2.2] := by
  simp [line, glue]
theorem pcs_data (s : ByteArray) : (pcs s).map (·.data.toList) = Lib.splitK [32] 0 7 s.data.toList := Lib.splitB_data sp 0 7 s
theorem pcs_of {s : ByteArray} {l : List (List UInt8)} (h : Lib.splitK [32] 0 7 s.data.toList = l) : pcs s = l.map str := by
  rw [← h, ← pcs_data, List.map_map]
  have e : (str ∘ fun x : ByteArray => x.data.toList) = id := by funext x; rfl
  rw [e, List.map_id]
theorem no_blank {l : List UInt8} (h : ∀ c ∈ l, dig c = true) : 32 ∉ l := fun e => by
  have := dig_iff.1 (h 32 e)
  simp at this
theorem word_blank (k : Int) : 32 ∉ word k := by
  unfold word
  repeat' split
  all_goals decide
theorem itoa_of {n : Int} (h : 0 ≤ n) : Lib.itoa n = Lib.decDigits n.toNat := by
  have := Lib.itoa_nonneg n.toNat
  rwa [Int.toNat_of_nonneg h] at this
theorem itoa_blank {n : Int} (h : 0 ≤ n) : 32 ∉ Lib.itoa n := by
  rw [itoa_of h]; exact no_blank (dec_dig (n.toNat + 1) _ (by omega))
theorem itoa_num {n : Int} (h : 0 ≤ n) : isNum (Lib.itoa n) = true := by rw [itoa_of h]; exact dec_num _
theorem itoa_numV {n most : Int} (h : 0 ≤ n) (h1 : n ≤ most) : numV (Lib.itoa n) most = n := by
  rw [itoa_of h, dec_numV _ _ (by omega)]; omega
theorem kd_word {k : Int} (h : 1 ≤ k ∧ k ≤ 6) : kd (str (word k)) = k := by
  have : k = 1 ∨ k = 2 ∨ k = 3 ∨ k = 4 ∨ k = 5 ∨ k = 6 := by omega
  rcases this with rfl | rfl | rfl | rfl | rfl | rfl
  all_goals decide
theorem kdU_inv {a : ByteArray} : ∀ {n : Nat}, kdU a n ≠ 0 → a = str (word (kdU a n))
  | 0, h => absurd rfl h
  | n + 1, h => by
    rw [kdU] at h ⊢
    by_cases e : a = str (word ((n : Int) + 1))
    · rw [if_pos e]; exact e
    · rw [if_neg e] at h ⊢; exact kdU_inv h
theorem kd_inv {a : ByteArray} (h : kd a ≠ 0) : word (kd a) = a.data.toList := by
  have := kdU_inv (a := a) (n := 6) h
  have e := congrArg (fun s : ByteArray => s.data.toList) this
  exact e.symm
/-- A printed line is parsed as the incident. -/
theorem parse_line {p : Inc} (h : vld p = 0) : parseP (pcs (str (line p))) = (p, 0) := by
  obtain ⟨h1, h2, h3, h4⟩ := vld_zero.1 h
  have e : Lib.splitK [32] 0 7 (str (line p)).data.toList = [word p.1, [97, 116], Lib.itoa p.2.1, [108, 111, 115, 116], Lib.itoa p.2.2.1, [103, 114, 97, 118, 101], Lib.itoa p.2.2.2] := by
    show Lib.splitK [32] 0 7 (line p) = _
    rw [line_glue]
    simp only [glue]
    rw [spl_hit (word_blank _), spl_hit (by decide), spl_hit (itoa_blank h2.1), spl_hit (by decide), spl_hit (itoa_blank h3.1), spl_hit (by decide), spl_no (itoa_blank h4.1)]
  rw [pcs_of e]
  simp only [List.map_cons, List.map_nil]
  have g : good7 (str (word p.1)) (str (Lib.itoa p.2.1)) (str (Lib.itoa p.2.2.1)) (str (Lib.itoa p.2.2.2)) := by
    refine ⟨?_, itoa_num h2.1, itoa_num h3.1, itoa_num h4.1⟩
    rw [kd_word h1]; omega
  have i : inc7 (str (word p.1)) (str (Lib.itoa p.2.1)) (str (Lib.itoa p.2.2.1)) (str (Lib.itoa p.2.2.2)) = p := by
    unfold inc7
    rw [kd_word h1]
    show (p.1, numV (Lib.itoa p.2.1) _, numV (Lib.itoa p.2.2.1) _, numV (Lib.itoa p.2.2.2) _) = p
    rw [itoa_numV h2.1 h2.2, itoa_numV h3.1 h3.2, itoa_numV h4.1 h4.2]
  rw [parseP, if_pos ⟨rfl, rfl, rfl⟩, if_pos g, i, if_neg (by rw [h]; simp)]
theorem parse_shape {l : List ByteArray} {r : Inc} (h : parseP l = (r, 0)) : ∃ a0 a2 a4 a6, l = [a0, AT, a2, LOST, a4, GRAVE, a6] ∧ good7 a0 a2 a4 a6 ∧ r = inc7 a0 a2 a4 a6 ∧ vld r = 0 := by
  unfold parseP at h
  split at h
  · rename_i a0 a1 a2 a3 a4 a5 a6
    by_cases c : a1 = AT ∧ a3 = LOST ∧ a5 = GRAVE
    · rw [if_pos c] at h
      by_cases g : good7 a0 a2 a4 a6
      · rw [if_pos g] at h
        by_cases v : vld (inc7 a0 a2 a4 a6) ≠ 0
        · rw [if_pos v] at h
          injection h with _ h
          exact absurd h v
        · rw [if_neg v] at h
          injection h with h _
          obtain ⟨rfl, rfl, rfl⟩ := c
          refine ⟨a0, a2, a4, a6, rfl, g, h.symm, ?_⟩
          rw [← h]; simpa using v
      · rw [if_neg g] at h; injection h with _ h; exact absurd h (by decide)
    · rw [if_neg c] at h; injection h with _ h; exact absurd h (by decide)
  · injection h with _ h; exact absurd h (by decide)
/-- A line that is parsed is what is printed of it. -/
theorem line_parse {s : ByteArray} {r : Inc} (h : parseP (pcs s) = (r, 0)) : str (line r) = s ∧ vld r = 0 := by
  obtain ⟨a0, a2, a4, a6, hp, ⟨g0, g2, g4, g6⟩, hr, hv⟩ := parse_shape h
  refine ⟨?_, hv⟩
  obtain ⟨h1, h2, h3, h4⟩ := vld_zero.1 hv
  have e := glue_spl 7 s.data.toList
  rw [← pcs_data, hp] at e
  have e2 : line r = s.data.toList := by
    rw [line_glue, ← e, hr]
    rw [hr] at h2 h3 h4
    simp only [inc7] at h2 h3 h4 ⊢
    rw [kd_inv g0, num_dec (by omega) g2 h2.2, num_dec (by omega) g4 h3.2, num_dec (by omega) g6 h4.2]
    rfl
  rw [e2]
  rfl
end In
end Go.Proofs.YtcpapnnghclbmaaDoor
