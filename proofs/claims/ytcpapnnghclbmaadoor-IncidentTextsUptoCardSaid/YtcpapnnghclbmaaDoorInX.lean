/- The reference's split: its contract; the pieces that the program looks at. Conditions: those of each theorem. -/
import Derived.Test.YtcpapnnghclbmaaDoorInR
import Derived.Test.YtcpapnnghclbmaaDoorNatB
namespace Go.Proofs.YtcpapnnghclbmaaDoor
open Go.RowKit

namespace In
/-- A text cut at its blanks. -/
def cuts : List UInt8 → List (List UInt8)
  | [] => [[]]
  | c :: l => if c = 32 then [] :: cuts l else (c :: (cuts l).headD []) :: (cuts l).tail
theorem cuts_ne (l : List UInt8) : cuts l ≠ [] := by cases l <;> simp [cuts]; split <;> simp
theorem cut_end : ∀ {l : List UInt8}, (∀ c ∈ l, c ≠ 32) → cuts l = [l]
  | [], _ => rfl
  | c :: l, h => by rw [cuts, if_neg (h c (by simp)), cut_end (fun x hx => h x (List.mem_cons_of_mem _ hx))]; rfl
theorem cut_hit : ∀ {a : List UInt8} (b : List UInt8), (∀ c ∈ a, c ≠ 32) → cuts (a ++ 32 :: b) = a :: cuts b
  | [], b, _ => by rw [List.nil_append, cuts, if_pos rfl]
  | c :: a, b, h => by rw [List.cons_append, cuts, if_neg (h c (by simp)), cut_hit b (fun x hx => h x (List.mem_cons_of_mem _ hx))]; rfl
/-- Where the reference stands at place k: the last cut at j, the pieces before it. -/
def At (l : List UInt8) (k j : Nat) (done : List (List UInt8)) : Prop :=
  (k ≤ l.length ∧ j ≤ k ∧ cuts l = done ++ cuts (l.drop j) ∧ ∀ c ∈ (l.drop j).take (k - j), c ≠ 32) ∨ (k = l.length + 1 ∧ cuts l = done)
theorem at_start (l : List UInt8) : At l 0 0 [] := Or.inl ⟨by omega, by omega, by simp, by simp⟩
theorem at_next {l : List UInt8} {k j : Nat} {done : List (List UInt8)} {c : UInt8} (h : At l k j done) (hc : l[k]? = some c) (hne : c ≠ 32) : At l (k + 1) j done := by
  have hk : k < l.length := by
    rcases Nat.lt_or_ge k l.length with g | g
    · exact g
    · rw [List.getElem?_eq_none g] at hc; cases hc
  rcases h with ⟨h1, h2, h3, h4⟩ | ⟨h1, -⟩
  · refine Or.inl ⟨by omega, by omega, h3, fun x hx => ?_⟩
    rw [show k + 1 - j = (k - j) + 1 by omega, List.take_add_one, List.getElem?_drop, show j + (k - j) = k by omega, hc] at hx
    rcases List.mem_append.1 hx with g | g
    · exact h4 x g
    · simp at g; subst g; exact hne
  · omega
theorem at_cut {l : List UInt8} {k j : Nat} {done : List (List UInt8)} (h : At l k j done) (hk : l[k]? = some 32) : cuts l = (done ++ [(l.drop j).take (k - j)]) ++ cuts (l.drop (k + 1)) ∧ At l (k + 1) (k + 1) (done ++ [(l.drop j).take (k - j)]) := by
  have hlt : k < l.length := by
    rcases Nat.lt_or_ge k l.length with g | g
    · exact g
    · rw [List.getElem?_eq_none g] at hk; cases hk
  rcases h with ⟨h1, h2, h3, h4⟩ | ⟨h1, -⟩
  · have e : l.drop j = (l.drop j).take (k - j) ++ 32 :: l.drop (k + 1) := by
      have h5 : (l.drop j).drop (k - j) = 32 :: l.drop (k + 1) := by
        rw [List.drop_drop, show j + (k - j) = k by omega, List.drop_eq_getElem_cons hlt]
        rw [List.getElem?_eq_getElem hlt] at hk
        injection hk with hk
        rw [hk]
      rw [← h5, List.take_append_drop]
    have h6 : cuts (l.drop j) = (l.drop j).take (k - j) :: cuts (l.drop (k + 1)) := by
      rw [e, cut_hit _ h4]
      congr 1
      rw [← e]
    have h7 : cuts l = (done ++ [(l.drop j).take (k - j)]) ++ cuts (l.drop (k + 1)) := by rw [h3, h6]; simp
    exact ⟨h7, Or.inl ⟨by omega, by omega, h7, by simp⟩⟩
  · omega
theorem at_last {l : List UInt8} {j : Nat} {done : List (List UInt8)} (h : At l l.length j done) : cuts l = done ++ [(l.drop j).take (l.length - j)] ∧ At l (l.length + 1) (l.length + 1) (done ++ [(l.drop j).take (l.length - j)]) := by
  rcases h with ⟨h1, h2, h3, h4⟩ | ⟨h1, -⟩
  · have e : (l.drop j).take (l.length - j) = l.drop j := List.take_of_length_le (by rw [List.length_drop]; omega)
    rw [e] at h4
    have h7 : cuts l = done ++ [(l.drop j).take (l.length - j)] := by rw [h3, e, cut_end h4]
    exact ⟨h7, Or.inr ⟨rfl, h7⟩⟩
  · omega
theorem ix_split : ∀ {l : List UInt8}, 32 ∈ l → ∃ a r, l = a ++ 32 :: r ∧ 32 ∉ a
  | c :: l, h => by
    by_cases e : c = 32
    · subst e; exact ⟨[], l, rfl, by simp⟩
    · rcases List.mem_cons.1 h with g | g
      · exact absurd g.symm e
      · obtain ⟨a, r, rfl, ha⟩ := ix_split g
        exact ⟨c :: a, r, rfl, by simp [ha, Ne.symm e]⟩
theorem cuts_seven {k : Nat} : ∀ (l : List UInt8), (cuts l).length ≤ k + 1 → Lib.splitK [32] 0 k l = cuts l := by
  induction k with
  | zero =>
    intro l h
    have h32 : 32 ∉ l := fun e => by
      have hne : Lib.index l [32] ≠ -1 := fun e2 => by
        obtain ⟨a, r, rfl, ha⟩ := ix_split e
        rw [ix_hit ha] at e2
        omega
      obtain ⟨a, r, rfl, ha⟩ := ix_inv hne
      rw [cut_hit r (fun c hc e => ha (by rw [← e]; exact hc))] at h
      have h0 : (cuts r).length = 0 := by rw [List.length_cons] at h; omega
      exact cuts_ne r (List.eq_nil_of_length_eq_zero h0)
    rw [spl_no h32, cut_end (fun c hc e => h32 (by rw [← e]; exact hc))]
  | succ k ih =>
    intro l h
    by_cases e : Lib.index l [32] = -1
    · have h32 : 32 ∉ l := fun e3 => by
        obtain ⟨a, r, rfl, ha⟩ := ix_split e3
        rw [ix_hit ha] at e
        omega
      rw [spl_no h32, cut_end (fun c hc e => h32 (by rw [← e]; exact hc))]
    · obtain ⟨a, r, rfl, ha⟩ := ix_inv e
      rw [cut_hit r (fun c hc e => ha (by rw [← e]; exact hc))] at h ⊢
      rw [spl_hit ha, ih r (by simp at h; omega)]
theorem cuts_more {k : Nat} : ∀ (l : List UInt8), k + 1 < (cuts l).length → (Lib.splitK [32] 0 k l).length = k + 1 := by
  induction k with
  | zero => intro l _; rfl
  | succ k ih =>
    intro l h
    by_cases e : Lib.index l [32] = -1
    · have h32 : 32 ∉ l := fun e3 => by
        obtain ⟨a, r, rfl, ha⟩ := ix_split e3
        rw [ix_hit ha] at e
        omega
      rw [cut_end (fun c hc e => h32 (by rw [← e]; exact hc))] at h
      simp at h
    · obtain ⟨a, r, rfl, ha⟩ := ix_inv e
      rw [cut_hit r (fun c hc e => ha (by rw [← e]; exact hc))] at h
      rw [spl_hit ha, List.length_cons, ih r (by simp at h; omega)]
/-- All pieces. -/
def all (s : ByteArray) : List ByteArray := (cuts s.data.toList).map str
theorem all_pcs (s : ByteArray) : parseP (pcs s) = parseP (all s) := by
  rcases Nat.lt_or_ge 8 (cuts s.data.toList).length with h | h
  · rw [parseP_len, parseP_len]
    · unfold all; rw [List.length_map]; omega
    · have := cuts_more (k := 7) _ h
      rw [← pcs_data, List.length_map] at this
      rw [this]; decide
  · rw [pcs_of (cuts_seven (k := 7) _ h)]; rfl
theorem cuts_le : ∀ l : List UInt8, (cuts l).length ≤ l.length + 1
  | [] => Nat.le_refl _
  | c :: l => by
    have := cuts_le l
    have h2 : 0 < (cuts l).length := List.length_pos_iff.2 (cuts_ne l)
    unfold cuts
    split
    · simp; omega
    · simp; omega
theorem ext_piece (s : ByteArray) (j k : Nat) : s.extract j k = str ((s.data.toList.drop j).take (k - j)) := by
  have : (s.extract j k).data.toList = (s.data.toList.drop j).take (k - j) := by
    rw [ByteArray.data_extract, Array.toList_extract, List.extract_eq_take_drop]
  rw [← this]; rfl
end In
def strs (l : List ByteArray) : List Value := l.map .string
theorem strs_flat (l : List ByteArray) : strs l = (l.map fun x => [Value.string x]).flatten := by
  unfold strs
  induction l with
  | nil => rfl
  | cons a l ih => simp [ih]
theorem SlS.of_own {w : World} {base : Nat} {e : TypeId} {v : Value} {n : Nat} {l : List ByteArray} (hl : l.length = n) (h : w.ownsRow base e 1 v n (strs l)) : ∃ A c, v = .slice A n c ∧ n ≤ c ∧ c ≤ maxLen ∧ SlS w A l := by
  have e1 : strs l = (l.map fun x => [Value.string x]).flatten := by
    exact strs_flat l
  rw [e1] at h
  obtain ⟨A, c, h1, h2, h3, h4⟩ := Sl.of_own (k := 1) (fun c hc => by obtain ⟨x, -, rfl⟩ := List.mem_map.1 hc; rfl) (by simpa using hl) h
  rw [List.length_map, hl] at h1 h2
  exact ⟨A, c, h1, h2, h3, h4⟩

theorem own_zero8 (w : World) (e : TypeId) (size : Nat) : (w.alloc (.cells #[] e)).ownsRow w.heap.size e size (.slice (some ⟨w.heap.size, 0, none⟩) 0 0) 0 [] :=
  ⟨by simp, Or.inr ⟨w.heap.size, 0, #[], rfl, Nat.le_refl _, heap_alloc_new _ _, Nat.le_refl _, Nat.zero_le _, by simp, by simp⟩⟩
set_option maxRecDepth 100000 in
set_option maxHeartbeats 3200000 in
theorem rsplit_any (s : ByteArray) (hs : s.size ≤ 1048576) {ps : List ByteArray} {m : Nat} (hp : In.all s = ps) (hm : ps.length = m) (w : World) :
    Calls Tryd.prog 44 #[.string s] w fun e w' => ∃ g c, e = .returned (.slice (some ⟨g, 0, none⟩) m c) ∧ SlS w' (some ⟨g, 0, none⟩) ps ∧ g < w'.heap.size ∧ Ext w w' := by
  have HP := Lib.hid hp
  have HM := Lib.hid hm
  clear hp hm
  obtain ⟨i0, hi0, hz0, hz1, hz2⟩ := info_parts Tryd.infoStr
  go_enter Tryd.func44, Tryd.ntmps44
  go_wp2
  go_loopw [3, 4, 5] (fun o f i wr => ∃ (k j q : Nat) (done : List (List UInt8)) (O : Option Addr) (oc : Nat), k ≤ s.size ∧ j ≤ k ∧ i = .int .i64 k ∧ f = .int .i64 j ∧ o = .slice O q oc ∧ done.length = q ∧ q ≤ j ∧ wr.ownsRow w.heap.size 9 1 (.slice O q oc) q (strs (done.map In.str)) ∧ In.At s.data.toList k j done ∧ Ext w wr) (fun _ _ i _ => s.size - (intOf i).toNat)
  case atStart => exact ⟨0, 0, 0, [], some ⟨w.heap.size, 0, none⟩, 0, Nat.zero_le _, Nat.le_refl _, rfl, rfl, rfl, rfl, Nat.le_refl _, own_zero8 _ _ _, In.at_start _, (Ext.refl _).alloc _⟩
  case round =>
    obtain ⟨k, j, q, done, O, oc, hk, hj, rfl, rfl, rfl, hdl, hqj, hown, hat, he⟩ := hrel
    have HDL := Lib.hid hdl
    have HOWN := Lib.hid hown
    have HAT := Lib.hid hat
    clear hdl hown hat
    by_cases hlt : k < s.size
    · have ki0 : (0 : Int) ≤ (k : Int) := by omega
      have ki1 : (k : Int) < (s.size : Int) := by omega
      have HB := Lib.hid (byte_at s k hlt)
      obtain ⟨b, hbb⟩ : ∃ b, s[k] = b := ⟨_, rfl⟩
      rw [hbb] at HB
      by_cases hb : b = 32
      · have hb1 : (((s[k]).toNat : Int) == 32) = true := by rw [hbb, hb]; rfl
        have HPC : Hid (s.extract j k = In.str ((s.data.toList.drop j).take (k - j))) := Lib.hid (In.ext_piece s j k)
        have HA2 := Lib.hid (In.at_cut HAT.out (by rw [HB.out, hb])).2
        have ji0 : (0 : Int) ≤ (j : Int) := by omega
        have ji1 : (j : Int) ≤ (k : Int) := by omega
        have ji2 : (k : Int) ≤ (s.size : Int) := by omega
        have hwk : IntKind.i64.wrap ((k : Int) + 1) = (k : Int) + 1 := IntWalk.i64_in _ (by omega)
        clear hb hbb
        have hsr := he.size
        go_wp2_with (at_builtin; refine wpList_app rfl _ _ 56 rfl w.heap.size 9 i0 (.string ByteArray.empty) 1 16 Tryd.underlying56 hi0 hz0 hz1 hz2 rfl (by decide) (.slice O q oc) q (strs (done.map In.str)) rfl (own_ext HOWN.out ((Ext.refl _).alloc _)) (some ⟨wr.heap.size, 0, none⟩) 1 1 [[.string (s.extract j k)]] rfl rfl (Sl.new wr [.string (s.extract j k)] _) (fun c hc => by simp at hc; rw [hc]; rfl) (fun c hc u hu => by simp at hc; rw [hc] at hu; simp at hu; rw [hu]; rfl) (by unfold maxLen; omega) (by omega) (by simp; omega) ?_; intro O' oc' w3 hown3 hgr3)
        have HO3 : Hid (w3.ownsRow w.heap.size 9 1 (.slice O' (q + 1) oc') (q + 1) (strs ((done ++ [(s.data.toList.drop j).take (k - j)]).map In.str))) := Lib.hid (by
          have e : strs ((done ++ [(s.data.toList.drop j).take (k - j)]).map In.str) = strs (done.map In.str) ++ [[Value.string (s.extract j k)]].flatten := by
            rw [HPC.out]; unfold strs; simp
          rw [e]; exact hown3)
        have hb3 : Ext w w3 := (he.alloc _).grown hgr3 (fun q hq => own_ge HOWN.out q hq)
        clear hown3 hgr3
        go_wp2
        go_roundw
        case rel => exact ⟨k + 1, k + 1, q + 1, done ++ [(s.data.toList.drop j).take (k - j)], O', oc', by omega, Nat.le_refl _, by go_num, by go_num, rfl, by rw [List.length_append, HDL.out]; rfl, by omega, HO3.out, HA2.out, hb3⟩
        case measure => simp [intOf]; omega
      · have hb1 : (((s[k]).toNat : Int) == 32) = false := by
          rw [hbb, beq_eq_false_iff_ne]
          intro e
          exact hb (UInt8.toNat_inj.1 (by have : b.toNat = 32 := by omega
                                          rw [this]; rfl))
        have HA2 := Lib.hid (In.at_next HAT.out HB.out hb)
        clear hb hbb
        go_wp2
        go_roundw
        case rel => exact ⟨k + 1, j, q, done, O, oc, by omega, by omega, by go_num, rfl, rfl, HDL.out, hqj, HOWN.out, HA2.out, he⟩
        case measure => simp [intOf]; omega
    · obtain rfl : k = s.size := by omega
      have HPC : Hid (s.extract j s.size = In.str ((s.data.toList.drop j).take (s.size - j))) := Lib.hid (In.ext_piece s j s.size)
      have HA2 := Lib.hid (In.at_last (l := s.data.toList) HAT.out).1
      have ji0 : (0 : Int) ≤ (j : Int) := by omega
      have ji1 : (j : Int) ≤ (s.size : Int) := by omega
      have hsr := he.size
      go_wp2_with (at_builtin; refine wpList_app rfl _ _ 56 rfl w.heap.size 9 i0 (.string ByteArray.empty) 1 16 Tryd.underlying56 hi0 hz0 hz1 hz2 rfl (by decide) (.slice O q oc) q (strs (done.map In.str)) rfl (own_ext HOWN.out ((Ext.refl _).alloc _)) (some ⟨wr.heap.size, 0, none⟩) 1 1 [[.string (s.extract j s.size)]] rfl rfl (Sl.new wr [.string (s.extract j s.size)] _) (fun c hc => by simp at hc; rw [hc]; rfl) (fun c hc u hu => by simp at hc; rw [hc] at hu; simp at hu; rw [hu]; rfl) (by unfold maxLen; omega) (by omega) (by simp; omega) ?_; intro O' oc' w3 hown3 hgr3)
      have HPS : Hid (ps = (done ++ [(s.data.toList.drop j).take (s.size - j)]).map In.str) := Lib.hid (by
        rw [← HP.out]; unfold In.all; rw [HA2.out]; rfl)
      have HQM : Hid (q + 1 = m) := Lib.hid (by rw [← HM.out, HPS.out, List.length_map, List.length_append, HDL.out]; rfl)
      have hO3 : w3.ownsRow w.heap.size 9 1 (.slice O' (q + 1) oc') (q + 1) (strs ps) := by
        have e : strs ps = strs (done.map In.str) ++ [[Value.string (s.extract j s.size)]].flatten := by
          rw [HPC.out, HPS.out]; unfold strs; simp
        rw [e]; exact hown3
      have hb3 : Ext w w3 := (he.alloc _).grown hgr3 (fun q hq => own_ge HOWN.out q hq)
      obtain ⟨A', c', e1, -, -, hsl⟩ := SlS.of_own (by rw [HM.out, HQM.out]) hO3
      injection e1 with e1 _ e3
      subst e1 e3
      obtain ⟨g, rfl, hgw⟩ : ∃ g, O' = some ⟨g, 0, none⟩ ∧ g < w3.heap.size := by
        rcases hO3.2 with ⟨-, e⟩ | ⟨g, cap, cur, e, h2, -⟩
        · omega
        · injection e with e _ _
          exact ⟨g, e, own_lt hO3 g (by rw [e]; rfl)⟩
      have HSL := Lib.hid hsl
      clear hown3 hgr3 hO3 hsl
      go_wp2
      go_ret
      exact ⟨g, ⟨oc', congrArg (fun n => Ending.returned (.slice (some ⟨g, 0, none⟩) n oc')) HQM.out⟩, HSL.out, hgw, hb3⟩
end Go.Proofs.YtcpapnnghclbmaaDoor
