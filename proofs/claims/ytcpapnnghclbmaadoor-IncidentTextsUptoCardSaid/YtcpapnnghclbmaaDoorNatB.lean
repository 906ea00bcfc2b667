/- Big numbers of the reference: Of, short, Print: contracts. Conditions: those of each theorem. -/
import Derived.Test.YtcpapnnghclbmaaDoorNatA
import Derived.Test.YtcpapnnghclbmaaDoorApp
namespace Go.Proofs.YtcpapnnghclbmaaDoor
open Go.ChangeShapes Go.WideShapes Go.ChangeAt Go.RowKit

set_option maxRecDepth 100000 in
set_option maxHeartbeats 3200000 in
theorem of_any (n : Nat) (hn : n < 18446744073709551616) {ys : List Nat} {m : Nat} (hy : Na.nrm [n % 4294967296, n / 4294967296] = ys) (hm : ys.length = m) (w : World) :
    Calls Tryd.prog 53 #[.int .u64 (n : Int)] w fun e w' => ∃ b, e = .returned (.slice (some ⟨b, 0, none⟩) m m) ∧ w.heap.size ≤ b ∧ SlU w' (some ⟨b, 0, none⟩) ys ∧ Ext w w' := by
  have HY := Lib.hid hy
  have HM := Lib.hid hm
  clear hy hm
  go_enter Tryd.func53, Tryd.ntmps53
  have e1 : ((n : Int) % 4294967296) = ((n % 4294967296 : Nat) : Int) := by omega
  have e2 : ((n : Int) / 4294967296) = ((n / 4294967296 : Nat) : Int) := by omega
  have HSL : Hid (SlU (w.alloc (.cells #[.int .u32 ((n : Int) % 4294967296), .int .u32 ((n : Int) / 4294967296)] 81)) (some ⟨w.heap.size, 0, none⟩) [n % 4294967296, n / 4294967296]) := Lib.hid (by
    rw [e1, e2]
    exact SlU.of_heap (t := 81) (fr := (0, 0)) (heap_alloc_new _ _))
  clear e1 e2
  go_wp2_with fail
  with_reducible refine (norm_any (some ⟨w.heap.size, 0, none⟩) 2 [n % 4294967296, n / 4294967296] 2 rfl HY.out HM.out _ HSL.out (by omega)).mono ?_
  rintro e w1 ⟨b, rfl, hb, hS, hb1⟩
  have HS := Lib.hid hS
  clear hS
  go_wp2
  go_ret
  simp at hb
  exact ⟨b, rfl, by omega, HS.out, ((Ext.refl w).alloc _).trans hb1⟩

theorem cast_div (q x d : Nat) : ((q : Int) * 4294967296 + (x : Int)) / (d : Int) = (((q * 4294967296 + x) / d : Nat) : Int) := by
  have e : ((q * 4294967296 + x : Nat) : Int) = (q : Int) * 4294967296 + (x : Int) := by omega
  rw [← e]
  exact (Int.natCast_ediv _ _).symm
theorem cast_mod (q x d : Nat) : ((q : Int) * 4294967296 + (x : Int)) % (d : Int) = (((q * 4294967296 + x) % d : Nat) : Int) := by
  have e : ((q * 4294967296 + x : Nat) : Int) = (q : Int) * 4294967296 + (x : Int) := by omega
  rw [← e]
  exact (Int.natCast_emod _ _).symm
theorem slU_row {w : World} {g : Nat} {t : TypeId} {n : Nat} {f : Nat → Value} {xs : List Nat} (h : w.rowIs g t n f) (hl : xs.length = n) (hf : ∀ (j x : Nat), xs[j]? = some x → f j = .int .u32 (x : Int)) : SlU w (some ⟨g, 0, none⟩) xs := by
  rcases Nat.eq_zero_or_pos n with h0 | h0
  · subst h0
    rw [List.eq_nil_of_length_eq_zero hl]
    exact SlU.nil _ _
  · refine Or.inr ⟨g, 0, rfl, h.lt, fun i cs hi j v hv => ?_⟩
    rw [List.getElem?_map] at hi
    obtain ⟨x, hx, rfl⟩ := Option.map_eq_some_iff.1 hi
    have hj : j = 0 := by
      rcases Nat.eq_zero_or_pos j with e | e
      · exact e
      · rw [List.getElem?_eq_none (by simp; omega)] at hv; cases hv
    subst hj
    simp at hv
    subst hv
    have hi' : i < n := by
      rcases Nat.lt_or_ge i xs.length with e | e
      · omega
      · rw [List.getElem?_eq_none e] at hx; cases hx
    have := h.cell (i := i) hi'
    rw [hf i x hx] at this
    simpa using this
theorem wpList_app {P : Program} {w : World} {ops : Array Oper} {rest : List Oper} {o : Oper} {a : Act} {Q : Exit → Act → World → Prop} (hgd : o.guard = none) (s x : Operand) (t : TypeId)
    (ho : o.op = .call { callee := .builtin .append, args := #[s, x], argTypes := #[t, t] })
    (base : Nat) (e : TypeId) (i : TypeInfo) (z : Value) (size bytes : Nat) (ht : P.underlying t = some (.slice e)) (hi : P.info? e = some i) (hz : i.zero = some z)
    (hsize : i.size = size) (hby : i.bytes = bytes) (hzs : z.cells.size = size) (hsz : 0 < size)
    (v : Value) (n : Nat) (xs : List Value) (hs : a.eval s = v) (hown : w.ownsRow base e size v n xs)
    (A : Option Addr) (c m : Nat) (xss : List (List Value)) (hm : xss.length = m) (hx : a.eval x = .slice A m c) (hr : Sl w size A xss) (hk : ∀ c ∈ xss, c.length = size) (h1 : ∀ c ∈ xss, ∀ u ∈ c, u.oneCell' = true)
    (h63 : n + m ≤ maxLen) (hbytes : (n + m) * bytes ≤ 140737488355328) (hbase : base ≤ w.heap.size)
    (h : ∀ A' c' w', w'.ownsRow base e size (.slice A' (n + m) c') (n + m) (xs ++ xss.flatten) → w.grownBy w' v.ownBlock → wpList P ops Q rest (a.put o.dst (.slice A' (n + m) c')) w') : wpList P ops Q (o :: rest) a w := by
  subst hm
  obtain ⟨v', w', hrun, hown', hgr, -⟩ := run_append_sl w base t o.type e i z size bytes ht hi hz hsize hby hzs hsz v n xs hown A c xss hr hk h1 h63 hbytes hbase
  obtain ⟨A', c', rfl⟩ := own_form hown'
  refine wpList_plain hgd fun K hK => ?_
  unfold Oper.wp
  rw [exec_append ho hs hx hrun]
  exact hK _ _ (h A' c' w' hown' hgr)
theorem Sl.grown {w w' : World} {k b off : Nat} {xs : List (List Value)} {row : Option Nat} (h : Sl w k (some ⟨b, off, none⟩) xs) (hg : w.grownBy w' row) (hne : some b ≠ row) : Sl w' k (some ⟨b, off, none⟩) xs := by
  rcases h with h | ⟨b', off', hA, hb, hc⟩
  · exact Or.inl h
  · injection hA with hA
    injection hA with e1 e2
    subst e1 e2
    refine Or.inr ⟨b, off, rfl, Nat.lt_of_lt_of_le hb hg.size, fun i cs hi j v hv => ?_⟩
    rw [World.cell?_of_block (hg.block b hb hne)]
    exact hc i cs hi j v hv
namespace Na
theorem quo_step {d : Nat} {xs : List Nat} {k x : Nat} (h : xs[k]? = some x) : quo d (xs.drop k) = (((quo d (xs.drop (k + 1))).2 * 4294967296 + x) / d :: (quo d (xs.drop (k + 1))).1, ((quo d (xs.drop (k + 1))).2 * 4294967296 + x) % d) := by
  obtain ⟨hk, rfl⟩ := List.getElem?_eq_some_iff.1 h
  rw [List.drop_eq_getElem_cons hk, quo]
end Na
set_option maxRecDepth 100000 in
set_option maxHeartbeats 3200000 in
theorem short_any (A : Option Addr) (c : Nat) (xs : List Nat) (n : Nat) (hn : xs.length = n) (d : Nat) (hd0 : 0 < d) (hd1 : d ≤ 4294967296) {ys : List Nat} {m r : Nat} (hy : Na.nrm (Na.quo d xs).1 = ys) (hm : ys.length = m) (hr : (Na.quo d xs).2 = r) (w : World) (h : SlU w A xs) (hx : ∀ x ∈ xs, x < 4294967296) (hb : n ≤ 1000) :
    Calls Tryd.prog 68 #[.slice A n c, .int .u64 (d : Int)] w fun e w' => ∃ b, e = .returned (.tuple #[.slice (some ⟨b, 0, none⟩) m m, .int .u64 (r : Int)]) ∧ w.heap.size ≤ b ∧ SlU w' (some ⟨b, 0, none⟩) ys ∧ Ext w w' := by
  have H := Lib.hid h
  have HN := Lib.hid hn
  have HY := Lib.hid hy
  have HM := Lib.hid hm
  have HR := Lib.hid hr
  have HX := Lib.hid hx
  clear h hn hy hm hr hx
  have hmk := run_make_row' (P := Tryd.prog) 69 81 (.int .u32 0) 4 Tryd.underlying69 Tryd.infoU32 rfl .i64 .i64 n (by omega) (by omega)
  have hwn : IntKind.i64.wrap ((n : Int) - 1) = (n : Int) - 1 := IntWalk.i64_in _ (by omega)
  go_enter Tryd.func68, Tryd.ntmps68
  go_wp2
  go_loopw [7, 8] (fun t i wr => ∃ k : Nat, k ≤ n ∧ i = .int .i64 ((k : Int) - 1) ∧ t = .int .u64 (((Na.quo d (xs.drop k)).2 : Nat) : Int) ∧ wr.rowIs w.heap.size 81 n (fun j => .int .u32 (((if k ≤ j then (Na.quo d (xs.drop k)).1.getD (j - k) 0 else 0 : Nat)) : Int)) ∧ Ext w wr) (fun _ i _ => (intOf i + 1).toNat)
  case atStart =>
    refine ⟨n, Nat.le_refl _, rfl, by rw [List.drop_eq_nil_of_le (by rw [HN.out]; exact Nat.le_refl _)]; rfl, (World.rowIs_made w (.int .u32 0) n 81).congr (fun i hi => by rw [if_neg (by omega)]; rfl), (Ext.refl _).alloc _⟩
  case round =>
    obtain ⟨k, hk, rfl, rfl, hrow, he⟩ := hrel
    have HW := Lib.hid hrow
    by_cases hk0 : k = 0
    · subst hk0
      have HSL : Hid (SlU wr (some ⟨w.heap.size, 0, none⟩) (Na.quo d xs).1) := Lib.hid (by
        have hr2 := HW.out
        rw [List.drop_zero] at hr2
        exact slU_row hr2 (by rw [Na.quo_len, HN.out]) (fun j x hx => by rw [if_pos (Nat.zero_le _), Nat.sub_zero, List.getD_eq_getElem?_getD, hx]; rfl))
      have HQL : Hid ((Na.quo d xs).1.length = n) := Lib.hid (by rw [Na.quo_len, HN.out])
      have hq0 : (((Na.quo d (xs.drop 0)).2 : Nat) : Int) = (r : Int) := by rw [List.drop_zero, HR.out]
      rw [hq0]
      have k0 : ¬ (0 : Int) ≤ ((0 : Nat) : Int) - 1 := by omega
      clear hrow hq0
      go_wp2_with fail
      with_reducible refine (norm_any (some ⟨w.heap.size, 0, none⟩) n (Na.quo d xs).1 n HQL.out HY.out HM.out _ HSL.out hb).mono ?_
      rintro e w1 ⟨b, rfl, hbb, hS, hb1⟩
      have HS := Lib.hid hS
      clear hS
      go_wp2
      go_ret2
      exact ⟨b, rfl, Nat.le_trans he.size hbb, HS.out, he.trans hb1⟩
    · obtain ⟨x, hx⟩ : ∃ v, xs[k - 1]? = some v := ⟨xs[k - 1]'(by rw [HN.out]; omega), List.getElem?_eq_getElem _⟩
      have hxl : x < 4294967296 := HX.out x (List.mem_of_getElem? hx)
      have hq := Na.quo_step (d := d) hx
      rw [show k - 1 + 1 = k by omega] at hq
      have hql := Na.quo_lt hd0 (xs.drop k)
      obtain ⟨q, hqq⟩ : ∃ q, (Na.quo d (xs.drop k)).2 = q := ⟨_, rfl⟩
      rw [hqq] at hq hql ⊢
      have HQ := Lib.hid hq
      have HQQ := Lib.hid hqq
      obtain ⟨gb, go, rfl, hgb, x0⟩ := (H.out.ext he).at_ hx
      have kj0 : (0 : Int) ≤ (k : Int) - 1 := by omega
      have kj1 : (k : Int) - 1 < (n : Int) := by omega
      have e1 : ((k : Int) - 1).toNat = k - 1 := by omega
      have ck := hrow.cell (i := k - 1) (by omega)
      have fk := hrow.frozen (k - 1)
      have zlt := hrow.lt
      clear hx hq hqq hrow
      go_wp2
      go_roundw
      case rel =>
        have hXd : (q * 4294967296 + x) / d < 4294967296 := by
          rw [Nat.div_lt_iff_lt_mul hd0]
          have : q + 1 ≤ d := hql
          have := Nat.mul_le_mul_right 4294967296 this
          rw [Nat.mul_comm 4294967296 d]
          omega
        have eq1 : ((q : Int) * 4294967296 + (x : Int)) / (d : Int) % 4294967296 = (((q * 4294967296 + x) / d : Nat) : Int) := by
          rw [cast_div]
          generalize (q * 4294967296 + x) / d = X at *
          omega
        have eq2 := cast_mod q x d
        refine ⟨k - 1, by omega, ?_, ?_, ?_, he.setCell (Nat.le_refl _) _⟩
        · congr 1; omega
        · rw [HQ.out, eq2]
        · rw [HQ.out, eq1]
          refine (HW.out.set (k - 1) _).congr (fun j hj => ?_)
          simp only
          by_cases hjk : j = k - 1
          · subst hjk
            rw [if_pos rfl, if_pos (Nat.le_refl _), Nat.sub_self]
            rfl
          · rw [if_neg hjk]
            rcases Nat.lt_or_ge j k with g | g
            · rw [if_neg (by omega), if_neg (by omega)]
            · rw [if_pos g, if_pos (by omega), show j - (k - 1) = (j - k) + 1 by omega, List.getD_cons_succ]
      case measure => simp [intOf]; omega
end Go.Proofs.YtcpapnnghclbmaaDoor
