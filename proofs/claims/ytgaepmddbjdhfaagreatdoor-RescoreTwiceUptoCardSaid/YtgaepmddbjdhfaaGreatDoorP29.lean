/- Plain laws of rescoring: local changes, changes one after the other, scoring again, the order of steps. No conditions. Plain laws of rescoring: changes one after the other; the order of steps. No conditions. -/
import Derived.Test.YtgaepmddbjdhfaaGreatDoorP27
import Derived.Test.YtgaepmddbjdhfaaGreatDoorP18
namespace Go.Proofs.YtgaepmddbjdhfaaGreatDoor
namespace Rs
theorem fnd_id {its : List It.Item} {id : Int} {k : Nat} {x : It.Item} (h : fnd its id = some k) (hx : its[k]? = some x) : x.id = id := by
  obtain ⟨y, hy, e⟩ := fnd_at h
  rw [hx] at hy
  cases hy
  exact e
theorem upd_ids (its : List It.Item) (c : It.Item) : (upd its c).map (·.id) = its.map (·.id) := by
  unfold upd
  cases h : fnd its c.id with
  | none => rfl
  | some k =>
    obtain ⟨x, hx, e⟩ := fnd_at h
    simp only
    rw [List.map_set]
    apply List.ext_getElem?
    intro i
    rw [List.getElem?_set]
    by_cases hi : k = i
    · subst hi
      have hk := (List.getElem?_eq_some_iff.1 hx).1
      rw [if_pos rfl, List.length_map, if_pos hk, List.getElem?_map, hx]
      simp [e]
    · rw [if_neg hi]
/-- What changes leave: an item that differs is named by a change. -/
theorem app_keeps : ∀ {cs its ys : List It.Item}, app its cs = (0, ys) → ys.map (·.id) = its.map (·.id) ∧ ∀ (k : Nat) (x y : It.Item), its[k]? = some x → ys[k]? = some y → x ≠ y → ∃ c ∈ cs, c.id = x.id
  | [], its, ys, h => by
    rw [app_nil] at h
    cases h
    exact ⟨rfl, fun k x y hx hy hn => absurd (Option.some.inj (hx.symm.trans hy)) hn⟩
  | c :: cs, its, ys, h => by
    have h0 : chgE its c = 0 := by
      by_cases g : chgE its c = 0
      · exact g
      · unfold app at h
        rw [List.foldl_cons, show app1 (0, its) c = (chgE its c, []) by unfold app1; rw [if_neg (by simp), if_pos g], fold_stuck g] at h
        exact absurd (congrArg Prod.fst h) g
    have h1 : app (upd its c) cs = (0, ys) := by
      unfold app at h ⊢
      rwa [List.foldl_cons, show app1 (0, its) c = (0, upd its c) by unfold app1; rw [if_neg (by simp), if_neg (by simpa using h0)]] at h
    obtain ⟨ih1, ih2⟩ := app_keeps h1
    refine ⟨ih1.trans (upd_ids its c), fun k x y hx hy hn => ?_⟩
    have hu : (upd its c)[k]?.isSome = true := by
      have := (List.getElem?_eq_some_iff.1 hx).1
      rw [List.getElem?_eq_getElem (by rw [upd_len]; exact this)]
      rfl
    obtain ⟨z, hz⟩ := Option.isSome_iff_exists.1 hu
    have hid : z.id = x.id := by
      have := congrArg (fun l : List Int => l[k]?) (upd_ids its c)
      simp only [List.getElem?_map, hz, hx, Option.map_some] at this
      exact Option.some.inj this
    by_cases hxz : x = z
    · subst hxz
      obtain ⟨d, hd, e⟩ := ih2 k x y hz hy hn
      exact ⟨d, List.mem_cons_of_mem _ hd, e⟩
    · refine ⟨c, List.mem_cons_self .., ?_⟩
      unfold upd at hz
      cases hf : fnd its c.id with
      | none =>
        rw [hf] at hz
        exact absurd (Option.some.inj (hx.symm.trans hz)) hxz
      | some j =>
        rw [hf] at hz
        simp only at hz
        rw [List.getElem?_set] at hz
        by_cases hj : j = k
        · subst hj
          exact (fnd_id hf hx).symm
        · rw [if_neg hj] at hz
          exact absurd (Option.some.inj (hx.symm.trans hz)) hxz
theorem itmE_parts {its : List It.Item} {l : List Chg} (h : itmE its l = 0) : chkI its = 0 ∧ l.length ≤ 50 ∧ timO (l.map (·.2)) = true ∧ app its (l.map (·.1)) = (0, itmL its l) := by
  have h' := h
  unfold itmE at h
  by_cases h1 : chkI its = 0
  · rw [if_neg (by simpa using h1)] at h
    by_cases h2 : 50 < l.length
    · rw [if_pos h2] at h; exact absurd h (by decide)
    · rw [if_neg h2] at h
      cases h3 : timO (l.map (·.2)) with
      | false => rw [h3, if_pos rfl] at h; exact absurd h (by decide)
      | true =>
        rw [h3, if_neg (by decide)] at h
        refine ⟨h1, by omega, rfl, ?_⟩
        unfold itmL
        rw [if_neg (by simpa using h')]
        exact Prod.ext h rfl
  · rw [if_pos h1] at h; exact absurd h h1
theorem itmL_bad {its : List It.Item} {l : List Chg} (h : itmE its l ≠ 0) : itmL its l = [] := by unfold itmL; rw [if_pos h]
theorem stsE_parts {its : List It.Item} {an : List Ans} {ss : List Stp} (h : stsE its an ss = 0) : ss.length ≤ 18 ∧ an.length = ss.length ∧ chkI its = 0 ∧ (∀ i, i < ss.length → stpA its an ss i = 0) ∧ stsL its an ss = stsV its an ss := by
  have h' := h
  unfold stsE at h
  by_cases h0 : 18 < ss.length
  · rw [if_pos h0] at h; exact absurd h (by decide)
  rw [if_neg h0] at h
  by_cases h1 : an.length = ss.length
  · rw [if_neg (by simpa using h1)] at h
    by_cases h2 : chkI its = 0
    · rw [if_neg (by simpa using h2)] at h
      exact ⟨by omega, h1, h2, fstN_zero.1 h, by unfold stsL; rw [if_neg (by simpa using h')]⟩
    · rw [if_pos h2] at h; exact absurd h h2
  · rw [if_pos h1] at h; exact absurd h (by decide)
theorem stsV_at {its : List It.Item} {an : List Ans} {ss : List Stp} {i : Nat} {a : Ans} {s : Stp} (ha : an[i]? = some a) (hs : ss[i]? = some s) : (stsV its an ss)[i]? = some (stpV its a s) := by
  unfold stsV
  rw [List.getElem?_zipWith, ha, hs]
theorem stsV_len {its : List It.Item} {an : List Ans} {ss : List Stp} (h : an.length = ss.length) : (stsV its an ss).length = ss.length := by
  unfold stsV
  rw [List.length_zipWith, h, Nat.min_self]
/-- What a step in order says. -/
theorem stpE_zero {its : List It.Item} {a : Ans} {s : Stp} (h : stpE its a s = 0) : ∃ k x, fnd its s.1 = some k ∧ its[k]? = some x ∧ a.item = s.1 ∧ scE x a = 0 ∧ stpV its a s = (s.1, sc x a) := by
  cases hf : fnd its s.1 with
  | none => rw [stpE_none hf] at h; exact absurd h (by decide)
  | some k =>
    by_cases ha : a.item = s.1
    · obtain ⟨x, hx, -⟩ := fnd_at hf
      rw [stpE_some hf ha hx] at h
      exact ⟨k, x, rfl, hx, ha, h, stpV_some hf hx⟩
    · rw [stpE_not hf ha] at h; exact absurd h (by decide)
theorem chdE_zero {a b : List Stp} (hl : a.length = b.length) (h : ∀ i, i < a.length → itA a i = itA b i) : chdE a b = 0 := by
  unfold chdE
  rw [if_neg (by simpa using hl), fstN_zero]
  intro i hi
  unfold chdA
  rw [if_pos (h i hi)]
theorem chdL_eq {a b : List Stp} (h : chdE a b = 0) : chdL a b = chdV a b a.length := by unfold chdL; rw [if_neg (by simpa using h)]
theorem chdV_mem {a b : List Stp} {n : Nat} {c : Int} : c ∈ chdV a b n ↔ ∃ i : Nat, c = (i : Int) ∧ i < n ∧ ctA a i ≠ ctA b i := by
  unfold chdV
  simp only [List.mem_map, List.mem_filter, List.mem_range, decide_eq_true_eq]
  constructor
  · rintro ⟨i, ⟨h1, h2⟩, rfl⟩; exact ⟨i, rfl, h1, h2⟩
  · rintro ⟨i, rfl, h1, h2⟩; exact ⟨i, ⟨h1, h2⟩, rfl⟩
theorem chdV_none {a b : List Stp} {n : Nat} : chdV a b n = [] ↔ ∀ i, i < n → ctA a i = ctA b i := by
  constructor
  · intro h i hi
    by_cases e : ctA a i = ctA b i
    · exact e
    · have : (i : Int) ∈ chdV a b n := chdV_mem.2 ⟨i, rfl, hi, e⟩
      rw [h] at this
      cases this
  · intro h
    cases e : chdV a b n with
    | nil => rfl
    | cons c l =>
      obtain ⟨i, -, hi, hn⟩ := chdV_mem.1 (show c ∈ chdV a b n by rw [e]; exact List.mem_cons_self ..)
      exact absurd (h i hi) hn
theorem itA_at {a : List Stp} {i : Nat} {s : Stp} (h : a[i]? = some s) : itA a i = s.1 := by unfold itA; rw [h]
theorem ctA_at {a : List Stp} {i : Nat} {s : Stp} (h : a[i]? = some s) : ctA a i = s.2 := by unfold ctA; rw [h]
/-- One place of two scored lists: the item found, both scores. -/
theorem two_at {b c : List It.Item} {an : List Ans} {ss : List Stp} (hb : stsE b an ss = 0) (hc : stsE c an ss = 0) (hi : c.map (·.id) = b.map (·.id)) {i : Nat} (h : i < ss.length) :
    ∃ (a : Ans) (s : Stp) (k : Nat) (x y : It.Item), an[i]? = some a ∧ ss[i]? = some s ∧ fnd b a.item = some k ∧ b[k]? = some x ∧ c[k]? = some y ∧ a.item = s.1 ∧ scE x a = 0 ∧ scE y a = 0 ∧ (stsV b an ss)[i]? = some (s.1, sc x a) ∧ (stsV c an ss)[i]? = some (s.1, sc y a) := by
  obtain ⟨-, hl, -, pb, -⟩ := stsE_parts hb
  obtain ⟨-, -, -, pc, -⟩ := stsE_parts hc
  have ha : an[i]? = some (an[i]'(by omega)) := List.getElem?_eq_getElem _
  have hs : ss[i]? = some ss[i] := List.getElem?_eq_getElem _
  have qb := pb i h
  have qc := pc i h
  rw [stpA_at ha hs] at qb qc
  obtain ⟨k, x, f1, x1, e1, z1, v1⟩ := stpE_zero qb
  obtain ⟨j, y, f2, y1, -, z2, v2⟩ := stpE_zero qc
  rw [fnd_ids hi, f1] at f2
  cases f2
  exact ⟨_, _, k, x, y, ha, hs, by rw [e1]; exact f1, x1, y1, e1, z1, z2, by rw [stsV_at ha hs, v1], by rw [stsV_at ha hs, v2]⟩
/-- The law of local changes. -/
theorem local_law {its : List It.Item} {l : List Chg} {an : List Ans} {ss : List Stp} (h : itmE its l = 0) (hb : stsE its an ss = 0) (hc : stsE (itmL its l) an ss = 0) :
    chdE (stsL its an ss) (stsL (itmL its l) an ss) = 0 ∧ afE its (itmL its l) = 0 ∧ afV its (itmL its l) an = decide (0 < (chdL (stsL its an ss) (stsL (itmL its l) an ss)).length) ∧
    ∀ c ∈ chdL (stsL its an ss) (stsL (itmL its l) an ss), ∃ (i : Nat) (s : Stp) (k : Nat) (x : Chg), c = (i : Int) ∧ ss[i]? = some s ∧ l[k]? = some x ∧ x.1.id = s.1 := by
  obtain ⟨-, -, -, hap⟩ := itmE_parts h
  obtain ⟨hids, hkeep⟩ := app_keeps hap
  obtain ⟨-, hl, k1, -, v1⟩ := stsE_parts hb
  obtain ⟨-, -, k2, -, v2⟩ := stsE_parts hc
  generalize itmL its l = af at *
  have two := fun i hi => two_at hb hc hids (i := i) hi
  have hlen1 := stsV_len (its := its) hl
  have hlen2 := stsV_len (its := af) hl
  have e0 : chdE (stsL its an ss) (stsL af an ss) = 0 := by
    rw [v1, v2]
    refine chdE_zero (by rw [hlen1, hlen2]) fun i hi => ?_
    obtain ⟨a, s, k, x, y, -, -, -, -, -, -, -, -, q1, q2⟩ := two i (by omega)
    rw [itA_at q1, itA_at q2]
  have ea : afE its af = 0 := by
    unfold afE
    rw [if_neg (by simpa using k1), if_neg (by simpa using k2), if_pos hids.symm]
  refine ⟨e0, ea, ?_, ?_⟩
  · rw [chdL_eq e0, v1, v2, hlen1]
    unfold afV
    rw [if_neg (by simpa using ea)]
    by_cases hn : chdV (stsV its an ss) (stsV af an ss) ss.length = []
    · rw [hn]
      simp only [List.length_nil, Nat.lt_irrefl, decide_false]
      rw [List.any_eq_false]
      intro a ha
      obtain ⟨i, hi, rfl⟩ := List.mem_iff_getElem.1 ha
      obtain ⟨a, s, k, x, y, p1, p2, p3, p4, p5, p6, p7, p8, q1, q2⟩ := two i (by omega)
      rw [List.getElem?_eq_getElem hi] at p1
      obtain rfl := Option.some.inj p1
      have := chdV_none.1 hn i (by omega)
      rw [ctA_at q1, ctA_at q2] at this
      rw [afA_some p3 p4 p5]
      unfold dfs
      simp only at this
      simp [p7, p8, this]
    · have hp : 0 < (chdV (stsV its an ss) (stsV af an ss) ss.length).length := List.length_pos_iff.2 hn
      rw [decide_eq_true hp, List.any_eq_true]
      obtain ⟨c, hm⟩ := List.exists_mem_of_ne_nil _ hn
      obtain ⟨i, rfl, hi, hd⟩ := chdV_mem.1 hm
      obtain ⟨a, s, k, x, y, p1, p2, p3, p4, p5, p6, p7, p8, q1, q2⟩ := two i hi
      rw [ctA_at q1, ctA_at q2] at hd
      refine ⟨a, List.mem_of_getElem? p1, ?_⟩
      rw [afA_some p3 p4 p5]
      unfold dfs
      simp only at hd
      simp [p7, p8, hd]
  · intro c hm
    rw [chdL_eq e0, v1, v2, hlen1] at hm
    obtain ⟨i, rfl, hi, hd⟩ := chdV_mem.1 hm
    obtain ⟨a, s, k, x, y, p1, p2, p3, p4, p5, p6, p7, p8, q1, q2⟩ := two i hi
    rw [ctA_at q1, ctA_at q2] at hd
    have hxy : x ≠ y := fun e => hd (by rw [e])
    obtain ⟨d, hd1, hd2⟩ := hkeep k x y p4 p5 hxy
    obtain ⟨e, he1, rfl⟩ := List.mem_map.1 hd1
    obtain ⟨j, hj, rfl⟩ := List.mem_iff_getElem.1 he1
    exact ⟨i, s, j, _, rfl, p2, List.getElem?_eq_getElem hj, by rw [hd2, fnd_id p3 p4, p6]⟩
theorem ids_self (a : List Stp) (n : Nat) : chdV a a n = [] := chdV_none.2 fun _ _ => rfl
theorem chdE_self (a : List Stp) : chdE a a = 0 := chdE_zero rfl fun _ _ => rfl
theorem chdL_self (a : List Stp) : chdL a a = [] := by rw [chdL_eq (chdE_self a), ids_self]
/-- The law of scoring again. -/
theorem again_law {its : List It.Item} {an : List Ans} {ss : List Stp} (h : stsE its an ss = 0) :
    stsE its an (stsL its an ss) = 0 ∧ stsL its an (stsL its an ss) = stsL its an ss ∧ afE its its = 0 ∧ afV its its an = false := by
  obtain ⟨h18, hl, k1, ps, v1⟩ := stsE_parts h
  have two := fun i hi => two_at h h rfl (i := i) hi
  have hlen := stsV_len (its := its) hl
  have ea : afE its its = 0 := by
    unfold afE
    rw [if_neg (by simpa using k1), if_neg (by simpa using k1), if_pos rfl]
  have e1 : stsE its an (stsV its an ss) = 0 := by
    unfold stsE
    rw [hlen, if_neg (by omega), if_neg (by simpa using hl), if_neg (by simpa using k1), fstN_zero]
    intro i hi
    obtain ⟨a, s, k, x, y, p1, p2, p3, p4, p5, p6, p7, p8, q1, q2⟩ := two i hi
    rw [stpA_at p1 q1, stpE_some (s := (s.1, sc x a)) (k := k) (it := x) (by rw [← p6]; exact p3) p6 p4, p7]
  refine ⟨by rw [v1]; exact e1, ?_, ea, ?_⟩
  · obtain ⟨-, -, -, -, v2⟩ := stsE_parts e1
    rw [v1, v2]
    apply List.ext_getElem?
    intro i
    by_cases hi : i < ss.length
    · obtain ⟨a, s, k, x, y, p1, p2, p3, p4, p5, p6, p7, p8, q1, q2⟩ := two i hi
      rw [stsV_at p1 q1, q1, stpV_some (s := (s.1, sc x a)) (k := k) (it := x) (by rw [← p6]; exact p3) p4]
    · rw [List.getElem?_eq_none (by rw [stsV_len (by rw [hlen]; exact hl), hlen]; omega), List.getElem?_eq_none (by rw [hlen]; omega)]
  · unfold afV
    rw [if_neg (by simpa using ea), List.any_eq_false]
    intro a ha
    unfold afA
    cases hf : fnd its a.item with
    | none => simp
    | some k =>
      simp only
      cases hx : its[k]? with
      | none => simp
      | some x => simp [dfs]
end Rs
end Go.Proofs.YtgaepmddbjdhfaaGreatDoor
namespace Go.Proofs.YtgaepmddbjdhfaaGreatDoor
namespace Rs
theorem fitE_vld {o c : It.Item} (h : fitE o c = 0) : It.vld c = 0 := by
  unfold fitE at h
  by_cases g : It.vld c = 0
  · exact g
  · rw [if_pos g] at h; exact h
theorem chgE_vld {its : List It.Item} {c : It.Item} (h : chgE its c = 0) : It.vld c = 0 := by
  cases hf : fnd its c.id with
  | none => rw [chgE_none hf] at h; exact absurd h (by decide)
  | some k =>
    obtain ⟨x, hx, -⟩ := fnd_at hf
    rw [chgE_some hf hx] at h
    exact fitE_vld h
theorem app_mem : ∀ {cs its ys : List It.Item}, app its cs = (0, ys) → (∀ x ∈ its, It.vld x = 0) → ∀ y ∈ ys, It.vld y = 0
  | [], its, ys, h, hv => by
    rw [app_nil] at h
    cases h
    exact hv
  | c :: cs, its, ys, h, hv => by
    have h0 : chgE its c = 0 := by
      by_cases g : chgE its c = 0
      · exact g
      · unfold app at h
        rw [List.foldl_cons, show app1 (0, its) c = (chgE its c, []) by unfold app1; rw [if_neg (by simp), if_pos g], fold_stuck g] at h
        exact absurd (congrArg Prod.fst h) g
    have h1 : app (upd its c) cs = (0, ys) := by
      unfold app at h ⊢
      rwa [List.foldl_cons, show app1 (0, its) c = (0, upd its c) by unfold app1; rw [if_neg (by simp), if_neg (by simpa using h0)]] at h
    refine app_mem h1 fun x hx => ?_
    unfold upd at hx
    cases hf : fnd its c.id with
    | none => rw [hf] at hx; exact hv x hx
    | some j =>
      rw [hf] at hx
      rcases List.mem_or_eq_of_mem_set hx with g | g
      · exact hv x g
      · rw [g]; exact chgE_vld h0
theorem chkI_of {its : List It.Item} (h1 : its.length ≤ 60) (h2 : ordI its = true) (h3 : ∀ x ∈ its, It.vld x = 0) : chkI its = 0 := by
  unfold chkI
  rw [if_neg (by omega), if_neg (by rw [h2]; decide), fstN_zero]
  intro i hi
  rw [vldAt_at (List.getElem?_eq_getElem hi)]
  exact h3 _ (List.getElem_mem hi)
theorem idAt_ids {a b : List It.Item} (h : a.map (·.id) = b.map (·.id)) (i : Nat) : idAt a i = idAt b i := by
  have := congrArg (fun l : List Int => l[i]?) h
  simp only [List.getElem?_map] at this
  unfold idAt
  cases ha : a[i]? with
  | none =>
    rw [ha] at this
    cases hb : b[i]? with
    | none => rfl
    | some y => rw [hb] at this; cases this
  | some x =>
    rw [ha] at this
    cases hb : b[i]? with
    | none => rw [hb] at this; cases this
    | some y => rw [hb] at this; exact Option.some.inj this
theorem ordI_ids {a b : List It.Item} (h : a.map (·.id) = b.map (·.id)) : ordI a = ordI b := by
  have hl : a.length = b.length := by simpa using congrArg List.length h
  unfold ordI
  rw [hl]
  refine It.allN_congr fun i _ => ?_
  unfold ordA
  rw [idAt_ids h, idAt_ids h]
theorem chkI_app {its ys cs : List It.Item} (h : chkI its = 0) (ha : app its cs = (0, ys)) : chkI ys = 0 := by
  obtain ⟨hid, -⟩ := app_keeps ha
  have hl : ys.length = its.length := by simpa using congrArg List.length hid
  exact chkI_of (by rw [hl]; exact chkI_few h) (by rw [ordI_ids hid]; exact chkI_ord h) (app_mem ha fun x hx => chkI_vld h hx)
theorem timO_iff {ts : List Int} : timO ts = true ↔ ∀ (i : Nat) (x y : Int), ts[i]? = some x → ts[i + 1]? = some y → x ≤ y := by
  unfold timO
  rw [It.allN_iff]
  constructor
  · intro h i x y hx hy
    have := h (i + 1) (List.getElem?_eq_some_iff.1 hy).1
    unfold timA at this
    simp only [Nat.add_sub_cancel, List.getD_eq_getElem?_getD, hx, hy, Option.getD_some] at this
    simpa using this
  · intro h i hi
    unfold timA
    cases i with
    | zero => simp
    | succ i =>
      have h1 : ts[i]? = some ts[i] := List.getElem?_eq_getElem (by omega)
      have h2 : ts[i + 1]? = some ts[i + 1] := List.getElem?_eq_getElem hi
      simp only [Nat.add_sub_cancel, List.getD_eq_getElem?_getD, h1, h2, Option.getD_some]
      simpa using h i _ _ h1 h2
theorem timO_fall {a b : List Int} {x y : Int} (ha : a.getLast? = some x) (hb : b.head? = some y) (h : y < x) : timO (a ++ b) = false := by
  cases e : timO (a ++ b) with
  | false => rfl
  | true =>
    rw [timO_iff] at e
    have hn : a ≠ [] := by intro g; rw [g] at ha; cases ha
    have hp : 0 < a.length := List.length_pos_iff.2 hn
    rw [List.getLast?_eq_getElem?] at ha
    have h1 : (a ++ b)[a.length - 1]? = some x := by rw [List.getElem?_append_left (by omega)]; exact ha
    have h2 : (a ++ b)[a.length - 1 + 1]? = some y := by
      rw [show a.length - 1 + 1 = a.length by omega, List.getElem?_append_right (Nat.le_refl _), Nat.sub_self, ← hb, List.head?_eq_getElem?]
    have := e _ _ _ h1 h2
    omega
theorem timO_join {a b : List Int} (ha : timO a = true) (hj : ∀ x y, a.getLast? = some x → b.head? = some y → x ≤ y) : timO (a ++ b) = timO b := by
  have h2 : timO (a ++ b) = true ↔ timO b = true := by
    rw [timO_iff] at ha
    rw [timO_iff, timO_iff]
    constructor
    · intro h i x y hx hy
      exact h (a.length + i) x y (by rw [List.getElem?_append_right (by omega), Nat.add_sub_cancel_left]; exact hx) (by rw [Nat.add_assoc, List.getElem?_append_right (by omega), Nat.add_sub_cancel_left]; exact hy)
    · intro h i x y hx hy
      rcases Nat.lt_or_ge (i + 1) a.length with g | g
      · rw [List.getElem?_append_left (by omega)] at hx
        rw [List.getElem?_append_left g] at hy
        exact ha i x y hx hy
      · rw [List.getElem?_append_right g] at hy
        rcases Nat.lt_or_ge i a.length with g2 | g2
        · rw [List.getElem?_append_left g2] at hx
          refine hj x y ?_ ?_
          · rw [List.getLast?_eq_getElem?, show a.length - 1 = i by omega]; exact hx
          · rw [List.head?_eq_getElem?, ← hy, show i + 1 - a.length = 0 by omega]
        · rw [List.getElem?_append_right g2] at hx
          exact h (i - a.length) x y hx (by rw [← hy, show i + 1 - a.length = i - a.length + 1 by omega])
  cases e1 : timO (a ++ b) with
  | true => exact (h2.1 e1).symm
  | false =>
    cases e2 : timO b with
    | false => rfl
    | true => rw [h2.2 e2] at e1; cases e1
/-- The law of changes one after the other. -/
theorem twice_none {its : List It.Item} (h : itmE its [] = 0) : itmL its [] = its := by
  obtain ⟨-, -, -, h1⟩ := itmE_parts h
  exact (congrArg Prod.snd h1).symm
theorem twice_many {its : List It.Item} {l : List Chg} (h : itmE its [] = 0) (hl : 50 < l.length) : itmE its l = 5 := by
  obtain ⟨h1, -⟩ := itmE_parts h
  unfold itmE
  rw [if_neg (by simpa using h1), if_pos hl]
theorem twice_fall {its : List It.Item} {a b : List Chg} {x y : Chg} (h : itmE its [] = 0) (hl : (a ++ b).length ≤ 50) (ha : a.getLast? = some x) (hb : b.head? = some y) (hxy : y.2 < x.2) : itmE its (a ++ b) = 15 := by
  obtain ⟨h1, -⟩ := itmE_parts h
  unfold itmE
  rw [if_neg (by simpa using h1), if_neg (by omega), List.map_append, timO_fall (x := x.2) (y := y.2) (by rw [List.getLast?_map, ha]; rfl) (by rw [List.head?_map, hb]; rfl) hxy, if_pos rfl]
theorem twice_join {its : List It.Item} {a b : List Chg} (h : itmE its a = 0) (hl : (a ++ b).length ≤ 50) (hj : ∀ x y : Chg, a.getLast? = some x → b.head? = some y → x.2 ≤ y.2) : itmE (itmL its a) b = itmE its (a ++ b) ∧ itmL (itmL its a) b = itmL its (a ++ b) := by
  obtain ⟨h1, -, ht, hap⟩ := itmE_parts h
  have hc := chkI_app h1 hap
  generalize itmL its a = xs at *
  have hb50 : b.length ≤ 50 := by rw [List.length_append] at hl; omega
  have hT : timO ((a ++ b).map (·.2)) = timO (b.map (·.2)) := by
    rw [List.map_append]
    refine timO_join ht fun x y hx hy => ?_
    rw [List.getLast?_map] at hx
    rw [List.head?_map] at hy
    cases ga : a.getLast? with
    | none => rw [ga] at hx; cases hx
    | some p =>
      cases gb : b.head? with
      | none => rw [gb] at hy; cases hy
      | some q =>
        rw [ga] at hx
        rw [gb] at hy
        cases hx
        cases hy
        exact hj p q ga gb
  have hA : app its ((a ++ b).map (·.1)) = app xs (b.map (·.1)) := by
    rw [List.map_append, app_split, hap]
    rfl
  have hE : itmE xs b = itmE its (a ++ b) := by
    unfold itmE
    rw [if_neg (show ¬ chkI xs ≠ 0 by simpa using hc), if_neg (show ¬ chkI its ≠ 0 by simpa using h1), if_neg (show ¬ 50 < b.length by omega), if_neg (show ¬ 50 < (a ++ b).length by omega), hT, hA]
  refine ⟨hE, ?_⟩
  unfold itmL
  rw [hE, hA]
end Rs
namespace Rw
/-- The law of the order of steps. -/
theorem order_law {pt pr : List Int} {p : List PItem} {ss ts : List Rs.Stp} (hp : ss.Perm ts) (h : wgtE pt pr p ss = 0) : wgtE pt pr p ts = 0 ∧ wgtV pt pr p ts = wgtV pt pr p ss ∧ gridE pt pr = 0 ∧ wgtE pt pr p [] = 0 ∧ wgtV pt pr p [] = prior pr := by
  have h' := h
  unfold wgtE at h
  by_cases h1 : gridE pt pr = 0
  · rw [if_neg (by simpa using h1)] at h
    by_cases h2 : poolE p pt.length = 0
    · rw [if_neg (by simpa using h2)] at h
      by_cases h3 : 18 < ss.length
      · rw [if_pos h3] at h; exact absurd h (by decide)
      · rw [if_neg h3] at h
        have hu := updN_perm (w := prior pr) hp h
        have e1 : wgtE pt pr p ts = 0 := by
          unfold wgtE
          rw [if_neg (by simpa using h1), if_neg (by simpa using h2), if_neg (by rw [← hp.length_eq]; exact h3), hu]
          exact h
        have e2 : wgtE pt pr p [] = 0 := by
          unfold wgtE
          rw [if_neg (by simpa using h1), if_neg (by simpa using h2), if_neg (by simp)]
          rfl
        refine ⟨e1, ?_, h1, e2, ?_⟩
        · unfold wgtV
          rw [if_pos e1, if_pos h', hu]
        · unfold wgtV
          rw [if_pos e2]
          rfl
    · rw [if_pos h2] at h; exact absurd h h2
  · rw [if_pos h1] at h; exact absurd h h1
end Rw
end Go.Proofs.YtgaepmddbjdhfaaGreatDoor
