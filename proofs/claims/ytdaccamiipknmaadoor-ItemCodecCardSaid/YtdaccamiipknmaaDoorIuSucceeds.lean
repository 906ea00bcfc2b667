/- ItemSucceeds: for all items the law returns true. Conditions: the library's variable and the package's names lie as the row says. -/
import Derived.Test.YtdaccamiipknmaaDoorIuH
import Derived.Test.YtdaccamiipknmaaDoorStc
import Derived.Test.YtdaccamiipknmaaDoorIuO
namespace Go.Proofs.YtdaccamiipknmaaDoor
open Go.ChangeShapes Go.WideShapes Go.ChangeAt Go.RowKit Go.Shelf

namespace It
def hasN (l : List ByteArray) (s : ByteArray) : Bool := l.any fun x => eqB x s
theorem eqB_comm (a b : ByteArray) : eqB a b = eqB b a := by unfold eqB; rw [Bool.eq_iff_iff]; simp [eq_comm]
theorem eqS_comm (a b : List ByteArray) : eqS a b = eqS b a := by unfold eqS; rw [Bool.eq_iff_iff]; simp [eq_comm]
theorem eqI_comm (a b : List Int) : eqI a b = eqI b a := by unfold eqI; rw [Bool.eq_iff_iff]; simp [eq_comm]
theorem eqB_self (a : ByteArray) : eqB a a = true := decide_eq_true rfl
theorem eqS_self (a : List ByteArray) : eqS a a = true := decide_eq_true rfl
theorem eqI_self (a : List Int) : eqI a a = true := decide_eq_true rfl
theorem nei_comm (a b : Int) : (a != b) = (b != a) := by rw [Bool.eq_iff_iff, bne_iff_ne, bne_iff_ne]; exact ne_comm
theorem pairs_comm (a b : Item) : pairs b a = pairs a b := by
  unfold pairs
  rw [nei_comm b.id a.id, nei_comm b.ver a.ver, nei_comm b.kind a.kind, eqB_comm b.stem a.stem, eqS_comm b.opts a.opts, eqI_comm b.chs a.chs, nei_comm b.value a.value, nei_comm b.tol a.tol, eqS_comm b.texts a.texts, nei_comm b.pts a.pts, eqB_comm b.cont a.cont, nei_comm b.fam a.fam, nei_comm b.set_ a.set_, nei_comm b.wrd a.wrd, nei_comm b.sec a.sec, eqI_comm b.assets a.assets, nei_comm b.rub a.rub]
theorem diff_comm (a b : Item) : diff b a = diff a b := by unfold diff; rw [pairs_comm]
theorem diff_self (a : Item) : diff a a = [] := by
  unfold diff
  have h : pairs a a = [(false, ⟨#[73, 100]⟩), (false, ⟨#[86, 101, 114, 115, 105, 111, 110]⟩), (false, ⟨#[75, 105, 110, 100]⟩), (false, ⟨#[83, 116, 101, 109]⟩), (false, ⟨#[79, 112, 116, 105, 111, 110, 115]⟩), (false, ⟨#[67, 104, 111, 105, 99, 101, 115]⟩), (false, ⟨#[86, 97, 108, 117, 101]⟩), (false, ⟨#[84, 111, 108]⟩), (false, ⟨#[84, 101, 120, 116, 115]⟩), (false, ⟨#[80, 111, 105, 110, 116, 115]⟩), (false, ⟨#[67, 111, 110, 116, 101, 110, 116]⟩), (false, ⟨#[70, 97, 109, 105, 108, 121]⟩), (false, ⟨#[83, 101, 116]⟩), (false, ⟨#[87, 111, 114, 100, 115]⟩), (false, ⟨#[83, 101, 99, 111, 110, 100, 115]⟩), (false, ⟨#[65, 115, 115, 101, 116, 115]⟩), (false, ⟨#[82, 117, 98, 114, 105, 99]⟩)] := by
    unfold pairs
    simp only [bne_self_eq_false, eqB_self, eqS_self, eqI_self, Bool.not_true]
  rw [h]; rfl
theorem major_comm (a b : Item) : major b a = major a b := by unfold major; rw [diff_comm]
theorem has_ver (a b : Item) : hasN (diff a b) ⟨#[86, 101, 114, 115, 105, 111, 110]⟩ = (a.ver != b.ver) := by
  unfold hasN diff
  rw [foldN_any]
  have hm : eqB ⟨#[73, 100]⟩ ⟨#[86, 101, 114, 115, 105, 111, 110]⟩ = false ∧ eqB ⟨#[86, 101, 114, 115, 105, 111, 110]⟩ ⟨#[86, 101, 114, 115, 105, 111, 110]⟩ = true ∧ eqB ⟨#[75, 105, 110, 100]⟩ ⟨#[86, 101, 114, 115, 105, 111, 110]⟩ = false ∧ eqB ⟨#[83, 116, 101, 109]⟩ ⟨#[86, 101, 114, 115, 105, 111, 110]⟩ = false ∧ eqB ⟨#[79, 112, 116, 105, 111, 110, 115]⟩ ⟨#[86, 101, 114, 115, 105, 111, 110]⟩ = false ∧ eqB ⟨#[67, 104, 111, 105, 99, 101, 115]⟩ ⟨#[86, 101, 114, 115, 105, 111, 110]⟩ = false ∧ eqB ⟨#[86, 97, 108, 117, 101]⟩ ⟨#[86, 101, 114, 115, 105, 111, 110]⟩ = false ∧ eqB ⟨#[84, 111, 108]⟩ ⟨#[86, 101, 114, 115, 105, 111, 110]⟩ = false ∧ eqB ⟨#[84, 101, 120, 116, 115]⟩ ⟨#[86, 101, 114, 115, 105, 111, 110]⟩ = false ∧ eqB ⟨#[80, 111, 105, 110, 116, 115]⟩ ⟨#[86, 101, 114, 115, 105, 111, 110]⟩ = false ∧ eqB ⟨#[67, 111, 110, 116, 101, 110, 116]⟩ ⟨#[86, 101, 114, 115, 105, 111, 110]⟩ = false ∧ eqB ⟨#[70, 97, 109, 105, 108, 121]⟩ ⟨#[86, 101, 114, 115, 105, 111, 110]⟩ = false ∧ eqB ⟨#[83, 101, 116]⟩ ⟨#[86, 101, 114, 115, 105, 111, 110]⟩ = false ∧ eqB ⟨#[87, 111, 114, 100, 115]⟩ ⟨#[86, 101, 114, 115, 105, 111, 110]⟩ = false ∧ eqB ⟨#[83, 101, 99, 111, 110, 100, 115]⟩ ⟨#[86, 101, 114, 115, 105, 111, 110]⟩ = false ∧ eqB ⟨#[65, 115, 115, 101, 116, 115]⟩ ⟨#[86, 101, 114, 115, 105, 111, 110]⟩ = false ∧ eqB ⟨#[82, 117, 98, 114, 105, 99]⟩ ⟨#[86, 101, 114, 115, 105, 111, 110]⟩ = false := by decide
  obtain ⟨m0, m1, m2, m3, m4, m5, m6, m7, m8, m9, m10, m11, m12, m13, m14, m15, m16⟩ := hm
  simp only [pairs, List.any_cons, List.any_nil, m0, m1, m2, m3, m4, m5, m6, m7, m8, m9, m10, m11, m12, m13, m14, m15, m16, Bool.and_true, Bool.and_false, Bool.or_false, Bool.false_or]
theorem has_id (a b : Item) : hasN (diff a b) ⟨#[73, 100]⟩ = (a.id != b.id) := by
  unfold hasN diff
  rw [foldN_any]
  have hm : eqB ⟨#[73, 100]⟩ ⟨#[73, 100]⟩ = true ∧ eqB ⟨#[86, 101, 114, 115, 105, 111, 110]⟩ ⟨#[73, 100]⟩ = false ∧ eqB ⟨#[75, 105, 110, 100]⟩ ⟨#[73, 100]⟩ = false ∧ eqB ⟨#[83, 116, 101, 109]⟩ ⟨#[73, 100]⟩ = false ∧ eqB ⟨#[79, 112, 116, 105, 111, 110, 115]⟩ ⟨#[73, 100]⟩ = false ∧ eqB ⟨#[67, 104, 111, 105, 99, 101, 115]⟩ ⟨#[73, 100]⟩ = false ∧ eqB ⟨#[86, 97, 108, 117, 101]⟩ ⟨#[73, 100]⟩ = false ∧ eqB ⟨#[84, 111, 108]⟩ ⟨#[73, 100]⟩ = false ∧ eqB ⟨#[84, 101, 120, 116, 115]⟩ ⟨#[73, 100]⟩ = false ∧ eqB ⟨#[80, 111, 105, 110, 116, 115]⟩ ⟨#[73, 100]⟩ = false ∧ eqB ⟨#[67, 111, 110, 116, 101, 110, 116]⟩ ⟨#[73, 100]⟩ = false ∧ eqB ⟨#[70, 97, 109, 105, 108, 121]⟩ ⟨#[73, 100]⟩ = false ∧ eqB ⟨#[83, 101, 116]⟩ ⟨#[73, 100]⟩ = false ∧ eqB ⟨#[87, 111, 114, 100, 115]⟩ ⟨#[73, 100]⟩ = false ∧ eqB ⟨#[83, 101, 99, 111, 110, 100, 115]⟩ ⟨#[73, 100]⟩ = false ∧ eqB ⟨#[65, 115, 115, 101, 116, 115]⟩ ⟨#[73, 100]⟩ = false ∧ eqB ⟨#[82, 117, 98, 114, 105, 99]⟩ ⟨#[73, 100]⟩ = false := by decide
  obtain ⟨m0, m1, m2, m3, m4, m5, m6, m7, m8, m9, m10, m11, m12, m13, m14, m15, m16⟩ := hm
  simp only [pairs, List.any_cons, List.any_nil, m0, m1, m2, m3, m4, m5, m6, m7, m8, m9, m10, m11, m12, m13, m14, m15, m16, Bool.and_true, Bool.and_false, Bool.or_false]
def majNames : List ByteArray := [⟨#[75, 105, 110, 100]⟩, ⟨#[83, 116, 101, 109]⟩, ⟨#[79, 112, 116, 105, 111, 110, 115]⟩, ⟨#[67, 104, 111, 105, 99, 101, 115]⟩, ⟨#[86, 97, 108, 117, 101]⟩, ⟨#[84, 111, 108]⟩, ⟨#[84, 101, 120, 116, 115]⟩, ⟨#[80, 111, 105, 110, 116, 115]⟩, ⟨#[82, 117, 98, 114, 105, 99]⟩]
theorem major_names (a b : Item) : majNames.any (hasN (diff a b)) = major a b := by
  unfold major
  generalize diff a b = l
  rw [Bool.eq_iff_iff, List.any_eq_true, List.any_eq_true]
  constructor
  · rintro ⟨m, hm, h⟩
    unfold hasN at h
    rw [List.any_eq_true] at h
    obtain ⟨x, hx, e⟩ := h
    have e : x = m := of_decide_eq_true e
    subst e
    refine ⟨x, hx, ?_⟩
    simp only [majNames, List.mem_cons, List.not_mem_nil, or_false] at hm
    rcases hm with rfl | rfl | rfl | rfl | rfl | rfl | rfl | rfl | rfl <;> decide
  · rintro ⟨x, hx, h⟩
    refine ⟨x, ?_, ?_⟩
    · unfold isMaj at h
      simp only [Bool.or_eq_true] at h
      simp only [majNames, List.mem_cons, List.not_mem_nil, or_false]
      unfold eqB at h
      simp only [decide_eq_true_eq] at h
      simpa [or_assoc] using h
    · unfold hasN
      rw [List.any_eq_true]
      exact ⟨x, hx, eqB_self x⟩
theorem succ_zero {a b : Item} (h : succ a b = 0) : vld b = 0 ∧ b.id = a.id ∧ b.ver - 1 = a.ver := by
  unfold succ at h
  by_cases h0 : vld b = 0
  · rw [if_neg (fun g => g h0)] at h
    by_cases h1 : b.id = a.id
    · rw [if_neg (fun g => g h1)] at h
      by_cases h2 : b.ver - 1 = a.ver
      · exact ⟨h0, h1, h2⟩
      · rw [if_pos h2] at h; cases h
    · rw [if_pos h1] at h; cases h
  · rw [if_pos h0] at h; exact absurd h h0
theorem succ_back {a b : Item} (h : succ a b = 0) : succ b a ≠ 0 := by
  obtain ⟨_, h1, h2⟩ := succ_zero h
  intro g
  obtain ⟨_, _, h3⟩ := succ_zero g
  omega
end It
set_option maxRecDepth 100000 in
set_option maxHeartbeats 3200000 in
theorem contains_law (A : Option Addr) (c : Nat) (l : List ByteArray) (n : Nat) (hn : l.length = n) (s : ByteArray) {v : Bool} (hv : It.hasN l s = v) (w : World) (h : SlS w A l) (hl : n ≤ 1000) :
    Calls Tryd.prog 8 #[.slice A n c, .string s] w fun e w' => e = .returned (.bool v) ∧ Ext w w' := by
  have H := Lib.hid h
  have HN := Lib.hid hn
  have HV := Lib.hid hv
  clear h hn hv
  go_enter Tryd.func8, Tryd.ntmps8
  go_wp2
  go_loop [9] (fun i => ∃ k : Nat, k ≤ n ∧ i = .int .i64 k ∧ Hid (It.hasN (l.take k) s = false)) (fun i => n - (intOf i).toNat)
  case atStart => exact ⟨0, by omega, rfl, Lib.hid rfl⟩
  case round =>
    obtain ⟨k, hk, rfl, HP⟩ := hrel
    by_cases hlt : k < n
    · have hlt' : k < l.length := by rw [HN.out]; exact hlt
      obtain ⟨gb, go, rfl, hgb, x0⟩ := H.out.at_ hlt'
      obtain ⟨x, hx'⟩ : ∃ x, l[k] = x := ⟨_, rfl⟩
      have hx : l[k]? = some x := by rw [List.getElem?_eq_getElem hlt', hx']
      rw [hx'] at x0
      have HX := Lib.hid hx
      have ki0 : (0 : Int) ≤ (k : Int) := by omega
      have ki1 : (k : Int) < (n : Int) := by omega
      clear hx' hx hlt'
      obtain ⟨q, hq⟩ : ∃ q, It.eqB x s = q := ⟨_, rfl⟩
      have hq' : (x.toList == s.toList) = q := by rw [It.beqB]; exact hq
      have HQ := Lib.hid hq
      clear hq
      cases q with
      | true =>
        have HF : Hid (v = true) := Lib.hid (by rw [← HV.out]; unfold It.hasN; rw [List.any_eq_true]; exact ⟨x, List.mem_of_getElem? HX.out, HQ.out⟩)
        go_wp2
        go_ret
        exact ⟨ret_bool HF.out.symm, Ext.refl _⟩
      | false =>
        have HF : Hid (It.hasN (l.take (k + 1)) s = false) := Lib.hid (by
          have := HP.out
          unfold It.hasN at this ⊢
          rw [List.take_add_one, HX.out, List.any_append, this]; simp [HQ.out])
        go_wp2
        go_round
        case rel => exact ⟨k + 1, by omega, by go_num, HF⟩
        case measure => simp [intOf]; omega
    · obtain rfl : k = n := by omega
      have HF : Hid (v = false) := Lib.hid (by rw [← HV.out, ← HP.out, ← HN.out, List.take_length])
      go_wp2
      go_ret
      exact ⟨ret_bool HF.out.symm, Ext.refl _⟩
/-- What lies where while the law runs. -/
structure SuS (w W : World) (CA CB : Array Value) (a b : It.Item) (La Lb : It.Loc) (A : Option Addr) (l : List ByteArray) : Prop where
  x : Ext w W
  b1 : W.heap[w.heap.size]? = some (.cells CA 25 (0, 0))
  b2 : W.heap[w.heap.size + 1]? = some (.cells CB 25 (0, 0))
  i1 : It.In W a La
  i2 : It.In W b Lb
  n : SlS W A l
theorem SuS.ext {w W W' : World} {CA CB : Array Value} {a b : It.Item} {La Lb : It.Loc} {A : Option Addr} {l : List ByteArray} (h : SuS w W CA CB a b La Lb A l) (he : Ext W W') : SuS w W' CA CB a b La Lb A l :=
  ⟨h.x.trans he, he.blockAt h.b1, he.blockAt h.b2, h.i1.ext he, h.i2.ext he, h.n.ext he⟩
def Mono (p : Option Value → World → Prop) : Prop := ∀ u w w', Ext w w' → p u w → p u w'
theorem mono_val (v : Value) : Mono (fun u _ => u = some v) := fun _ _ _ _ h => h
theorem mono_sls (n : Nat) (l : List ByteArray) : Mono (fun u w => ∃ (A : Option Addr) (c : Nat), u = some (.slice A n c) ∧ SlS w A l) := fun _ _ _ he ⟨A, c, e, h⟩ => ⟨A, c, e, h.ext he⟩
theorem mono_nil : Mono (fun u _ => ∃ (A : Option Addr) (c : Nat), u = some (.slice A 0 c)) := fun _ _ _ _ h => h
def AllMono : List (Option Value → World → Prop) → Prop
  | [] => True
  | p :: l => Mono p ∧ AllMono l
theorem AllMono.at_ : ∀ {l : List (Option Value → World → Prop)}, AllMono l → ∀ j, Mono (l.getD j fun _ _ => True)
  | [], _, _ => fun _ _ _ _ _ => trivial
  | _ :: _, h, 0 => h.1
  | p :: l, h, j + 1 => by simpa using AllMono.at_ h.2 j

/-- What each operation of the region leaves. -/
def suL (CA CB : Array Value) (A : Option Addr) (c : Nat) (l : List ByteArray) (mj : Bool) : List (Option Value → World → Prop) := [fun u _ => u = some (.slice A l.length c),
  fun u _ => u = some (.agg CB),
  fun u _ => u = some (.agg CA),
  fun u w => ∃ (A : Option Addr) (c : Nat), u = some (.slice A l.length c) ∧ SlS w A l,
  fun u _ => u = some (.bool true),
  fun u _ => u = some (.bool false),
  fun u _ => u = some (.bool false),
  fun u _ => u = some (.agg CA),
  fun u _ => u = some (.agg CA),
  fun u _ => ∃ (A : Option Addr) (c : Nat), u = some (.slice A 0 c),
  fun u _ => u = some (.int .i64 0),
  fun u _ => u = some (.bool false),
  fun u _ => u = some (.bool false),
  fun u _ => u = some (.bool false),
  fun u _ => u = some (.agg CA),
  fun u _ => u = some (.agg CB),
  fun u _ => u = some (.bool mj),
  fun u _ => u = some (.agg CB),
  fun u _ => u = some (.agg CA),
  fun u _ => u = some (.bool mj),
  fun u _ => u = some (.bool false),
  fun u _ => u = some (.bool false)]
theorem suL_mono (CA CB : Array Value) (A : Option Addr) (c : Nat) (l : List ByteArray) (mj : Bool) : AllMono (suL CA CB A c l mj) := ⟨mono_val _, mono_val _, mono_val _, mono_sls _ _, mono_val _, mono_val _, mono_val _, mono_val _, mono_val _, mono_nil, mono_val _, mono_val _, mono_val _, mono_val _, mono_val _, mono_val _, mono_val _, mono_val _, mono_val _, mono_val _, mono_val _, mono_val _, trivial⟩
def suR (CA CB : Array Value) (A : Option Addr) (c : Nat) (l : List ByteArray) (mj : Bool) (j : Nat) (u : Option Value) (w : World) : Prop := (suL CA CB A c l mj).getD j (fun _ _ => True) u w
theorem suR_ext (CA CB : Array Value) (A : Option Addr) (c : Nat) (l : List ByteArray) (mj : Bool) (j : Nat) (u : Option Value) (w w' : World) (he : Ext w w') (h : suR CA CB A c l mj j u w) : suR CA CB A c l mj j u w' := ((suL_mono CA CB A c l mj).at_ j) u w w' he h
def suD : List Nat := [12, 13, 14, 15, 16, 17, 18, 19, 20, 21, 22, 23, 24, 25, 26, 27, 28, 29, 30, 31, 32, 33]
def suE (g : Nat) (A : Option Addr) (n c : Nat) (t : Array Value) : Prop := t.getD 2 undef = .pointer (some ⟨g, 0, none⟩) ∧ t.getD 3 undef = .pointer (some ⟨g + 1, 0, none⟩) ∧ t.getD 5 undef = .slice A n c ∧ t.size = 93
set_option maxRecDepth 100000 in
set_option maxHeartbeats 12800000 in
theorem itemSucceeds_walk (a b : It.Item) (La Lb : It.Loc) (w : World) (ha : It.In w a La) (hb : It.In w b Lb) (hg : Gm w) (hf : Fld w) :
    Calls Tryd.prog 3 #[It.agg a La, It.agg b Lb] w fun e w' => e = .returned (.bool true) ∧ Ext w w' := by
  obtain ⟨CA, hca, hna, -, hka⟩ := It.packed a La
  obtain ⟨CB, hcb, hnb, -, hkb⟩ := It.packed b Lb
  obtain ⟨l, hl⟩ : ∃ l, It.diff a b = l := ⟨_, rfl⟩
  obtain ⟨mj, hmj⟩ : ∃ v, It.major a b = v := ⟨_, rfl⟩
  obtain ⟨sc, hsc⟩ : ∃ v, It.succ a b = v := ⟨_, rfl⟩
  have hl17 : l.length ≤ 17 := by rw [← hl]; exact It.diff_le a b
  have D12 := Lib.hid (diff_to a b La Lb hl)
  have D21 := Lib.hid (diff_to b a Lb La (l := l) (by rw [It.diff_comm]; exact hl))
  have D11 := Lib.hid (diff_to a a La La (It.diff_self a))
  have M12 := Lib.hid (major_to a b La Lb hmj)
  have M21 := Lib.hid (major_to b a Lb La (v := mj) (by rw [It.major_comm]; exact hmj))
  have S12 := Lib.hid (succ_to a b La Lb hsc)
  have S21 := Lib.hid (succeed_any b a Lb La)
  have VB := Lib.hid (valid_any b Lb)
  rw [hca] at D11
  rw [hca, hcb] at D12 D21 M12 M21 S12 S21 ⊢
  rw [hcb] at VB
  have HA := Lib.hid ha
  have HB := Lib.hid hb
  have HG : Hid (∀ w', Ext w w' → Gm w') := Lib.hid (fun w' he => hg.ext he)
  have HF : Hid (∀ w', Ext w w' → Fld w') := Lib.hid (fun w' he => hf.ext he)
  have IA := Lib.hid (infoItem hna)
  have IB := Lib.hid (infoItem hnb)
  have ja0 : CA[0]? = some (.int .i64 a.id) := by rw [← hka]; rfl
  have ja1 : CA[1]? = some (.int .i64 a.ver) := by rw [← hka]; rfl
  have jb0 : CB[0]? = some (.int .i64 b.id) := by rw [← hkb]; rfl
  have jb1 : CB[1]? = some (.int .i64 b.ver) := by rw [← hkb]; rfl
  have J0 := Lib.hid (And.intro ja0 (And.intro ja1 (And.intro jb0 jb1)))
  have EN1 := Lib.hid (enters_of Tryd.func5 (by kernel_rfl) rfl)
  have EN3 := Lib.hid (enters_of Tryd.func6 (by kernel_rfl) rfl)
  have EN4 := Lib.hid (enters_of Tryd.func7 (by kernel_rfl) rfl)
  have HL := Lib.hid hl17
  have HDL := Lib.hid hl
  have HMJ := Lib.hid hmj
  have HSC := Lib.hid hsc
  clear ha hb hg hf hca hcb hna hnb hka hkb ja0 ja1 jb0 jb1 hl hmj hsc hl17
  go_enter Tryd.func3, Tryd.ntmps3
  go_wp2_with (first | refine wpList_load_row rfl _ _ rfl w.heap.size rfl _ CA _ _ (heap_two_fst _ _ _) Tryd.underlying25 rfl IA.out ?_ | refine wpList_load_row rfl _ _ rfl (w.heap.size + 1) rfl _ CB _ _ (heap_two_snd _ _ _) Tryd.underlying25 rfl IB.out ?_)
  have X0 : Ext w ((w.alloc (.cells CA 25)).alloc (.cells CB 25)) := ((Ext.refl _).alloc _).alloc _
  with_reducible refine (D12.out _ (HA.out.ext X0) (HB.out.ext X0) (HF.out _ X0)).mono ?_
  rintro e w1 ⟨⟨A, c, rfl, hs, -, -⟩, hb1⟩
  have HS : Hid (SuS w w1 CA CB a b La Lb A l) := Lib.hid ⟨X0.trans hb1, hb1.blockAt (heap_two_fst _ _ _), hb1.blockAt (heap_two_snd _ _ _), HA.out.ext (X0.trans hb1), HB.out.ext (X0.trans hb1), hs⟩
  clear hs hb1 X0 D12 HA HB
  go_wp2_with fail
  refine region_tb (by kernel_rfl) (by decide +kernel) (suE w.heap.size A l.length c) ⟨rfl, rfl, rfl, rfl⟩ 22 suD (fun _ => none) (suR CA CB A c l mj) w1 (Ext.refl _) (fun i h1 h2 => absurd h2 (Nat.not_lt.2 h1)) ?_ ?_
  · intro Tv dd lv U wz i o hE ho hlv hd hT
    obtain ⟨t2, t3, t5, tz⟩ := hE
    have hx := hT.ext
    have hS := HS.out.ext hx
    match i, ho, hlv, hd with
    | 0, ho, hlv, hd =>
      obtain rfl := Option.some.inj ho
      have v0 := eval_old (d := dd) (hT.out 5 (by decide)) (by omega) t5
      refine tbw_yield (v := .slice A l.length c) (suR_ext CA CB A c l mj) hT ho hd (wanted_plain rfl) rfl (by decide) (by decide) ?_ (Ext.refl _) rfl
      generalize Act.eval ⟨over Tv U, dd⟩ = ev at *
      simp [execOp, go_sem, v0]
    | 1, ho, hlv, hd =>
      obtain rfl := Option.some.inj ho
      have vb := eval_old (d := dd) (hT.out 3 (by decide)) (by omega) t3
      refine tbw_yield (v := .agg CB) (suR_ext CA CB A c l mj) hT ho hd (wanted_plain rfl) rfl (by decide) (by decide) (exec_load_row _ _ rfl (w.heap.size + 1) vb _ _ _ _ hS.b2 Tryd.underlying25 rfl IB.out) (Ext.refl _) rfl
    | 2, ho, hlv, hd =>
      obtain rfl := Option.some.inj ho
      have vb := eval_old (d := dd) (hT.out 2 (by decide)) (by omega) t2
      refine tbw_yield (v := .agg CA) (suR_ext CA CB A c l mj) hT ho hd (wanted_plain rfl) rfl (by decide) (by decide) (exec_load_row _ _ rfl w.heap.size vb _ _ _ _ hS.b1 Tryd.underlying25 rfl IA.out) (Ext.refl _) rfl
    | 3, ho, hlv, hd =>
      obtain rfl := Option.some.inj ho
      have f0 : U 13 = some (.agg CB) := hT.facts 1 (by decide) (dep hd 1 (by kernel_rfl)) (fun c e => by cases e)
      have v0 : Act.eval ⟨over Tv U, dd⟩ (.tmp 13) = _ := eval_new (t := Tv) (d := dd) f0 (by show 13 < Tv.size; omega)
      have f1 : U 14 = some (.agg CA) := hT.facts 2 (by decide) (dep hd 2 (by kernel_rfl)) (fun c e => by cases e)
      have v1 : Act.eval ⟨over Tv U, dd⟩ (.tmp 14) = _ := eval_new (t := Tv) (d := dd) f1 (by show 14 < Tv.size; omega)
      refine tbw_call (f := 5) (args := #[.agg CB, .agg CA]) (suR_ext CA CB A c l mj) hT ho hd (wanted_plain rfl) rfl (by decide) (by decide) (exec_call2 rfl rfl v0 v1 EN1.out) ?_
      refine (D21.out wz hS.i2 hS.i1 (HF.out _ hS.x)).mono ?_
      rintro e w' ⟨⟨A', c', rfl, hs, -, -⟩, hb⟩
      exact ⟨_, rfl, hb, A', c', rfl, hs⟩
    | 4, ho, hlv, hd =>
      obtain rfl := Option.some.inj ho
      have f0 : U 12 = some (.slice A l.length c) := hT.facts 0 (by decide) (dep hd 0 (by kernel_rfl)) (fun c e => by cases e)
      have v0 : Act.eval ⟨over Tv U, dd⟩ (.tmp 12) = _ := eval_new (t := Tv) (d := dd) f0 (by show 12 < Tv.size; omega)
      obtain ⟨A1, c1, f1, s1⟩ : ∃ (A : Option Addr) (c : Nat), U 15 = some (.slice A l.length c) ∧ SlS wz A l := hT.facts 3 (by decide) (dep hd 3 (by kernel_rfl)) (fun c e => by cases e)
      have v1 : Act.eval ⟨over Tv U, dd⟩ (.tmp 15) = _ := eval_new (t := Tv) (d := dd) f1 (by show 15 < Tv.size; omega)
      refine tbw_call (f := 6) (args := #[.slice A l.length c, .slice A1 l.length c1]) (suR_ext CA CB A c l mj) hT ho hd (wanted_plain rfl) rfl (by decide) (by decide) (exec_call2 rfl rfl v0 v1 EN3.out) ?_
      refine (names_to A c A1 c1 l l (v := true) (decide_eq_true rfl) rfl rfl wz hS.n s1 (Nat.le_trans HL.out (by decide)) (Nat.le_trans HL.out (by decide))).mono ?_
      rintro e w' ⟨rfl, hb⟩
      exact ⟨_, rfl, hb, rfl⟩
    | 5, ho, hlv, hd =>
      obtain rfl := Option.some.inj ho
      have f0 : U 16 = some (.bool true) := hT.facts 4 (by decide) (dep hd 4 (by kernel_rfl)) (fun c e => by cases e)
      have v0 : Act.eval ⟨over Tv U, dd⟩ (.tmp 16) = _ := eval_new (t := Tv) (d := dd) f0 (by show 16 < Tv.size; omega)
      refine tbw_yield (v := .bool false) (suR_ext CA CB A c l mj) hT ho hd (wanted_plain rfl) rfl (by decide) (by decide) ?_ (Ext.refl _) rfl
      generalize Act.eval ⟨over Tv U, dd⟩ = ev at *
      simp [execOp, go_sem, v0]
    | 6, ho, hlv, hd =>
      obtain rfl := Option.some.inj ho
      have f0 : U 17 = some (.bool false) := hT.facts 5 (by decide) (dep hd 5 (by kernel_rfl)) (fun c e => by cases e)
      have v0 : Act.eval ⟨over Tv U, dd⟩ (.tmp 17) = _ := eval_new (t := Tv) (d := dd) f0 (by show 17 < Tv.size; omega)
      refine tbw_yield (v := .bool false) (suR_ext CA CB A c l mj) hT ho hd (wanted_plain rfl) rfl (by decide) (by decide) ?_ (Ext.refl _) rfl
      generalize Act.eval ⟨over Tv U, dd⟩ = ev at *
      simp [execOp, go_sem, v0]
    | 7, ho, hlv, hd =>
      obtain rfl := Option.some.inj ho
      have hgu : U 18 = some (.bool false) := hT.facts 6 (by decide) (dep hd 6 (by kernel_rfl)) (fun c e => by cases e)
      have vb := eval_old (d := dd) (hT.out 2 (by decide)) (by omega) t2
      refine tbw_yield (v := .agg CA) (suR_ext CA CB A c l mj) hT ho hd (wanted_of (j := 6) (s := 18) (b := false) rfl rfl rfl hgu (by show 18 < Tv.size; omega)) rfl (by decide) (by decide) (exec_load_row _ _ rfl w.heap.size vb _ _ _ _ hS.b1 Tryd.underlying25 rfl IA.out) (Ext.refl _) rfl
    | 8, ho, hlv, hd =>
      obtain rfl := Option.some.inj ho
      have hgu : U 18 = some (.bool false) := hT.facts 6 (by decide) (dep hd 6 (by kernel_rfl)) (fun c e => by cases e)
      have vb := eval_old (d := dd) (hT.out 2 (by decide)) (by omega) t2
      refine tbw_yield (v := .agg CA) (suR_ext CA CB A c l mj) hT ho hd (wanted_of (j := 6) (s := 18) (b := false) rfl rfl rfl hgu (by show 18 < Tv.size; omega)) rfl (by decide) (by decide) (exec_load_row _ _ rfl w.heap.size vb _ _ _ _ hS.b1 Tryd.underlying25 rfl IA.out) (Ext.refl _) rfl
    | 9, ho, hlv, hd =>
      obtain rfl := Option.some.inj ho
      have hgu : U 18 = some (.bool false) := hT.facts 6 (by decide) (dep hd 6 (by kernel_rfl)) (fun c e => by cases e)
      have f0 : U 19 = some (.agg CA) := hT.facts 7 (by decide) (dep hd 7 (by kernel_rfl)) (fun c e => by cases e)
      have v0 : Act.eval ⟨over Tv U, dd⟩ (.tmp 19) = _ := eval_new (t := Tv) (d := dd) f0 (by show 19 < Tv.size; omega)
      have f1 : U 20 = some (.agg CA) := hT.facts 8 (by decide) (dep hd 8 (by kernel_rfl)) (fun c e => by cases e)
      have v1 : Act.eval ⟨over Tv U, dd⟩ (.tmp 20) = _ := eval_new (t := Tv) (d := dd) f1 (by show 20 < Tv.size; omega)
      refine tbw_call (f := 5) (args := #[.agg CA, .agg CA]) (suR_ext CA CB A c l mj) hT ho hd (wanted_of (j := 6) (s := 18) (b := false) rfl rfl rfl hgu (by show 18 < Tv.size; omega)) rfl (by decide) (by decide) (exec_call2 rfl rfl v0 v1 EN1.out) ?_
      refine (D11.out wz hS.i1 hS.i1 (HF.out _ hS.x)).mono ?_
      rintro e w' ⟨⟨A', c', rfl, hs, -, -⟩, hb⟩
      exact ⟨_, rfl, hb, A', c', rfl⟩
    | 10, ho, hlv, hd =>
      obtain rfl := Option.some.inj ho
      have hgu : U 18 = some (.bool false) := hT.facts 6 (by decide) (dep hd 6 (by kernel_rfl)) (fun c e => by cases e)
      obtain ⟨A1, c1, f0⟩ : ∃ (A : Option Addr) (c : Nat), U 21 = some (.slice A 0 c) := hT.facts 9 (by decide) (dep hd 9 (by kernel_rfl)) (fun c e => by cases e)
      have v0 : Act.eval ⟨over Tv U, dd⟩ (.tmp 21) = _ := eval_new (t := Tv) (d := dd) f0 (by show 21 < Tv.size; omega)
      refine tbw_yield (v := .int .i64 0) (suR_ext CA CB A c l mj) hT ho hd (wanted_of (j := 6) (s := 18) (b := false) rfl rfl rfl hgu (by show 18 < Tv.size; omega)) rfl (by decide) (by decide) ?_ (Ext.refl _) rfl
      generalize Act.eval ⟨over Tv U, dd⟩ = ev at *
      simp [execOp, go_sem, v0]
    | 11, ho, hlv, hd =>
      obtain rfl := Option.some.inj ho
      have hgu : U 18 = some (.bool false) := hT.facts 6 (by decide) (dep hd 6 (by kernel_rfl)) (fun c e => by cases e)
      have f0 : U 22 = some (.int .i64 0) := hT.facts 10 (by decide) (dep hd 10 (by kernel_rfl)) (fun c e => by cases e)
      have v0 : Act.eval ⟨over Tv U, dd⟩ (.tmp 22) = _ := eval_new (t := Tv) (d := dd) f0 (by show 22 < Tv.size; omega)
      have w1 : Act.eval ⟨over Tv U, dd⟩ (.const (.int .i64 0)) = .int .i64 0 := rfl
      refine tbw_yield (v := .bool false) (suR_ext CA CB A c l mj) hT ho hd (wanted_of (j := 6) (s := 18) (b := false) rfl rfl rfl hgu (by show 18 < Tv.size; omega)) rfl (by decide) (by decide) ?_ (Ext.refl _) rfl
      generalize Act.eval ⟨over Tv U, dd⟩ = ev at *
      simp [execOp, go_sem, v0, w1]
    | 12, ho, hlv, hd =>
      obtain rfl := Option.some.inj ho
      have f0 : U 18 = some (.bool false) := hT.facts 6 (by decide) (dep hd 6 (by kernel_rfl)) (fun c e => by cases e)
      have v0 : Act.eval ⟨over Tv U, dd⟩ (.tmp 18) = _ := eval_new (t := Tv) (d := dd) f0 (by show 18 < Tv.size; omega)
      have f2 : U 23 = some (.bool false) := hT.facts 11 (by decide) (dep hd 11 (by kernel_rfl)) (fun c e => by cases e)
      have v2 : Act.eval ⟨over Tv U, dd⟩ (.tmp 23) = _ := eval_new (t := Tv) (d := dd) f2 (by show 23 < Tv.size; omega)
      refine tbw_yield (v := .bool false) (suR_ext CA CB A c l mj) hT ho hd (wanted_plain rfl) rfl (by decide) (by decide) ?_ (Ext.refl _) rfl
      generalize Act.eval ⟨over Tv U, dd⟩ = ev at *
      simp [execOp, go_sem, v0, v2]
    | 13, ho, hlv, hd =>
      obtain rfl := Option.some.inj ho
      have f0 : U 24 = some (.bool false) := hT.facts 12 (by decide) (dep hd 12 (by kernel_rfl)) (fun c e => by cases e)
      have v0 : Act.eval ⟨over Tv U, dd⟩ (.tmp 24) = _ := eval_new (t := Tv) (d := dd) f0 (by show 24 < Tv.size; omega)
      refine tbw_yield (v := .bool false) (suR_ext CA CB A c l mj) hT ho hd (wanted_plain rfl) rfl (by decide) (by decide) ?_ (Ext.refl _) rfl
      generalize Act.eval ⟨over Tv U, dd⟩ = ev at *
      simp [execOp, go_sem, v0]
    | 14, ho, hlv, hd =>
      obtain rfl := Option.some.inj ho
      have hgu : U 25 = some (.bool false) := hT.facts 13 (by decide) (dep hd 13 (by kernel_rfl)) (fun c e => by cases e)
      have vb := eval_old (d := dd) (hT.out 2 (by decide)) (by omega) t2
      refine tbw_yield (v := .agg CA) (suR_ext CA CB A c l mj) hT ho hd (wanted_of (j := 13) (s := 25) (b := false) rfl rfl rfl hgu (by show 25 < Tv.size; omega)) rfl (by decide) (by decide) (exec_load_row _ _ rfl w.heap.size vb _ _ _ _ hS.b1 Tryd.underlying25 rfl IA.out) (Ext.refl _) rfl
    | 15, ho, hlv, hd =>
      obtain rfl := Option.some.inj ho
      have hgu : U 25 = some (.bool false) := hT.facts 13 (by decide) (dep hd 13 (by kernel_rfl)) (fun c e => by cases e)
      have vb := eval_old (d := dd) (hT.out 3 (by decide)) (by omega) t3
      refine tbw_yield (v := .agg CB) (suR_ext CA CB A c l mj) hT ho hd (wanted_of (j := 13) (s := 25) (b := false) rfl rfl rfl hgu (by show 25 < Tv.size; omega)) rfl (by decide) (by decide) (exec_load_row _ _ rfl (w.heap.size + 1) vb _ _ _ _ hS.b2 Tryd.underlying25 rfl IB.out) (Ext.refl _) rfl
    | 16, ho, hlv, hd =>
      obtain rfl := Option.some.inj ho
      have hgu : U 25 = some (.bool false) := hT.facts 13 (by decide) (dep hd 13 (by kernel_rfl)) (fun c e => by cases e)
      have f0 : U 26 = some (.agg CA) := hT.facts 14 (by decide) (dep hd 14 (by kernel_rfl)) (fun c e => by cases e)
      have v0 : Act.eval ⟨over Tv U, dd⟩ (.tmp 26) = _ := eval_new (t := Tv) (d := dd) f0 (by show 26 < Tv.size; omega)
      have f1 : U 27 = some (.agg CB) := hT.facts 15 (by decide) (dep hd 15 (by kernel_rfl)) (fun c e => by cases e)
      have v1 : Act.eval ⟨over Tv U, dd⟩ (.tmp 27) = _ := eval_new (t := Tv) (d := dd) f1 (by show 27 < Tv.size; omega)
      refine tbw_call (f := 7) (args := #[.agg CA, .agg CB]) (suR_ext CA CB A c l mj) hT ho hd (wanted_of (j := 13) (s := 25) (b := false) rfl rfl rfl hgu (by show 25 < Tv.size; omega)) rfl (by decide) (by decide) (exec_call2 rfl rfl v0 v1 EN4.out) ?_
      refine (M12.out wz hS.i1 hS.i2 (fun w' he => HF.out _ (hS.x.trans he))).mono ?_
      rintro e w' ⟨rfl, hb⟩
      exact ⟨_, rfl, hb, rfl⟩
    | 17, ho, hlv, hd =>
      obtain rfl := Option.some.inj ho
      have hgu : U 25 = some (.bool false) := hT.facts 13 (by decide) (dep hd 13 (by kernel_rfl)) (fun c e => by cases e)
      have vb := eval_old (d := dd) (hT.out 3 (by decide)) (by omega) t3
      refine tbw_yield (v := .agg CB) (suR_ext CA CB A c l mj) hT ho hd (wanted_of (j := 13) (s := 25) (b := false) rfl rfl rfl hgu (by show 25 < Tv.size; omega)) rfl (by decide) (by decide) (exec_load_row _ _ rfl (w.heap.size + 1) vb _ _ _ _ hS.b2 Tryd.underlying25 rfl IB.out) (Ext.refl _) rfl
    | 18, ho, hlv, hd =>
      obtain rfl := Option.some.inj ho
      have hgu : U 25 = some (.bool false) := hT.facts 13 (by decide) (dep hd 13 (by kernel_rfl)) (fun c e => by cases e)
      have vb := eval_old (d := dd) (hT.out 2 (by decide)) (by omega) t2
      refine tbw_yield (v := .agg CA) (suR_ext CA CB A c l mj) hT ho hd (wanted_of (j := 13) (s := 25) (b := false) rfl rfl rfl hgu (by show 25 < Tv.size; omega)) rfl (by decide) (by decide) (exec_load_row _ _ rfl w.heap.size vb _ _ _ _ hS.b1 Tryd.underlying25 rfl IA.out) (Ext.refl _) rfl
    | 19, ho, hlv, hd =>
      obtain rfl := Option.some.inj ho
      have hgu : U 25 = some (.bool false) := hT.facts 13 (by decide) (dep hd 13 (by kernel_rfl)) (fun c e => by cases e)
      have f0 : U 29 = some (.agg CB) := hT.facts 17 (by decide) (dep hd 17 (by kernel_rfl)) (fun c e => by cases e)
      have v0 : Act.eval ⟨over Tv U, dd⟩ (.tmp 29) = _ := eval_new (t := Tv) (d := dd) f0 (by show 29 < Tv.size; omega)
      have f1 : U 30 = some (.agg CA) := hT.facts 18 (by decide) (dep hd 18 (by kernel_rfl)) (fun c e => by cases e)
      have v1 : Act.eval ⟨over Tv U, dd⟩ (.tmp 30) = _ := eval_new (t := Tv) (d := dd) f1 (by show 30 < Tv.size; omega)
      refine tbw_call (f := 7) (args := #[.agg CB, .agg CA]) (suR_ext CA CB A c l mj) hT ho hd (wanted_of (j := 13) (s := 25) (b := false) rfl rfl rfl hgu (by show 25 < Tv.size; omega)) rfl (by decide) (by decide) (exec_call2 rfl rfl v0 v1 EN4.out) ?_
      refine (M21.out wz hS.i2 hS.i1 (fun w' he => HF.out _ (hS.x.trans he))).mono ?_
      rintro e w' ⟨rfl, hb⟩
      exact ⟨_, rfl, hb, rfl⟩
    | 20, ho, hlv, hd =>
      obtain rfl := Option.some.inj ho
      have hgu : U 25 = some (.bool false) := hT.facts 13 (by decide) (dep hd 13 (by kernel_rfl)) (fun c e => by cases e)
      have f0 : U 28 = some (.bool mj) := hT.facts 16 (by decide) (dep hd 16 (by kernel_rfl)) (fun c e => by cases e)
      have v0 : Act.eval ⟨over Tv U, dd⟩ (.tmp 28) = _ := eval_new (t := Tv) (d := dd) f0 (by show 28 < Tv.size; omega)
      have f1 : U 31 = some (.bool mj) := hT.facts 19 (by decide) (dep hd 19 (by kernel_rfl)) (fun c e => by cases e)
      have v1 : Act.eval ⟨over Tv U, dd⟩ (.tmp 31) = _ := eval_new (t := Tv) (d := dd) f1 (by show 31 < Tv.size; omega)
      refine tbw_yield (v := .bool false) (suR_ext CA CB A c l mj) hT ho hd (wanted_of (j := 13) (s := 25) (b := false) rfl rfl rfl hgu (by show 25 < Tv.size; omega)) rfl (by decide) (by decide) ?_ (Ext.refl _) rfl
      generalize Act.eval ⟨over Tv U, dd⟩ = ev at *
      simp [execOp, go_sem, v0, v1]
    | 21, ho, hlv, hd =>
      obtain rfl := Option.some.inj ho
      have f0 : U 25 = some (.bool false) := hT.facts 13 (by decide) (dep hd 13 (by kernel_rfl)) (fun c e => by cases e)
      have v0 : Act.eval ⟨over Tv U, dd⟩ (.tmp 25) = _ := eval_new (t := Tv) (d := dd) f0 (by show 25 < Tv.size; omega)
      have f2 : U 32 = some (.bool false) := hT.facts 20 (by decide) (dep hd 20 (by kernel_rfl)) (fun c e => by cases e)
      have v2 : Act.eval ⟨over Tv U, dd⟩ (.tmp 32) = _ := eval_new (t := Tv) (d := dd) f2 (by show 32 < Tv.size; omega)
      refine tbw_yield (v := .bool false) (suR_ext CA CB A c l mj) hT ho hd (wanted_plain rfl) rfl (by decide) (by decide) ?_ (Ext.refl _) rfl
      generalize Act.eval ⟨over Tv U, dd⟩ = ev at *
      simp [execOp, go_sem, v0, v2]
    | i + 22, ho, _, _ => exact absurd ho (by simp)
  · intro U w2 hex hout hfin
    have f33 : U 33 = some (.bool false) := hfin 21 (by decide) rfl
    have HS2 := Lib.hid (HS.out.ext hex)
    clear hex hfin HS
    rw [over_list]
    simp (disch := decide) only [overL, Nat.reduceAdd, hout, Option.getD_none]
    rw [f33]
    simp only [Option.getD_some]
    clear hout f33
    have HSN : Hid (SlS (w2.alloc (.cells #[.string ⟨#[75, 105, 110, 100]⟩, .string ⟨#[83, 116, 101, 109]⟩, .string ⟨#[79, 112, 116, 105, 111, 110, 115]⟩, .string ⟨#[67, 104, 111, 105, 99, 101, 115]⟩, .string ⟨#[86, 97, 108, 117, 101]⟩, .string ⟨#[84, 111, 108]⟩, .string ⟨#[84, 101, 120, 116, 115]⟩, .string ⟨#[80, 111, 105, 110, 116, 115]⟩, .string ⟨#[82, 117, 98, 114, 105, 99]⟩] 9)) (some ⟨w2.heap.size, 0, none⟩) It.majNames) := Lib.hid (Sl.new w2 [.string ⟨#[75, 105, 110, 100]⟩, .string ⟨#[83, 116, 101, 109]⟩, .string ⟨#[79, 112, 116, 105, 111, 110, 115]⟩, .string ⟨#[67, 104, 111, 105, 99, 101, 115]⟩, .string ⟨#[86, 97, 108, 117, 101]⟩, .string ⟨#[84, 111, 108]⟩, .string ⟨#[84, 101, 120, 116, 115]⟩, .string ⟨#[80, 111, 105, 110, 116, 115]⟩, .string ⟨#[82, 117, 98, 114, 105, 99]⟩] 9)
    have HS3 := Lib.hid (HS2.out.ext ((Ext.refl w2).alloc (.cells #[.string ⟨#[75, 105, 110, 100]⟩, .string ⟨#[83, 116, 101, 109]⟩, .string ⟨#[79, 112, 116, 105, 111, 110, 115]⟩, .string ⟨#[67, 104, 111, 105, 99, 101, 115]⟩, .string ⟨#[86, 97, 108, 117, 101]⟩, .string ⟨#[84, 111, 108]⟩, .string ⟨#[84, 101, 120, 116, 115]⟩, .string ⟨#[80, 111, 105, 110, 116, 115]⟩, .string ⟨#[82, 117, 98, 114, 105, 99]⟩] 9)))
    obtain ⟨W3, hW3⟩ : ∃ W, w2.alloc (.cells #[.string ⟨#[75, 105, 110, 100]⟩, .string ⟨#[83, 116, 101, 109]⟩, .string ⟨#[79, 112, 116, 105, 111, 110, 115]⟩, .string ⟨#[67, 104, 111, 105, 99, 101, 115]⟩, .string ⟨#[86, 97, 108, 117, 101]⟩, .string ⟨#[84, 111, 108]⟩, .string ⟨#[84, 101, 120, 116, 115]⟩, .string ⟨#[80, 111, 105, 110, 116, 115]⟩, .string ⟨#[82, 117, 98, 114, 105, 99]⟩] 9) = W := ⟨_, rfl⟩
    rw [hW3] at HSN HS3
    have HL9 : Hid (It.majNames.length = 9) := Lib.hid rfl
    clear HS2
    go_wp2
    clear hW3
    go_loopw [6, 36] (fun m i wr => ∃ k : Nat, k ≤ 9 ∧ i = .int .i64 k ∧ m = .bool ((It.majNames.take k).any (It.hasN l)) ∧ Hid (Ext W3 wr)) (fun _ i _ => 9 - (intOf i).toNat)
    case atStart => exact ⟨0, by omega, rfl, rfl, Lib.hid (Ext.refl _)⟩
    case round =>
      obtain ⟨k, hk, rfl, rfl, HE⟩ := hrel
      by_cases hlt : k < 9
      · have hlt' : k < It.majNames.length := hlt
        obtain ⟨gb, go, hgg, hgb, x0⟩ := (HSN.out.ext HE.out).at_ hlt'
        obtain ⟨rfl, rfl⟩ : w2.heap.size = gb ∧ 0 = go := by cases hgg; exact ⟨rfl, rfl⟩
        clear hgg
        obtain ⟨s, hs'⟩ : ∃ s, It.majNames[k] = s := ⟨_, rfl⟩
        have hx : It.majNames[k]? = some s := by rw [List.getElem?_eq_getElem hlt', hs']
        rw [hs', Nat.zero_add] at x0
        have HX := Lib.hid hx
        have ki0 : (0 : Int) ≤ (k : Int) := by omega
        have ki1 : (k : Int) < 9 := by omega
        have HNX : Hid ((It.majNames.take (k + 1)).any (It.hasN l) = ((It.majNames.take k).any (It.hasN l) || It.hasN l s)) := Lib.hid (by rw [List.take_add_one, HX.out, List.any_append]; simp)
        clear hs' hx hlt'
        generalize (It.majNames.take k).any (It.hasN l) = m0 at *
        cases m0 with
        | true =>
          go_wp2
          go_roundw
          case rel => exact ⟨k + 1, by omega, by go_num, by rw [HNX.out]; rfl, HE⟩
          case measure => simp [intOf]; omega
        | false =>
          obtain ⟨v, hv⟩ : ∃ v, It.hasN l s = v := ⟨_, rfl⟩
          have HV := Lib.hid hv
          clear hv
          go_wp2_with fail
          with_reducible refine (contains_law A c l l.length rfl s HV.out _ (HS3.out.ext HE.out).n (Nat.le_trans HL.out (by decide))).mono ?_
          rintro e w5 ⟨rfl, hb⟩
          have HE5 := Lib.hid (HE.out.trans hb)
          clear hb
          go_wp2
          go_roundw
          case rel => exact ⟨k + 1, by omega, by go_num, by rw [HNX.out, HV.out]; rfl, HE5⟩
          case measure => simp [intOf]; omega
      · obtain rfl : k = 9 := by omega
        have hmm : (It.majNames.take 9).any (It.hasN l) = mj := by rw [← HMJ.out, ← It.major_names, HDL.out]; rfl
        rw [hmm]
        have hmj2 : (mj != mj) = false := by cases mj <;> rfl
        have HS6 := Lib.hid (HS3.out.ext HE.out)
        clear hmm HS3 HE HSN
        go_wp2_with (first | refine wpList_load_row_w rfl _ _ rfl w.heap.size rfl _ CA _ _ HS6.out.b1 Tryd.underlying25 rfl IA.out ?_ | refine wpList_load_row_w rfl _ _ rfl (w.heap.size + 1) rfl _ CB _ _ HS6.out.b2 Tryd.underlying25 rfl IB.out ?_)
        with_reducible refine (M12.out _ HS6.out.i1 HS6.out.i2 (fun w' he => HF.out _ (HS6.out.x.trans he))).mono ?_
        rintro e w7 ⟨rfl, hb⟩
        have HS7 := Lib.hid (HS6.out.ext hb)
        clear hb HS6
        go_wp2_with (first | refine wpList_load_row_w rfl _ _ rfl w.heap.size rfl _ CA _ _ HS7.out.b1 Tryd.underlying25 rfl IA.out ?_ | refine wpList_load_row_w rfl _ _ rfl (w.heap.size + 1) rfl _ CB _ _ HS7.out.b2 Tryd.underlying25 rfl IB.out ?_)
        with_reducible refine (S12.out _ HS7.out.i2 (fun w' he => HG.out _ (HS7.out.x.trans he))).mono ?_
        rintro e w8 ⟨rfl, hb⟩
        have HS8 := Lib.hid (HS7.out.ext hb)
        clear hb HS7 hmj2
        by_cases hz : sc = 0
        · have hz' : (sc != 0) = false := by rw [hz]; rfl
          obtain ⟨z1, z2, z3⟩ := It.succ_zero (HSC.out.trans hz)
          have HZ2 := Lib.hid z2
          have HZ3 := Lib.hid z3
          have hv1 := It.vld_ver z1
          have hbk := It.succ_back (HSC.out.trans hz)
          rw [z1] at VB
          have c1 : Hid (It.hasN l ⟨#[86, 101, 114, 115, 105, 111, 110]⟩ = true) := Lib.hid (by rw [← HDL.out, It.has_ver, bne_iff_ne]; omega)
          have c2 : Hid (It.hasN l ⟨#[73, 100]⟩ = false) := Lib.hid (by rw [← HDL.out, It.has_id, z2]; simp)
          obtain ⟨sb, hsb⟩ : ∃ v, It.succ b a = v := ⟨_, rfl⟩
          rw [hsb] at S21 hbk
          have hbk' : (sb != 0) = true := by rw [bne_iff_ne]; exact hbk
          have te1 : (a.id == b.id) = true := by rw [beq_iff_eq]; exact z2.symm
          have te2 : (b.ver - 1 == a.ver) = true := by rw [beq_iff_eq]; exact z3
          obtain ⟨v1, v2⟩ := hv1
          clear hz z1 z2 z3 hsb hbk
          go_wp2_with (first | refine wpList_load_row_w rfl _ _ rfl w.heap.size rfl _ CA _ _ HS8.out.b1 Tryd.underlying25 rfl IA.out ?_ | refine wpList_load_row_w rfl _ _ rfl (w.heap.size + 1) rfl _ CB _ _ HS8.out.b2 Tryd.underlying25 rfl IB.out ?_)
          with_reducible refine (VB.out _ HS8.out.i2 (HG.out _ HS8.out.x)).mono ?_
          rintro e w9 ⟨rfl, hb⟩
          have HS9 := Lib.hid (HS8.out.ext hb)
          clear hb HS8
          have a0 : w9.cell? ⟨w.heap.size, 0, none⟩ = some (.int .i64 a.id) := (cell_of_row _ _ 0 _ _ _ HS9.out.b1).trans J0.out.1
          have a1 : w9.cell? ⟨w.heap.size, 1, none⟩ = some (.int .i64 a.ver) := (cell_of_row _ _ 1 _ _ _ HS9.out.b1).trans J0.out.2.1
          have b0 : w9.cell? ⟨w.heap.size + 1, 0, none⟩ = some (.int .i64 b.id) := (cell_of_row _ _ 0 _ _ _ HS9.out.b2).trans J0.out.2.2.1
          have b1 : w9.cell? ⟨w.heap.size + 1, 1, none⟩ = some (.int .i64 b.ver) := (cell_of_row _ _ 1 _ _ _ HS9.out.b2).trans J0.out.2.2.2
          go_wp2_with fail
          with_reducible refine (contains_law A c l l.length rfl ⟨#[86, 101, 114, 115, 105, 111, 110]⟩ c1.out _ HS9.out.n (Nat.le_trans HL.out (by decide))).mono ?_
          rintro e w10 ⟨rfl, hb⟩
          have HS10 := Lib.hid (HS9.out.ext hb)
          clear hb HS9 a0 a1 b0 b1
          go_wp2_with fail
          with_reducible refine (contains_law A c l l.length rfl ⟨#[73, 100]⟩ c2.out _ HS10.out.n (Nat.le_trans HL.out (by decide))).mono ?_
          rintro e w11 ⟨rfl, hb⟩
          have HS11 := Lib.hid (HS10.out.ext hb)
          clear hb HS10
          go_wp2_with (first | refine wpList_load_row_w rfl _ _ rfl w.heap.size rfl _ CA _ _ HS11.out.b1 Tryd.underlying25 rfl IA.out ?_ | refine wpList_load_row_w rfl _ _ rfl (w.heap.size + 1) rfl _ CB _ _ HS11.out.b2 Tryd.underlying25 rfl IB.out ?_)
          with_reducible refine (S21.out _ HS11.out.i1 (fun w' he => HG.out _ (HS11.out.x.trans he))).mono ?_
          rintro e w12 ⟨rfl, hb⟩
          have HS12 := Lib.hid (HS11.out.ext hb)
          clear hb HS11
          go_wp2_with fail
          with_reducible refine (awake_any _ (fun w' he => ⟨HG.out _ (HS12.out.x.trans he), HF.out _ (HS12.out.x.trans he)⟩)).mono ?_
          rintro e w13 ⟨rfl, hb⟩
          have HX := Lib.hid (HS12.out.x.trans hb)
          clear hb HS12
          go_wp2
          go_ret
          exact ⟨rfl, HX.out⟩
        · have hz' : (sc != 0) = true := by rw [bne_iff_ne]; exact hz
          clear hz
          go_wp2_with fail
          with_reducible refine (awake_any _ (fun w' he => ⟨HG.out _ (HS8.out.x.trans he), HF.out _ (HS8.out.x.trans he)⟩)).mono ?_
          rintro e w13 ⟨rfl, hb⟩
          have HX := Lib.hid (HS8.out.x.trans hb)
          clear hb HS8
          go_wp2
          go_ret
          exact ⟨rfl, HX.out⟩
theorem itemSucceeds_laid (os : Os) : laidMet Tryd.prog Rows.itemSucceedsRow.laid ((laidW os).forCall (fun _ _ => 0) ⟨#[], #[.agg #[.int .i64 0, .int .i64 0, .int .i64 0, .string ⟨#[]⟩, .slice none 0 0, .slice none 0 0, .int .i64 0, .int .i64 0, .slice none 0 0, .int .i64 0, .string ⟨#[]⟩, .int .i64 0, .int .i64 0, .int .i64 0, .int .i64 0, .slice none 0 0, .int .i64 0], .agg #[.int .i64 0, .int .i64 0, .int .i64 0, .string ⟨#[]⟩, .slice none 0 0, .slice none 0 0, .int .i64 0, .int .i64 0, .slice none 0 0, .int .i64 0, .string ⟨#[]⟩, .int .i64 0, .int .i64 0, .int .i64 0, .int .i64 0, .slice none 0 0, .int .i64 0]], []⟩).memory :=
  laidMet_of_run' 8 (by kernel_rfl) (by kernel_rfl)
theorem itemSucceeds_reads (os : Os) {H : Type} (enc : TypeId × Value → H) : ∃ places, DataW.whole enc Tryd.prog ((laidW os).forCall (fun _ _ => 0) ⟨#[], #[.agg #[.int .i64 0, .int .i64 0, .int .i64 0, .string ⟨#[]⟩, .slice none 0 0, .slice none 0 0, .int .i64 0, .int .i64 0, .slice none 0 0, .int .i64 0, .string ⟨#[]⟩, .int .i64 0, .int .i64 0, .int .i64 0, .int .i64 0, .slice none 0 0, .int .i64 0], .agg #[.int .i64 0, .int .i64 0, .int .i64 0, .string ⟨#[]⟩, .slice none 0 0, .slice none 0 0, .int .i64 0, .int .i64 0, .slice none 0 0, .int .i64 0, .string ⟨#[]⟩, .int .i64 0, .int .i64 0, .int .i64 0, .int .i64 0, .slice none 0 0, .int .i64 0]], []⟩).memory Tryd.f3.params.toList Rows.itemSucceedsSpec.vars false (#[.agg #[.int .i64 0, .int .i64 0, .int .i64 0, .string ⟨#[]⟩, .slice none 0 0, .slice none 0 0, .int .i64 0, .int .i64 0, .slice none 0 0, .int .i64 0, .string ⟨#[]⟩, .int .i64 0, .int .i64 0, .int .i64 0, .int .i64 0, .slice none 0 0, .int .i64 0], .agg #[.int .i64 0, .int .i64 0, .int .i64 0, .string ⟨#[]⟩, .slice none 0 0, .slice none 0 0, .int .i64 0, .int .i64 0, .slice none 0 0, .int .i64 0, .string ⟨#[]⟩, .int .i64 0, .int .i64 0, .int .i64 0, .int .i64 0, .slice none 0 0, .int .i64 0]] : Array Value).toList 8 = some ([.agg [.lit (.int .i64 0), .lit (.int .i64 0), .lit (.int .i64 0), .lit (.string []), .nil, .nil, .lit (.int .i64 0), .lit (.int .i64 0), .nil, .lit (.int .i64 0), .lit (.string []), .lit (.int .i64 0), .lit (.int .i64 0), .lit (.int .i64 0), .lit (.int .i64 0), .nil, .lit (.int .i64 0)], .agg [.lit (.int .i64 0), .lit (.int .i64 0), .lit (.int .i64 0), .lit (.string []), .nil, .nil, .lit (.int .i64 0), .lit (.int .i64 0), .nil, .lit (.int .i64 0), .lit (.string []), .lit (.int .i64 0), .lit (.int .i64 0), .lit (.int .i64 0), .lit (.int .i64 0), .nil, .lit (.int .i64 0)]], [], places) :=
  ⟨[], by kernel_rfl⟩
set_option maxRecDepth 100000 in
theorem itemSucceeds_lifted (os : Os) (started : os.Started) (H : Type) (enc : TypeId × Value → H) (F : Stop.Interp) :
    ReturnsInHanded {} Tryd.checked os 3 .any ((OpenSpec.ofChange Rows.itemSucceedsSpec).preRow enc Tryd.prog Tryd.f3 Rows.itemSucceedsRow.domain false Rows.itemSucceedsRow.laid) (((OpenSpec.ofChange Rows.itemSucceedsSpec).at F).post enc Tryd.prog Tryd.f3 false true false false) := by
  obtain ⟨places, hx⟩ := itemSucceeds_reads os enc
  refine returnsInHanded_of_row (C := Tryd.checked) (s := (OpenSpec.ofChange Rows.itemSucceedsSpec)) Tryd.own started (by kernel_rfl) Tryd.func3
    (witness_row_at (enc := enc) (C := Tryd.checked) false (laidW os) #[.agg #[.int .i64 0, .int .i64 0, .int .i64 0, .string ⟨#[]⟩, .slice none 0 0, .slice none 0 0, .int .i64 0, .int .i64 0, .slice none 0 0, .int .i64 0, .string ⟨#[]⟩, .int .i64 0, .int .i64 0, .int .i64 0, .int .i64 0, .slice none 0 0, .int .i64 0], .agg #[.int .i64 0, .int .i64 0, .int .i64 0, .string ⟨#[]⟩, .slice none 0 0, .slice none 0 0, .int .i64 0, .int .i64 0, .slice none 0 0, .int .i64 0, .string ⟨#[]⟩, .int .i64 0, .int .i64 0, .int .i64 0, .int .i64 0, .slice none 0 0, .int .i64 0]] rfl (by kernel_rfl) (by kernel_rfl) (by kernel_rfl)
      (OpenSpec.preRow_of_cond 8 hx (by kernel_rfl) (fun k hk => by cases hk) (by kernel_rfl) (itemSucceeds_laid os))) ?_
  intro W base args ds gs before hval0 hW _ hcond hsz0 hL hsh _
  have hval : ∀ (j : Nat) t v, Tryd.f3.params[j]? = some t → args[j]? = some v → Value.okWide Tryd.prog W .any base t v := hval0
  have hW' : DataW.Whole enc Tryd.prog Tryd.f3.params.toList Rows.itemSucceedsSpec.vars false W args.toList ds gs before := hW
  have hW2 := hW'
  obtain ⟨p, q, hA0, hV, rfl, hfz, hnd⟩ := hW2
  have hA : DataW.TrodAll enc Tryd.prog W 0 (fun _ => true) true Tryd.f3.params.toList args.toList ds p := hA0
  rw [Tryd.params3] at hA hval
  obtain ⟨v0, vs0, d0, ds0, p0, q0, hargs, rfl, rfl, h0, r0⟩ := trodAll_cons hA
  obtain ⟨v1, vs1, d1, ds1, p1, q1, rfl, rfl, rfl, h1, r1⟩ := trodAll_cons r0
  obtain ⟨rfl, rfl, rfl⟩ := trodAll_nil r1
  obtain rfl : args = #[v0, v1] := by cases args; simp_all
  obtain ⟨rfl, rfl⟩ := trodVars_none hV
  obtain ⟨mx, hmx⟩ := Go.Proofs.cell_of_shapedOpen_int (g := 1) (zero := #[.int .i64 0]) (t := 3) hsh (by decide +kernel) (by kernel_rfl) (by decide) (by kernel_rfl) (by kernel_rfl) Tryd.underlying3
  have hsz : (DataW.weightsEach Tryd.prog (Tryd.f3.params.toList ++ Rows.itemSucceedsSpec.plain.varTypes Tryd.prog) _).all (· ≤ reachBytes) = true := hsz0
  rw [Tryd.params3] at hsz
  obtain ⟨a, La, rfl, hR1⟩ := item_open (hval 0 25 v0 rfl rfl) h0 (light_arg hsz (j := 0) rfl rfl)
  obtain ⟨b, Lb, rfl, hR2⟩ := item_open (hval 1 25 v1 rfl rfl) h1 (light_arg hsz (j := 1) rfl rfl)
  refine (itemSucceeds_walk a b La Lb W hR1 hR2 ⟨mx, hmx⟩ (fld_of hL (by kernel_rfl) (by kernel_rfl))).mono fun e W' ⟨he, hw⟩ => ?_
  subst he
  exact ⟨_, rfl, law_post (s := Rows.itemSucceedsSpec) hW' Tryd.laidOut (by kernel_rfl) rfl (by rfl) rfl Tryd.underlying4 hw⟩

theorem itemSucceeds_holds : Rows.ItemSucceedsSaid :=
  OpenClaim.holds_of_cond 3 Tryd.f3 rfl rfl rfl rfl rfl rfl rfl ⟨rfl, rfl, rfl, rfl, rfl⟩ rfl rfl rfl rfl rfl (by kernel_rfl) Tryd.func3 (by kernel_rfl)
    (of_decide_eq_true (by kernel_rfl)) (by unfold Func.isWrapper; first | (rw [if_pos (by decide +kernel)]; kernel_rfl) | (rw [if_neg (by decide +kernel)]; exact ⟨rfl, rfl⟩))
    (fun os started H enc _ F => by rw [OpenClaim.pre_eq_preRow]; exact itemSucceeds_lifted os started H enc F)
theorem itemSucceeds_card : Rows.ItemSucceedsCardSaid :=
  Claim7.holds_tied_plain_at .later [] _ _ _ _
    itemSucceeds_holds (fun _ h => by cases h) (by kernel_rfl) (fun _ h => by cases h) itemSucceeds_row_tie rfl ⟨rfl, rfl⟩ (by kernel_rfl) rfl
    (fun f fn hf hfn => by
      obtain rfl : f = 3 := Option.some.inj ((show Tryd.prog.funcNamed Rows.itemSucceedsRow.func = some 3 by kernel_rfl).symm.trans hf) |>.symm
      obtain rfl : fn = Tryd.f3 := (Option.some.inj (Tryd.func3.symm.trans hfn)).symm
      exact ⟨by kernel_rfl, fun j t ht => by
        rw [Tryd.params3] at ht
        have hm : t ∈ [25, 25] := by simpa using Array.mem_of_getElem? ht
        have hall : ([25, 25].all fun u => !Tryd.prog.wantsStandIn u) = true := by kernel_rfl
        exact (show Tryd.prog.wantsStandIn t = false by simpa using List.all_eq_true.1 hall t hm)⟩)
    (by kernel_rfl)
#print axioms itemSucceeds_card

end Go.Proofs.YtdaccamiipknmaaDoor
