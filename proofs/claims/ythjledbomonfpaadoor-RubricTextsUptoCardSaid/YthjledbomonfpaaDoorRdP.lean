/- Print in both: contracts for the walk. Conditions: those of each theorem. -/
import Derived.Test.YthjledbomonfpaaDoorRdC
import Derived.Test.YthjledbomonfpaaDoorItoa
import Derived.Test.YthjledbomonfpaaDoorApp
import Derived.Test.YthjledbomonfpaaDoorShJoin
import Derived.Deep.AppendLies
namespace Go.Proofs.YthjledbomonfpaaDoor
open Go.RowKit

namespace Tk
/-- The printed form of marks. -/
def prM (ms : List Int) : List UInt8 := Lib.join (ms.map fun m => dec m.toNat) [47]
theorem tail_snoc (r : List (List UInt8)) (x : List UInt8) : Lib.joinTail [47] (r ++ [x]) = Lib.joinTail [47] r ++ ([47] ++ x) := by
  unfold Lib.joinTail
  rw [List.map_append, List.flatten_append]
  simp
theorem prM_snoc (ms : List Int) (m : Int) : prM (ms ++ [m]) = (if ms = [] then [] else prM ms ++ [47]) ++ dec m.toNat := by
  unfold prM
  cases ms with
  | nil => simp [Lib.join_one]
  | cons a r =>
    rw [if_neg (by simp), List.cons_append, List.map_cons, List.map_cons, List.map_append, List.map_cons, List.map_nil, Lib.join_cons, Lib.join_cons, tail_snoc]
    simp
theorem tail_len : ∀ r : List (List UInt8), (∀ x ∈ r, x.length ≤ 2) → (Lib.joinTail [47] r).length ≤ 3 * r.length
  | [], _ => by simp [Lib.joinTail]
  | x :: r, h => by
    have h1 := tail_len r (fun y hy => h y (List.mem_cons_of_mem _ hy))
    have h2 := h x (by simp)
    unfold Lib.joinTail at *
    simp only [List.map_cons, List.flatten_cons, List.length_append, List.length_cons, List.length_nil]
    omega
theorem join_len (xs : List (List UInt8)) (h : ∀ x ∈ xs, x.length ≤ 2) : (Lib.join xs [47]).length ≤ 3 * xs.length := by
  cases xs with
  | nil => simp [Lib.join_nil]
  | cons x r =>
    have h1 := tail_len r (fun y hy => h y (List.mem_cons_of_mem _ hy))
    have h2 := h x (by simp)
    rw [Lib.join_cons, List.length_append, List.length_cons]
    omega
theorem prM_len (ms : List Int) : (prM ms).length ≤ 3 * ms.length := by
  have := join_len (ms.map fun m => dec m.toNat) (fun x hx => by obtain ⟨m, -, rfl⟩ := List.mem_map.1 hx; exact dec_len _)
  rw [List.length_map] at this
  exact this
theorem take_ne {ms : List Int} {k : Nat} (hk : k ≤ ms.length) (h : 0 < k) : ¬ ms.take k = [] := fun e => by
  have h1 : (ms.take k).length = k := by rw [List.length_take]; omega
  rw [e] at h1
  have h2 : (0 : Nat) = k := h1
  omega
/-- What Print returns. -/
def prV (id : Int) (ts : List Rub.Trait) (ms : List Int) : ByteArray := if Rub.checkE id ts ms = 0 then str (prM ms) else ⟨#[]⟩
end Tk
theorem Tryd.infoStr : (Tryd.prog.info? 9).map (fun i => (i.zero, i.size, i.bytes)) = some (some (.string ⟨#[]⟩), 1, 16) := by kernel_rfl
theorem itoa_to (x : Int) (i : Nat) (hx : x = i) (hi : i < 100) (w : World) :
    Calls Tryd.prog 24 #[.int .i64 x] w fun e w' => e = .returned (.string (Tk.str (Tk.dec i))) ∧ w' = w := by
  subst hx
  exact itoa_any i hi w
theorem join_to (bk o c n : Nat) (xs : List ByteArray) (w : World) (hn : xs.length = n) (hcells : ∀ (j : Nat) x, xs[j]? = some x → w.cell? ⟨bk, o + j, none⟩ = some (.string x)) (hbk : bk < w.heap.size) (hN : n ≤ 1000) (hcap : n ≤ c) (h2 : ∀ x ∈ xs, x.size ≤ 2) :
    Calls Tryd.prog 25 #[.slice (some ⟨bk, o, none⟩) n c, .string ⟨#[47]⟩] w fun e w' => e = .returned (.string (Tk.str (Lib.join (xs.map (·.data.toList)) [47]))) ∧ Ext w w' := by
  subst hn
  have hj := Tk.join_len (xs.map (·.data.toList)) (fun x hx => by obtain ⟨y, hy, rfl⟩ := List.mem_map.1 hx; exact h2 y hy)
  rw [List.length_map] at hj
  exact Tryd.strings_Join bk o c xs ⟨#[47]⟩ w hcells hbk (by omega) hcap (by show (Lib.join (xs.map (·.data.toList)) [47]).length ≤ _; omega)
theorem marks_small {id : Int} {ts : List Rub.Trait} {ms : List Int} (h : Rub.checkE id ts ms = 0) {k : Nat} {m : Int} (hm : ms[k]? = some m) : 0 ≤ m ∧ m ≤ 10 := by
  obtain ⟨h1, h2, h3⟩ := Rub.check_zero h
  obtain ⟨l1, l2, hall⟩ := Rub.valid_zero h1
  have hk : k < ms.length := by
    rcases Nat.lt_or_ge k ms.length with g | g
    · exact g
    · rw [List.getElem?_eq_none g] at hm; cases hm
  have ht : ts[k]? = some ts[k] := List.getElem?_eq_getElem (by omega)
  have h4 := Rub.marks_at h3 ht hm
  have h5 := hall _ (List.mem_of_getElem? ht)
  omega

set_option maxHeartbeats 1600000 in
theorem print_any (id : Int) (A : Option Addr) (c : Nat) (ts : List Rub.Trait) (M : Option Addr) (d : Nat) (ms : List Int) (w : World) (h : RubIn w id A c ts) (hM : SlI w M ms) (hd : ms.length ≤ maxLen) :
    Calls Tryd.prog 17 #[.agg #[.int .i64 id, .slice A ts.length c], .slice M ms.length d] w fun e w' => e = .returned (.tuple #[.string (Tk.prV id ts ms), .int .i64 (Rub.checkE id ts ms)]) ∧ Ext w w' := by
  have H := Lib.hid h
  have HM := Lib.hid hM
  have HD := Lib.hid hd
  unfold Tk.prV
  clear h hM hd
  by_cases hz : Rub.checkE id ts ms = 0
  · obtain ⟨hv, hl, hmk⟩ := Rub.check_zero hz
    obtain ⟨l1, l2, -⟩ := Rub.valid_zero hv
    have HZ := Lib.hid hz
    rw [if_pos hz, hz]
    have m1 : 1 ≤ ms.length := by omega
    have m6 : ms.length ≤ 6 := by omega
    clear hz hv hl hmk l1 l2
    obtain ⟨i0, hi0, hz0, hz1, hz2⟩ := info_parts Tryd.infoStr
    go_enter Tryd.func17, Tryd.ntmps17
    go_wp2_with fail
    refine (check_any id A c ts M d ms _ (H.out.ext ((Ext.refl _).alloc _)) (HM.out.ext ((Ext.refl _).alloc _)) HD.out).mono ?_
    rintro e w1 ⟨rfl, hb1⟩
    rw [HZ.out]
    have hx1 : Ext w w1 := ((Ext.refl _).alloc _).trans hb1
    have HM1 := Lib.hid (HM.out.ext hx1)
    go_wp2_with fail
    go_loopw [18, 7] (fun i v wr => ∃ (k : Nat), k ≤ ms.length ∧ i = .int .i64 k ∧ wr.ownsRow w1.heap.size 9 1 v k ((ms.take k).map fun m => [Value.string (Tk.str (Tk.dec m.toNat))]).flatten ∧ Ext w1 wr) (fun i _ _ => ms.length - (intOf i).toNat)
    case atStart => exact ⟨0, by omega, rfl, own_nil _ _ _ _, Ext.refl _⟩
    case round =>
      obtain ⟨k, hk, rfl, hown, he⟩ := hrel
      have hszr := he.size
      by_cases hlt : k < ms.length
      · obtain ⟨b, o, m, rfl, hb, hm, cm⟩ := (HM1.out.ext he).at_ (i := k) hlt
        have hms := marks_small HZ.out hm
        obtain ⟨p, hp⟩ : ∃ p : Nat, m = p := ⟨m.toNat, by omega⟩
        have hp2 : p < 100 := by omega
        have HP := Lib.hid hp
        have HT : Hid (ms.take (k + 1) = ms.take k ++ [m]) := Lib.hid (by rw [List.take_add_one, hm]; rfl)
        have ki0 : (0 : Int) ≤ (k : Int) := by omega
        have ki1 : (k : Int) < (ms.length : Int) := by omega
        have hge := own_ge hown
        have HOWN := Lib.hid hown
        have HGE := Lib.hid hge
        clear hown hge hm hp
        go_wp2_with fail
        refine (itoa_to _ p HP.out hp2 _).mono ?_
        rintro e w2 ⟨rfl, rfl⟩
        go_wp2_with (at_builtin; refine wpList_append_lies _ rfl _ _ 39 rfl w1.heap.size 9 i0 (.string ⟨#[]⟩) 1 16 Tryd.underlying39 hi0 hz0 hz1 hz2 rfl (by decide) _ _ _ rfl (HOWN.out.alloc _) ⟨w2.heap.size, 0, none⟩ 1 1 [.string (Tk.str (Tk.dec p))] rfl rfl (cell_one_new _ _ _) (by simp [Value.oneCell']) (by decide) (by unfold maxLen; omega) (by omega) (by simp; omega) (w2.heap.size + 1) (by simp) ?_; intro gg cap w3 hown2 hgrow2 hat hlt2)
        go_wp2
        go_roundw
        case rel =>
          refine ⟨k + 1, by omega, by go_num, ?_, ?_⟩
          · rw [HT.out, List.map_append, List.flatten_append]
            have hm' : m.toNat = p := by have := HP.out; omega
            simp only [List.map_cons, List.map_nil, hm']
            exact hown2
          · exact (he.alloc _).grown hgrow2 (fun q hq => HGE.out q hq)
        case measure => simp [intOf]; omega
      · obtain rfl : k = ms.length := by omega
        rw [List.take_length] at hown
        obtain ⟨X, xc, hv, hx1c, hx2c, hX⟩ := Sl.of_own (k := 1) (fun c hc => by obtain ⟨x, -, rfl⟩ := List.mem_map.1 hc; rfl) (by simp) hown
        rw [List.length_map] at hv hx1c
        subst hv
        obtain ⟨m0, hm0⟩ : ∃ m0, ms[0]? = some m0 := ⟨ms[0], List.getElem?_eq_getElem (by omega)⟩
        obtain ⟨bk, o, rfl, hbk, -⟩ := Sl.at_ (i := 0) (cs := [Value.string (Tk.str (Tk.dec m0.toNat))]) hX (by simp [hm0])
        have HC : Hid (∀ (j : Nat) x, (ms.map fun m => Tk.str (Tk.dec m.toNat))[j]? = some x → wr.cell? ⟨bk, o + j, none⟩ = some (.string x)) := Lib.hid (fun j x hx => by
          rw [List.getElem?_map] at hx
          cases hj : ms[j]? with
          | none => rw [hj] at hx; cases hx
          | some m =>
            rw [hj] at hx
            injection hx with hx
            subst hx
            obtain ⟨b', o', e1, -, hc⟩ := Sl.at_ (i := j) (cs := [Value.string (Tk.str (Tk.dec m.toNat))]) hX (by simp [hj])
            injection e1 with e1
            injection e1 with e1 e2
            subst e1 e2
            have := hc 0 _ rfl
            simpa using this)
        clear hown hX hm0
        go_wp2_with fail
        refine (join_to bk o xc ms.length (ms.map fun m => Tk.str (Tk.dec m.toNat)) _ (by simp) HC.out hbk (by omega) hx1c (fun x hx => by obtain ⟨m, -, rfl⟩ := List.mem_map.1 hx; exact Tk.dec_size _)).mono ?_
        rintro e w3 ⟨rfl, hw3⟩
        go_wp2
        refine bodyPost_ret (v := .tuple #[.string (Tk.str (Lib.join ((ms.map fun m => Tk.str (Tk.dec m.toNat)).map (·.data.toList)) [47])), .int .i64 0]) (by simp [results, Tryd.results17, go_sem]) rfl ⟨?_, hx1.trans (he.trans hw3)⟩
        rw [List.map_map]
        rfl
  · have hz' : (Rub.checkE id ts ms != 0) = true := by rw [bne_iff_ne]; exact hz
    rw [if_neg hz]
    clear hz
    go_enter Tryd.func17, Tryd.ntmps17
    go_wp2_with fail
    refine (check_any id A c ts M d ms _ (H.out.ext ((Ext.refl _).alloc _)) (HM.out.ext ((Ext.refl _).alloc _)) HD.out).mono ?_
    rintro e w1 ⟨rfl, hb1⟩
    go_wp2
    exact bodyPost_ret (v := .tuple #[.string ⟨#[]⟩, .int .i64 (Rub.checkE id ts ms)]) (by simp [results, Tryd.results17, go_sem]) rfl ⟨rfl, ((Ext.refl _).alloc _).trans hb1⟩

theorem conv_one (m : Nat) (hm : m < 10) (w : World) : (convert 49 9 (.slice (some ⟨w.heap.size, 0, none⟩) 1 1)).run Tryd.prog (w.alloc (.cells #[.int .u8 (48 + (m : Int))] 5)) = .ok (.string (Tk.str (Tk.dec m))) (w.alloc (.cells #[.int .u8 (48 + (m : Int))] 5)) := by
  have hl : Tk.dec m = [UInt8.ofNat (48 + m)] := by unfold Tk.dec; rw [if_pos hm]
  rw [hl]
  refine run_convert_bytes_back (l := [UInt8.ofNat (48 + m)]) _ _ _ 5 _ _ Tryd.underlying49 Tryd.underlying5 Tryd.underlying9 (fun j hj => ?_)
  have hj2 : j < 1 := hj
  match j, hj2 with
  | 0, _ => simp [go_sem, Addr.add]; omega
set_option maxHeartbeats 1600000 in
theorem refPrint_any (id : Int) (A : Option Addr) (c : Nat) (ts : List Rub.Trait) (M : Option Addr) (d : Nat) (ms : List Int) (w : World) (h : RubIn w id A c ts) (hM : SlI w M ms) (hd : ms.length ≤ maxLen) :
    Calls Tryd.prog 18 #[.agg #[.int .i64 id, .slice A ts.length c], .slice M ms.length d] w fun e w' => e = .returned (.tuple #[.string (Tk.prV id ts ms), .int .i64 (Rub.checkE id ts ms)]) ∧ Ext w w' := by
  have H := Lib.hid h
  have HM := Lib.hid hM
  have HD := Lib.hid hd
  unfold Tk.prV
  clear h hM hd
  by_cases hz : Rub.checkE id ts ms = 0
  · obtain ⟨hv, hl, hmk⟩ := Rub.check_zero hz
    obtain ⟨l1, l2, -⟩ := Rub.valid_zero hv
    have HZ := Lib.hid hz
    rw [if_pos hz, hz]
    have m6 : ms.length ≤ 6 := by omega
    clear hz hv hl hmk l1 l2
    go_enter Tryd.func18, Tryd.ntmps18
    go_wp2_with fail
    refine (refCheck_any id A c ts M d ms _ (H.out.ext ((Ext.refl _).alloc _)) (HM.out.ext ((Ext.refl _).alloc _)) HD.out).mono ?_
    rintro e w1 ⟨rfl, hb1⟩
    rw [HZ.out]
    have hx1 : Ext w w1 := ((Ext.refl _).alloc _).trans hb1
    have HM1 := Lib.hid (HM.out.ext hx1)
    go_wp2_with fail
    go_loopw [8, 7] (fun i v wr => ∃ (k : Nat) (s : ByteArray), k ≤ ms.length ∧ i = .int .i64 k ∧ v = .string s ∧ s = Tk.str (Tk.prM (ms.take k)) ∧ s.size ≤ 18 ∧ Ext w1 wr) (fun i _ _ => ms.length - (intOf i).toNat)
    case atStart => exact ⟨0, ⟨#[]⟩, by omega, rfl, rfl, rfl, by simp [ByteArray.size], Ext.refl _⟩
    case round =>
      obtain ⟨k, s, hk, rfl, rfl, hs, hs18, he⟩ := hrel
      have HS := Lib.hid hs
      clear hs
      by_cases hlt : k < ms.length
      · obtain ⟨b, o, m, rfl, hb, hm, cm⟩ := (HM1.out.ext he).at_ (i := k) hlt
        have hms := marks_small HZ.out hm
        obtain ⟨p, rfl⟩ : ∃ p : Nat, m = p := ⟨m.toNat, by omega⟩
        have HT : Hid (ms.take (k + 1) = ms.take k ++ [(p : Int)]) := Lib.hid (by rw [List.take_add_one, hm]; rfl)
        have HSZ : Hid ((Tk.str (Tk.prM (ms.take (k + 1)))).size ≤ 18) := Lib.hid (by rw [Tk.str_size]; have := Tk.prM_len (ms.take (k + 1)); rw [List.length_take] at this; omega)
        have ki0 : (0 : Int) ≤ (k : Int) := by omega
        have ki1 : (k : Int) < (ms.length : Int) := by omega
        have hbw : b < wr.heap.size := hb
        have g1 : ¬ 9223372036854775807 < s.size + 1 := by omega
        have g2 : ¬ 9223372036854775807 < s.size + 2 := by omega
        have g3 : ¬ 9223372036854775807 < s.size + 1 + 2 := by omega
        clear hm
        by_cases h10 : p = 10
        · subst h10
          by_cases hk0 : k = 0
          · subst hk0
            have HR : Hid (s ++ ⟨#[49, 48]⟩ = Tk.str (Tk.prM (ms.take (0 + 1)))) := Lib.hid (by rw [HT.out, HS.out, Tk.prM_snoc]; simp [Tk.prM, Lib.join_nil]; rfl)
            have cm0 : wr.cell? ⟨b, o, none⟩ = some (.int .i64 _) := cm
            have hkk : ¬ (0 : Int) < ((0 : Nat) : Int) := by omega
            go_wp2
            go_roundw
            case rel => exact ⟨0 + 1, _, by omega, by go_num, rfl, HR.out, by rw [HR.out]; exact HSZ.out, he⟩
            case measure => simp [intOf]; omega
          · have hkp : (0 : Int) < (k : Int) := by omega
            have hkp2 : 0 < k := by omega
            have HR : Hid (s ++ ⟨#[47]⟩ ++ ⟨#[49, 48]⟩ = Tk.str (Tk.prM (ms.take (k + 1)))) := Lib.hid (by
              rw [HT.out, HS.out, Tk.prM_snoc, if_neg (Tk.take_ne hk hkp2)]
              rw [show (⟨#[47]⟩ : ByteArray) = Tk.str [47] from rfl, show (⟨#[49, 48]⟩ : ByteArray) = Tk.str (Tk.dec (((10 : Nat) : Int)).toNat) from rfl, Tk.str_append, Tk.str_append])
            go_wp2
            go_roundw
            case rel => exact ⟨k + 1, _, by omega, by go_num, rfl, HR.out, by rw [HR.out]; exact HSZ.out, he⟩
            case measure => simp [intOf]; omega
        · have hp10 : p < 10 := by omega
          have hne : ((p : Int) == 10) = false := by rw [beq_eq_false_iff_ne]; omega
          have hconv := conv_one p hp10 wr
          have hd1 := Tk.dec_size p
          have HP0 : Hid (((p : Int)).toNat = p) := Lib.hid (by omega)
          obtain ⟨x, hx⟩ : ∃ x, Tk.str (Tk.dec p) = x := ⟨_, rfl⟩
          rw [hx] at hconv hd1
          have HX := Lib.hid hx
          clear hx
          have g4 : ¬ 9223372036854775807 < s.size + x.size := by omega
          have g5 : ¬ 9223372036854775807 < s.size + 1 + x.size := by omega
          by_cases hk0 : k = 0
          · subst hk0
            have HR : Hid (s ++ x = Tk.str (Tk.prM (ms.take (0 + 1)))) := Lib.hid (by rw [HT.out, HS.out, Tk.prM_snoc, ← HX.out, HP0.out]; simp [Tk.prM, Lib.join_nil, Tk.str_append])
            have cm0 : wr.cell? ⟨b, o, none⟩ = some (.int .i64 _) := cm
            have hkk : ¬ (0 : Int) < ((0 : Nat) : Int) := by omega
            go_wp2
            go_roundw
            case rel => exact ⟨0 + 1, _, by omega, by go_num, rfl, HR.out, by rw [HR.out]; exact HSZ.out, he.alloc _⟩
            case measure => simp [intOf]; omega
          · have hkp : (0 : Int) < (k : Int) := by omega
            have hkp2 : 0 < k := by omega
            have HR : Hid (s ++ ⟨#[47]⟩ ++ x = Tk.str (Tk.prM (ms.take (k + 1)))) := Lib.hid (by
              rw [HT.out, HS.out, Tk.prM_snoc, if_neg (Tk.take_ne hk hkp2)]
              rw [show (⟨#[47]⟩ : ByteArray) = Tk.str [47] from rfl, ← HX.out, HP0.out, Tk.str_append, Tk.str_append])
            go_wp2
            go_roundw
            case rel => exact ⟨k + 1, _, by omega, by go_num, rfl, HR.out, by rw [HR.out]; exact HSZ.out, he.alloc _⟩
            case measure => simp [intOf]; omega
      · go_wp2
        refine bodyPost_ret (v := .tuple #[.string s, .int .i64 0]) (by simp [results, Tryd.results18, go_sem]) rfl ⟨?_, hx1.trans he⟩
        rw [HS.out, List.take_of_length_le (by omega)]
  · have hz' : (Rub.checkE id ts ms != 0) = true := by rw [bne_iff_ne]; exact hz
    rw [if_neg hz]
    clear hz
    go_enter Tryd.func18, Tryd.ntmps18
    go_wp2_with fail
    refine (refCheck_any id A c ts M d ms _ (H.out.ext ((Ext.refl _).alloc _)) (HM.out.ext ((Ext.refl _).alloc _)) HD.out).mono ?_
    rintro e w1 ⟨rfl, hb1⟩
    go_wp2
    exact bodyPost_ret (v := .tuple #[.string ⟨#[]⟩, .int .i64 (Rub.checkE id ts ms)]) (by simp [results, Tryd.results18, go_sem]) rfl ⟨rfl, ((Ext.refl _).alloc _).trans hb1⟩
end Go.Proofs.YthjledbomonfpaaDoor
