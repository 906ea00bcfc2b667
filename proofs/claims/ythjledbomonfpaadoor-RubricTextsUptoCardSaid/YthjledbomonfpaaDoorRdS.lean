/- Parse in both: contracts for the walk. Conditions: those of each theorem. -/
import Derived.Test.YthjledbomonfpaaDoorRdM
import Derived.Test.YthjledbomonfpaaDoorShSplit
import Derived.Shelf.Strings.PiecesUse
namespace Go.Proofs.YthjledbomonfpaaDoor
open Go.RowKit

namespace Tk
/-- What Parse returns: the marks, the error. -/
def parE (id : Int) (ts : List Rub.Trait) (s : ByteArray) : Int := if (cuts s.data.toList).all rdOk then Rub.checkE id ts ((cuts s.data.toList).map val) else 2
def parM (id : Int) (ts : List Rub.Trait) (s : ByteArray) : List Int := if parE id ts s = 0 then (cuts s.data.toList).map val else []
theorem par_bad {id : Int} {ts : List Rub.Trait} {s : ByteArray} (h : (cuts s.data.toList).all rdOk = false) : parE id ts s = 2 ∧ parM id ts s = [] := by
  have e : parE id ts s = 2 := by unfold parE; rw [h]; rfl
  exact ⟨e, by unfold parM; rw [if_neg (by rw [e]; decide)]⟩
theorem par_err {id : Int} {ts : List Rub.Trait} {s : ByteArray} (h : (cuts s.data.toList).all rdOk = true) (h2 : Rub.checkE id ts ((cuts s.data.toList).map val) ≠ 0) : parE id ts s = Rub.checkE id ts ((cuts s.data.toList).map val) ∧ parM id ts s = [] := by
  have e : parE id ts s = Rub.checkE id ts ((cuts s.data.toList).map val) := by unfold parE; rw [h]; rfl
  exact ⟨e, by unfold parM; rw [if_neg (by rw [e]; exact h2)]⟩
theorem par_ok {id : Int} {ts : List Rub.Trait} {s : ByteArray} (h : (cuts s.data.toList).all rdOk = true) (h2 : Rub.checkE id ts ((cuts s.data.toList).map val) = 0) : parE id ts s = 0 ∧ parM id ts s = (cuts s.data.toList).map val := by
  have e : parE id ts s = 0 := by unfold parE; rw [h]; exact h2
  exact ⟨e, by unfold parM; rw [if_pos e]⟩
theorem rd_val {l : List UInt8} (h : rdOk l = true) : rdN l = val l ∧ rdM l = val l ∧ 0 ≤ val l ∧ val l ≤ 99 := by
  have h1 : okD l = true := by unfold rdOk at h; exact (Bool.and_eq_true _ _ ▸ h).2
  have h2 : l.length ≤ 2 := by unfold rdOk at h; have := (Bool.and_eq_true _ _ ▸ h).1; simp only [decide_eq_true_eq] at this; exact this.2.1
  have := val_bd l h1 h2
  exact ⟨by unfold rdN; rw [if_pos h], by unfold rdM; rw [if_pos h], this.1, this.2.1⟩
theorem cuts_at {s : ByteArray} {k : Nat} {x : ByteArray} (h : (pcs s)[k]? = some x) : (cuts s.data.toList)[k]? = some x.data.toList := by
  rw [← pcs_cuts, List.getElem?_map, h]; rfl
theorem cuts_small : ∀ {l x : List UInt8}, x ∈ cuts l → x.length ≤ l.length
  | [], x, h => by simp [cuts] at h; subst h; simp
  | c :: l, x, h => by
    rw [cuts] at h
    split at h
    · rcases List.mem_cons.1 h with rfl | g
      · simp
      · have := cuts_small g
        simp only [List.length_cons]; omega
    · have hne := cuts_ne l
      cases hc : cuts l with
      | nil => exact absurd hc hne
      | cons a r =>
        rw [hc] at h
        have h0 : a ∈ cuts l := by rw [hc]; simp
        rcases List.mem_cons.1 h with rfl | g
        · have := cuts_small h0
          simp only [List.headD_cons, List.length_cons]; omega
        · have : x ∈ cuts l := by rw [hc]; exact List.mem_cons_of_mem _ g
          have := cuts_small this
          simp only [List.length_cons]; omega
theorem cuts_len (s : ByteArray) : (cuts s.data.toList).length = (pcs s).length := by rw [← pcs_cuts, List.length_map]
end Tk

theorem readMark_to {x : ByteArray} (hs : x.size ≤ maxLen) {n : Int} {b : Bool} (hn : Tk.rdN x.data.toList = n) (hb : Tk.rdOk x.data.toList = b) (w : World) :
    Calls Tryd.prog 20 #[.string x] w fun e w' => e = .returned (.tuple #[.int .i64 n, .bool b]) ∧ w' = w := by
  subst hn hb
  exact readMark_any x hs w
theorem mark_to {x : ByteArray} (hs : x.size ≤ maxLen) {n : Int} (hn : Tk.rdM x.data.toList = n) (w : World) :
    Calls Tryd.prog 21 #[.string x] w fun e w' => e = .returned (.int .i64 n) ∧ w' = w := by
  subst hn
  exact mark_any x hs w
theorem split_to (s : ByteArray) (m : Int) (w : World) (hs : s.size < 4294967281) (hm : w.cell? ⟨0, 0, none⟩ = some (.int .i64 m)) {n : Nat} (hn : (Tk.pcs s).length = n) :
    Calls Tryd.prog 19 #[.string s, .string ⟨#[47]⟩] w fun e w' => e = .returned (.slice (some ⟨w.heap.size, 0, none⟩) n n) ∧ w' = w.alloc (.cells ((Tk.pcs s).map Value.string).toArray 9) := by
  subst hn
  rw [Tk.pcs_len]
  exact Tryd.strings_Split s ⟨#[47]⟩ m w hs hm (by decide)
theorem ints_form (l : List (List UInt8)) : (l.map Tk.val).map (fun x => [Value.int .i64 x]) = l.map fun x => [Value.int .i64 (Tk.val x)] := by rw [List.map_map]; rfl

set_option maxRecDepth 100000 in
set_option maxHeartbeats 3200000 in
theorem parse_any (id : Int) (A : Option Addr) (c : Nat) (ts : List Rub.Trait) (s : ByteArray) (m : Int) (w : World) (h : RubIn w id A c ts) (hs : s.size < 4294967281) (hm : w.cell? ⟨0, 0, none⟩ = some (.int .i64 m)) :
    Calls Tryd.prog 6 #[.agg #[.int .i64 id, .slice A ts.length c], .string s] w (RetIntsErr (Tk.parM id ts s) (Tk.parE id ts s) w) := by
  have H := Lib.hid h
  have HMX := Lib.hid hm
  clear h hm
  have e0 : Ext w (w.alloc (.cells #[.int .i64 id, .slice A ts.length c] 24)) := (Ext.refl _).alloc _
  have k0 : (w.alloc (.cells #[.int .i64 id, .slice A ts.length c] 24)).cell? ⟨w.heap.size, 0, none⟩ = some (.int .i64 id) := by simp [go_sem]
  have k1 : (w.alloc (.cells #[.int .i64 id, .slice A ts.length c] 24)).cell? ⟨w.heap.size, 1, none⟩ = some (.slice A ts.length c) := by simp [go_sem]
  have HC := Lib.hid (Tk.pcs_cuts s)
  have hpl := Tk.pcs_le s
  obtain ⟨n, hn⟩ : ∃ n, (Tk.pcs s).length = n := ⟨_, rfl⟩
  rw [hn] at hpl
  have HN := Lib.hid hn
  clear hn
  obtain ⟨i0, hi0, hz0, hz1, hz2⟩ := info_parts Tryd.infoInt
  go_enter Tryd.func6, Tryd.ntmps6
  go_wp2_with fail
  generalize (w.alloc (.cells #[.int .i64 id, .slice A ts.length c] 24)) = W0 at *
  refine (split_to s m _ hs (e0.keep HMX.out) HN.out).mono ?_
  rintro e w1 ⟨rfl, hw1⟩
  have hcell : Hid (∀ (j : Nat) x, (Tk.pcs s)[j]? = some x → w1.cell? ⟨W0.heap.size, j, none⟩ = some (.string x)) := Lib.hid (fun j x hx => by rw [hw1]; exact Lib.pieces_cell_at W0 (Tk.pcs s) _ j x hx)
  have e1 : Ext W0 w1 := by rw [hw1]; exact (Ext.refl _).alloc _
  have hsz : W0.heap.size < w1.heap.size := by rw [hw1]; simp
  clear hw1
  have K0 := Lib.hid (e1.keep k0)
  have K1 := Lib.hid (e1.keep k1)
  clear k0 k1
  go_wp2_with fail
  go_loopw [15, 6] (fun i v wr => ∃ (k : Nat), k ≤ n ∧ i = .int .i64 k ∧ wr.ownsRow w1.heap.size 3 1 v k (((Tk.cuts s.data.toList).take k).map fun x => [Value.int .i64 (Tk.val x)]).flatten ∧ ((Tk.cuts s.data.toList).take k).all Tk.rdOk = true ∧ Ext w1 wr) (fun i _ _ => n - (intOf i).toNat)
  case atStart => exact ⟨0, by omega, rfl, own_nil _ _ _ _, by simp, Ext.refl _⟩
  case round =>
    obtain ⟨k, hk, rfl, hown, hall, he⟩ := hrel
    have hszr := he.size
    have HALL := Lib.hid hall
    clear hall
    by_cases hlt : k < n
    · obtain ⟨x, hx⟩ : ∃ x, (Tk.pcs s)[k]? = some x := ⟨(Tk.pcs s)[k]'(by rw [HN.out]; exact hlt), List.getElem?_eq_getElem _⟩
      have hc := Tk.cuts_at hx
      have cx := he.keep (hcell.out k x hx)
      have hxs : x.size ≤ maxLen := by
        have h1 := Tk.cuts_small (List.mem_of_getElem? hc)
        have h2 : x.data.toList.length = x.size := rfl
        have h3 : s.data.toList.length = s.size := rfl
        unfold maxLen
        omega
      have HXS := Lib.hid hxs
      have HT : Hid ((Tk.cuts s.data.toList).take (k + 1) = (Tk.cuts s.data.toList).take k ++ [x.data.toList]) := Lib.hid (by rw [List.take_add_one, hc]; rfl)
      have ki0 : (0 : Int) ≤ (k : Int) := by omega
      have ki1 : (k : Int) < (n : Int) := by omega
      have hge := own_ge hown
      have HOWN := Lib.hid hown
      have HGE := Lib.hid hge
      have HMEM := Lib.hid (List.mem_of_getElem? hc)
      clear hown hge hx hc hxs
      cases hb : Tk.rdOk x.data.toList with
      | false =>
        have HB := Lib.hid hb
        have HN0 : Hid (Tk.rdN x.data.toList = 0) := Lib.hid (by unfold Tk.rdN; rw [hb]; rfl)
        have HBAD := Lib.hid (Tk.par_bad (id := id) (ts := ts) (s := s) (by rw [List.all_eq_false]; exact ⟨_, HMEM.out, by rw [hb]; simp⟩))
        clear hb
        go_wp2_with fail
        refine (readMark_to HXS.out HN0.out HB.out _).mono ?_
        rintro e w2 ⟨rfl, rfl⟩
        go_wp2
        refine bodyPost_ret (v := .tuple #[.slice none 0 0, .int .i64 2]) (by simp [results, Tryd.results6, go_sem]) rfl ?_
        rw [HBAD.out.1, HBAD.out.2]
        exact ⟨none, 0, rfl, ⟨SlI.nil _ _, Nat.le_refl _, Nat.zero_le _, fun y hy => by simp at hy⟩, e0.trans (e1.trans he)⟩
      | true =>
        have HB := Lib.hid hb
        obtain ⟨r1, r2, r3, r4⟩ := Tk.rd_val hb
        obtain ⟨v, hv⟩ : ∃ v, Tk.val x.data.toList = v := ⟨_, rfl⟩
        rw [hv] at r1 r3 r4
        have HV := Lib.hid hv
        have HR1 := Lib.hid r1
        clear hb hv r1 r2
        go_wp2_with fail
        refine (readMark_to HXS.out HR1.out HB.out _).mono ?_
        rintro e w2 ⟨rfl, rfl⟩
        go_wp2_with (at_builtin; refine wpList_append_lies _ rfl _ _ 25 rfl w1.heap.size 3 i0 (.int .i64 0) 1 8 Tryd.underlying25 hi0 hz0 hz1 hz2 rfl (by decide) _ _ _ rfl (HOWN.out.alloc _) ⟨w2.heap.size, 0, none⟩ 1 1 [.int .i64 v] rfl rfl (cell_one_new _ _ _) (by simp [Value.oneCell']) (by decide) (by unfold maxLen; omega) (by omega) (by simp; omega) (w2.heap.size + 1) (by simp) ?_; intro gg cap w3 hown2 hgrow2 hat hlt2)
        go_wp2
        go_roundw
        case rel =>
          refine ⟨k + 1, by omega, by go_num, ?_, ?_, ?_⟩
          · rw [HT.out, List.map_append, List.flatten_append]
            simp only [List.map_cons, List.map_nil, HV.out]
            exact hown2
          · rw [HT.out, List.all_append, HALL.out]
            simp [HB.out]
          · exact (he.alloc _).grown hgrow2 (fun q hq => HGE.out q hq)
        case measure => simp [intOf]; omega
    · obtain rfl : k = n := by omega
      have hcl : (Tk.cuts s.data.toList).take k = Tk.cuts s.data.toList := List.take_of_length_le (by rw [Tk.cuts_len, HN.out]; omega)
      rw [hcl] at hown
      have hok := HALL.out
      rw [hcl] at hok
      rw [← ints_form] at hown
      obtain ⟨ms, hms⟩ : ∃ ms, (Tk.cuts s.data.toList).map Tk.val = ms := ⟨_, rfl⟩
      have HOKV : Hid (∀ y ∈ ms, 0 ≤ y ∧ y ≤ 99) := Lib.hid (fun y hy => by
        rw [← hms] at hy
        obtain ⟨l, hl, rfl⟩ := List.mem_map.1 hy
        exact (Tk.rd_val (List.all_eq_true.1 hok l hl)).2.2)
      have hml : ms.length = k := by rw [← hms, List.length_map, Tk.cuts_len, HN.out]
      rw [hms] at hown
      obtain ⟨X, xc, hv, x1, x2, hX⟩ := Sl.of_own (k := 1) (fun c hc => by obtain ⟨y, -, rfl⟩ := List.mem_map.1 hc; rfl) (by rw [List.length_map]; exact hml) hown
      rw [List.length_map] at hv x1
      subst hv
      have HIL : Hid ((⟨X, xc, ms⟩ : IL).In wr) := Lib.hid ⟨hX, x1, x2, fun y hy => by have := HOKV.out y hy; exact ⟨by omega, by omega⟩⟩
      have HMS := Lib.hid hms
      have HOK := Lib.hid hok
      have hmax : ms.length ≤ maxLen := Nat.le_trans x1 x2
      have HMAX := Lib.hid hmax
      have q0 := he.keep K0.out
      have q1 := he.keep K1.out
      have xw : Ext w wr := e0.trans (e1.trans he)
      clear hown hcl hok hms hX hml hmax
      by_cases hz : Rub.checkE id ts ms = 0
      · have HZ := Lib.hid hz
        have HP := Lib.hid (Tk.par_ok (id := id) (ts := ts) (s := s) HOK.out (by rw [HMS.out]; exact hz))
        clear hz
        go_wp2_with fail
        refine (check_any id A c ts X xc ms _ (H.out.ext xw) HIL.out.1 HMAX.out).mono ?_
        rw [HZ.out]
        rintro e w2 ⟨rfl, hb2⟩
        go_wp2
        refine bodyPost_ret (v := .tuple #[.slice X ms.length xc, .int .i64 0]) (by simp [results, Tryd.results6, go_sem]) rfl ?_
        rw [HP.out.1, HP.out.2, HMS.out]
        exact ⟨X, xc, rfl, HIL.out.ext hb2, xw.trans hb2⟩
      · have hz' : (Rub.checkE id ts ms != 0) = true := by rw [bne_iff_ne]; exact hz
        have HP := Lib.hid (Tk.par_err (id := id) (ts := ts) (s := s) HOK.out (by rw [HMS.out]; exact hz))
        clear hz
        go_wp2_with fail
        refine (check_any id A c ts X xc ms _ (H.out.ext xw) HIL.out.1 HMAX.out).mono ?_
        rintro e w2 ⟨rfl, hb2⟩
        go_wp2
        refine bodyPost_ret (v := .tuple #[.slice none 0 0, .int .i64 (Rub.checkE id ts ms)]) (by simp [results, Tryd.results6, go_sem]) rfl ?_
        rw [HP.out.1, HP.out.2, HMS.out]
        exact ⟨none, 0, rfl, ⟨SlI.nil _ _, Nat.le_refl _, Nat.zero_le _, fun y hy => by simp at hy⟩, xw.trans hb2⟩
end Go.Proofs.YthjledbomonfpaaDoor
