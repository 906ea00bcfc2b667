/- RubricRoundTrip: parsing printed marks gives them back, for every input. The card: tied. No conditions. -/
import Derived.Test.YthjledbomonfpaaDoorRdS
import Derived.Test.YthjledbomonfpaaDoorRdO
import Derived.Test.YthjledbomonfpaaDoorCards
import Derived.Test.YthjledbomonfpaaDoorTie
import Derived.LaidMore
import Derived.Deep.DeepHandedRow
import Derived.SevenTiedAt
import Derived.Shelf.Vars
namespace Go.Proofs.YthjledbomonfpaaDoor
open Go.ChangeShapes Go.WideShapes Go.ChangeAt Go.RowKit

namespace Tk
theorem cuts_join : ∀ (r : List (List UInt8)) (x : List UInt8), (∀ l ∈ x :: r, ∀ c ∈ l, c ≠ 47) → cuts (x ++ Lib.joinTail [47] r) = x :: r
  | [], x, h => by
    rw [show Lib.joinTail [47] [] = [] from rfl, List.append_nil]
    exact cut_end (h x (by simp))
  | y :: r, x, h => by
    rw [show Lib.joinTail [47] (y :: r) = 47 :: (y ++ Lib.joinTail [47] r) from by simp [Lib.joinTail]]
    rw [cut_hit _ (h x (by simp)), cuts_join r y (fun l hl => h l (List.mem_cons_of_mem _ hl))]
theorem cuts_prM (ms : List Int) (hne : ms ≠ []) (h : ∀ m ∈ ms, 0 ≤ m ∧ m ≤ 10) : cuts (prM ms) = ms.map fun m => dec m.toNat := by
  cases ms with
  | nil => exact absurd rfl hne
  | cons a r =>
    unfold prM
    rw [List.map_cons, Lib.join_cons, cuts_join]
    intro l hl
    have hall : ∀ i : Fin 11, ∀ c ∈ dec i.val, c ≠ 47 := by decide +kernel
    rw [← List.map_cons (f := fun m : Int => dec m.toNat)] at hl
    obtain ⟨m, hm, rfl⟩ := List.mem_map.1 hl
    have := h m hm
    exact hall ⟨m.toNat, by omega⟩
theorem dec_rd : ∀ i : Fin 11, rdOk (dec i.val) = true ∧ val (dec i.val) = (i.val : Int) ∧ 1 ≤ (dec i.val).length := by decide +kernel
theorem parse_prM {id : Int} {ts : List Rub.Trait} {ms : List Int} (h : Rub.checkE id ts ms = 0) : parE id ts (str (prM ms)) = 0 ∧ parM id ts (str (prM ms)) = ms ∧ 1 ≤ (str (prM ms)).size ∧ (str (prM ms)).size ≤ 18 := by
  obtain ⟨h1, h2, h3⟩ := Rub.check_zero h
  obtain ⟨l1, l2, -⟩ := Rub.valid_zero h1
  have hb : ∀ m ∈ ms, 0 ≤ m ∧ m ≤ 10 := fun m hm => by
    obtain ⟨k, hk⟩ := List.getElem?_of_mem hm
    exact marks_small h hk
  have hne : ms ≠ [] := fun e => by rw [e] at h2; simp at h2; omega
  have hc : cuts (str (prM ms)).data.toList = ms.map fun m => dec m.toNat := cuts_prM ms hne hb
  have hall : (cuts (str (prM ms)).data.toList).all rdOk = true := by
    rw [hc, List.all_eq_true]
    intro l hl
    obtain ⟨m, hm, rfl⟩ := List.mem_map.1 hl
    have := hb m hm
    exact (dec_rd ⟨m.toNat, by omega⟩).1
  have hv : (cuts (str (prM ms)).data.toList).map val = ms := by
    rw [hc, List.map_map]
    refine (List.map_congr_left (g := fun x => x) (fun m hm => ?_)).trans (List.map_id' ms)
    have hm2 := hb m hm
    have := (dec_rd ⟨m.toNat, by omega⟩).2.1
    simp only [Function.comp] at this ⊢
    omega
  obtain ⟨e1, e2⟩ := par_ok (id := id) (ts := ts) (s := str (prM ms)) hall (by rw [hv]; exact h)
  rw [hv] at e2
  refine ⟨e1, e2, ?_, ?_⟩
  · rw [str_size]
    cases ms with
    | nil => exact absurd rfl hne
    | cons a r =>
      unfold prM
      rw [List.map_cons, Lib.join_cons, List.length_append]
      have := hb a (by simp)
      have := (dec_rd ⟨a.toNat, by omega⟩).2.2
      simp only at this
      omega
  · rw [str_size]
    have := prM_len ms
    omega
end Tk

theorem print_to {id : Int} {ts : List Rub.Trait} {ms : List Int} {p : ByteArray} {x : Int} (hp : Tk.prV id ts ms = p) (hx : Rub.checkE id ts ms = x) (A : Option Addr) (c : Nat) (M : Option Addr) (d : Nat) (w : World) (h : RubIn w id A c ts) (hM : SlI w M ms) (hd : ms.length ≤ maxLen) :
    Calls Tryd.prog 17 #[.agg #[.int .i64 id, .slice A ts.length c], .slice M ms.length d] w fun e w' => e = .returned (.tuple #[.string p, .int .i64 x]) ∧ Ext w w' := by
  subst hp hx
  exact print_any id A c ts M d ms w h hM hd
theorem parse_to {id : Int} {ts : List Rub.Trait} {s : ByteArray} {xs : List Int} {x : Int} (hp : Tk.parM id ts s = xs) (hx : Tk.parE id ts s = x) (A : Option Addr) (c : Nat) (m : Int) (w : World) (h : RubIn w id A c ts) (hs : s.size < 4294967281) (hm : w.cell? ⟨0, 0, none⟩ = some (.int .i64 m)) :
    Calls Tryd.prog 6 #[.agg #[.int .i64 id, .slice A ts.length c], .string s] w (RetIntsErr xs x w) := by
  subst hp hx
  exact parse_any id A c ts s m w h hs hm
theorem ints_eq (X : Option Addr) (xc : Nat) (a : List Int) (Y : Option Addr) (yc : Nat) (w : World) (ha : SlI w X a) (hb : SlI w Y a) (hal : a.length ≤ maxLen) :
    Calls Tryd.prog 8 #[.slice X a.length xc, .slice Y a.length yc] w fun e w' => e = .returned (.bool true) ∧ Ext w w' := by
  refine (ints_any X xc a Y yc a w ha hb hal).mono ?_
  rintro e w' ⟨rfl, h⟩
  exact ⟨by simp, h⟩

set_option maxRecDepth 100000 in
set_option maxHeartbeats 3200000 in
theorem rubricRoundTrip_walk (id : Int) (A : Option Addr) (c : Nat) (ts : List Rub.Trait) (M : Option Addr) (d : Nat) (ms : List Int) (m : Int) (w : World) (h : RubIn w id A c ts) (hM : SlI w M ms) (hd : ms.length ≤ maxLen) (hm : w.cell? ⟨0, 0, none⟩ = some (.int .i64 m)) :
    Calls Tryd.prog 5 #[.agg #[.int .i64 id, .slice A ts.length c], .slice M ms.length d] w fun e w' => e = .returned (.bool true) ∧ Ext w w' := by
  have H := Lib.hid h
  have HM := Lib.hid hM
  have HD := Lib.hid hd
  have HMX := Lib.hid hm
  clear h hM hd hm
  have e0 : Ext w (w.alloc (.cells #[.int .i64 id, .slice A ts.length c] 24)) := (Ext.refl _).alloc _
  have k0 : (w.alloc (.cells #[.int .i64 id, .slice A ts.length c] 24)).cell? ⟨w.heap.size, 0, none⟩ = some (.int .i64 id) := by simp [go_sem]
  have k1 : (w.alloc (.cells #[.int .i64 id, .slice A ts.length c] 24)).cell? ⟨w.heap.size, 1, none⟩ = some (.slice A ts.length c) := by simp [go_sem]
  by_cases hz : Rub.checkE id ts ms = 0
  · have HZ := Lib.hid hz
    obtain ⟨p1, p2, p3, p4⟩ := Tk.parse_prM hz
    have hp : Tk.prV id ts ms = Tk.str (Tk.prM ms) := by unfold Tk.prV; rw [if_pos hz]
    obtain ⟨s, hs⟩ : ∃ s, Tk.str (Tk.prM ms) = s := ⟨_, rfl⟩
    rw [hs] at p1 p2 p3 p4 hp
    have HP := Lib.hid hp
    have P1 := Lib.hid p1
    have P2 := Lib.hid p2
    have p5 : (0 : Int) < (s.size : Int) := by omega
    have p6 : 0 < s.size := by omega
    have HS : Hid (s.size < 4294967281) := Lib.hid (by omega)
    clear hz p1 p2 hp hs
    go_enter Tryd.func5, Tryd.ntmps5
    go_wp2_with fail
    generalize (w.alloc (.cells #[.int .i64 id, .slice A ts.length c] 24)) = W at *
    refine (print_to HP.out HZ.out A c M d _ (H.out.ext e0) (HM.out.ext e0) HD.out).mono ?_
    rintro e w1 ⟨rfl, hb1⟩
    have q0 := hb1.keep k0
    have q1 := hb1.keep k1
    have x1 := e0.trans hb1
    clear k0 k1
    go_wp2_with fail
    refine (parse_to P2.out P1.out A c m _ (H.out.ext x1) HS.out (x1.keep HMX.out)).mono ?_
    rintro e w2 ⟨X, xc, rfl, hX, hb2⟩
    have HX := Lib.hid hX
    clear hX
    have x2 := x1.trans hb2
    go_wp2_with fail
    refine (ints_eq X xc ms M d _ HX.out.1 (HM.out.ext x2) HD.out).mono ?_
    rintro e w3 ⟨rfl, hb3⟩
    go_wp2
    go_ret
    exact ⟨rfl, x2.trans hb3⟩
  · have hz' : (Rub.checkE id ts ms != 0) = true := by rw [bne_iff_ne]; exact hz
    have hp : Tk.prV id ts ms = ⟨#[]⟩ := by unfold Tk.prV; rw [if_neg hz]
    obtain ⟨x, hx⟩ : ∃ x, Rub.checkE id ts ms = x := ⟨_, rfl⟩
    rw [hx] at hz'
    have HP := Lib.hid hp
    have HX := Lib.hid hx
    clear hz hp hx
    go_enter Tryd.func5, Tryd.ntmps5
    go_wp2_with fail
    generalize (w.alloc (.cells #[.int .i64 id, .slice A ts.length c] 24)) = W at *
    refine (print_to HP.out HX.out A c M d _ (H.out.ext e0) (HM.out.ext e0) HD.out).mono ?_
    rintro e w1 ⟨rfl, hb1⟩
    have q0 := hb1.keep k0
    have q1 := hb1.keep k1
    have x1 := e0.trans hb1
    clear k0 k1
    go_wp2_with fail
    refine (check_any id A c ts M d ms _ (H.out.ext x1) (HM.out.ext x1) HD.out).mono ?_
    rw [HX.out]
    rintro e w2 ⟨rfl, hb2⟩
    go_wp2
    go_ret
    exact ⟨rfl, x1.trans hb2⟩

def cellsLaid : DataW Unit → Array Value
  | .agg l => (l.map fun | .lit (.int k n) => Value.int k n | _ => undef).toArray
  | _ => #[]
/-- A world for the witness: the door's own, the pinned table too. -/
noncomputable def laidW (os : Os) : World :=
  { World.doorLaid Tryd.prog 400 os with heap := (World.doorLaid Tryd.prog 400 os).heap.modify 2 fun
      | .cells _ t frozen => .cells (cellsLaid Rows.laid_unicode_utf8_first) t frozen
      | o => o }
theorem rubricRoundTrip_laid (os : Os) : laidMet Tryd.prog Rows.rubricRoundTripRow.laid ((laidW os).forCall (fun _ _ => 0) ⟨#[], #[.agg #[.int .i64 0, .slice none 0 0], .slice none 0 0], []⟩).memory :=
  laidMet_of_run' 8 (by kernel_rfl) (by kernel_rfl)
theorem rubricRoundTrip_reads (os : Os) {H : Type} (enc : TypeId × Value → H) : ∃ places, DataW.whole enc Tryd.prog ((laidW os).forCall (fun _ _ => 0) ⟨#[], #[.agg #[.int .i64 0, .slice none 0 0], .slice none 0 0], []⟩).memory Tryd.f5.params.toList Rows.rubricRoundTripSpec.vars false (#[.agg #[.int .i64 0, .slice none 0 0], .slice none 0 0] : Array Value).toList 8 = some ([.agg [.lit (.int .i64 0), .nil], .nil], [], places) :=
  ⟨[], by kernel_rfl⟩
set_option maxRecDepth 100000 in
theorem rubricRoundTrip_lifted (os : Os) (started : os.Started) (H : Type) (enc : TypeId × Value → H) (F : Stop.Interp) :
    ReturnsInHanded {} Tryd.checked os 5 .any ((OpenSpec.ofChange Rows.rubricRoundTripSpec).preRow enc Tryd.prog Tryd.f5 Rows.rubricRoundTripRow.domain false Rows.rubricRoundTripRow.laid) (((OpenSpec.ofChange Rows.rubricRoundTripSpec).at F).post enc Tryd.prog Tryd.f5 false true false false) := by
  obtain ⟨places, hx⟩ := rubricRoundTrip_reads os enc
  refine returnsInHanded_of_row (C := Tryd.checked) (s := (OpenSpec.ofChange Rows.rubricRoundTripSpec)) Tryd.own started (by kernel_rfl) Tryd.func5
    (witness_row_at (enc := enc) (C := Tryd.checked) false (laidW os) #[.agg #[.int .i64 0, .slice none 0 0], .slice none 0 0] rfl (by kernel_rfl) (by kernel_rfl) (by kernel_rfl)
      (OpenSpec.preRow_of_cond 8 hx (by kernel_rfl) (fun k hk => by cases hk) (by kernel_rfl) (rubricRoundTrip_laid os))) ?_
  intro W base args ds gs before hval0 hW _ hcond hsz0 hL hsh _
  have hval : ∀ (j : Nat) t v, Tryd.f5.params[j]? = some t → args[j]? = some v → Value.okWide Tryd.prog W .any base t v := hval0
  have hW' : DataW.Whole enc Tryd.prog Tryd.f5.params.toList Rows.rubricRoundTripSpec.vars false W args.toList ds gs before := hW
  have hW2 := hW'
  obtain ⟨p, q, hA0, hV, rfl, hfz, hnd⟩ := hW2
  have hA : DataW.TrodAll enc Tryd.prog W 0 (fun _ => true) true Tryd.f5.params.toList args.toList ds p := hA0
  rw [Tryd.params5] at hA hval
  obtain ⟨v0, vs0, d0, ds0, p0, q0, hargs, rfl, rfl, h0, r0⟩ := trodAll_cons hA
  obtain ⟨v1, vs1, d1, ds1, p1, q1, rfl, rfl, rfl, h1, r1⟩ := trodAll_cons r0
  obtain ⟨rfl, rfl, rfl⟩ := trodAll_nil r1
  obtain rfl : args = #[v0, v1] := by cases args; simp_all
  obtain ⟨rfl, rfl⟩ := trodVars_none hV
  obtain ⟨id, A, c, ts, rfl, hR⟩ := rub_open (hval 0 24 v0 rfl rfl) h0
  obtain ⟨M, d, ms, rfl, hM, hd⟩ := ints_open (hval 1 25 v1 rfl rfl) h1
  obtain ⟨mx, hmx⟩ := Go.Proofs.cell_of_shapedOpen_int (g := 0) (zero := #[.int .i64 0]) (t := 3) hsh (by decide +kernel) (by kernel_rfl) (by decide) (by kernel_rfl) (by kernel_rfl) Tryd.underlying3
  refine (rubricRoundTrip_walk id A c ts M d ms mx W hR hM (Nat.le_trans hd.1 hd.2.1) hmx).mono fun e W' ⟨he, hw⟩ => ?_
  subst he
  exact ⟨_, rfl, law_post (s := Rows.rubricRoundTripSpec) hW' Tryd.laidOut (by kernel_rfl) rfl (by rfl) rfl Tryd.underlying4 hw⟩

theorem rubricRoundTrip_holds : Rows.RubricRoundTripSaid :=
  OpenClaim.holds_of_cond 5 Tryd.f5 rfl rfl rfl rfl rfl rfl rfl ⟨rfl, rfl, rfl, rfl, rfl⟩ rfl rfl rfl rfl rfl (by kernel_rfl) Tryd.func5 (by kernel_rfl)
    (of_decide_eq_true (by kernel_rfl)) (by unfold Func.isWrapper; first | (rw [if_pos (by decide +kernel)]; kernel_rfl) | (rw [if_neg (by decide +kernel)]; exact ⟨rfl, rfl⟩))
    (fun os started H enc _ F => by rw [OpenClaim.pre_eq_preRow]; exact rubricRoundTrip_lifted os started H enc F)
theorem rubricRoundTrip_card : Rows.RubricRoundTripCardSaid :=
  Claim7.holds_tied_plain_at .later [] _ _ _ _
    rubricRoundTrip_holds (fun _ h => by cases h) (by kernel_rfl) (fun _ h => by cases h) rubricRoundTrip_row_tie rfl ⟨rfl, rfl⟩ (by kernel_rfl) rfl
    (fun f fn hf hfn => by
      obtain rfl : f = 5 := Option.some.inj ((show Tryd.prog.funcNamed Rows.rubricRoundTripRow.func = some 5 by kernel_rfl).symm.trans hf) |>.symm
      obtain rfl : fn = Tryd.f5 := (Option.some.inj (Tryd.func5.symm.trans hfn)).symm
      exact ⟨by kernel_rfl, fun j t ht => by
        rw [Tryd.params5] at ht
        have hm : t ∈ [24, 25] := by simpa using Array.mem_of_getElem? ht
        have hall : ([24, 25].all fun u => !Tryd.prog.wantsStandIn u) = true := by kernel_rfl
        exact (show Tryd.prog.wantsStandIn t = false by simpa using List.all_eq_true.1 hall t hm)⟩)
    (by kernel_rfl)
#print axioms rubricRoundTrip_card
end Go.Proofs.YthjledbomonfpaaDoor
