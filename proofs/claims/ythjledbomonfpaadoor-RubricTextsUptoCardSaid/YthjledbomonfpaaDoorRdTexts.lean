/- RubricTexts: the marks of any string, or the error, are those of the reference, up to the seat's bound. The card: tied. -/
import Derived.Test.YthjledbomonfpaaDoorRdT
import Derived.Test.YthjledbomonfpaaDoorRdO
import Derived.Test.YthjledbomonfpaaDoorCards
import Derived.Test.YthjledbomonfpaaDoorTie
import Derived.LaidMore
import Derived.Deep.DeepHandedRow
import Derived.SevenTiedAt
import Derived.Shelf.Vars
import Derived.ChangeMaps5
namespace Go.Proofs.YthjledbomonfpaaDoor
open Go.ChangeShapes Go.WideShapes Go.ChangeAt Go.ChangeMaps Go.RowKit

theorem parseA_to {id : Int} {ts : List Rub.Trait} {s : ByteArray} {xs : List Int} {x : Int} (hp : Tk.parM id ts s = xs) (hx : Tk.parE id ts s = x) (A : Option Addr) (c : Nat) (m : Int) (w : World) (h : RubIn w id A c ts) (hs : s.size < 4294967281) (hm : w.cell? ⟨0, 0, none⟩ = some (.int .i64 m)) :
    Calls Tryd.prog 6 #[.agg #[.int .i64 id, .slice A ts.length c], .string s] w (RetIntsErr xs x w) := by
  subst hp hx
  exact parse_any id A c ts s m w h hs hm
theorem parseB_to {id : Int} {ts : List Rub.Trait} {s : ByteArray} {xs : List Int} {x : Int} (hp : Tk.parM id ts s = xs) (hx : Tk.parE id ts s = x) (A : Option Addr) (c : Nat) (w : World) (h : RubIn w id A c ts) (hs : s.size < 4294967281) :
    Calls Tryd.prog 7 #[.agg #[.int .i64 id, .slice A ts.length c], .string s] w (RetIntsErr xs x w) := by
  subst hp hx
  exact refParse_any id A c ts s w h hs
theorem ints_eq (X : Option Addr) (xc : Nat) (a : List Int) (Y : Option Addr) (yc : Nat) (w : World) (ha : SlI w X a) (hb : SlI w Y a) (hal : a.length ≤ maxLen) :
    Calls Tryd.prog 8 #[.slice X a.length xc, .slice Y a.length yc] w fun e w' => e = .returned (.bool true) ∧ Ext w w' := by
  refine (ints_any X xc a Y yc a w ha hb hal).mono ?_
  rintro e w' ⟨rfl, h⟩
  exact ⟨by simp, h⟩

set_option maxRecDepth 100000 in
set_option maxHeartbeats 3200000 in
theorem rubricTexts_walk (id : Int) (A : Option Addr) (c : Nat) (ts : List Rub.Trait) (s : ByteArray) (m : Int) (w : World) (h : RubIn w id A c ts) (hs : s.size < 4294967281) (hm : w.cell? ⟨0, 0, none⟩ = some (.int .i64 m)) :
    Calls Tryd.prog 3 #[.agg #[.int .i64 id, .slice A ts.length c], .string s] w fun e w' => e = .returned (.bool true) ∧ Ext w w' := by
  have H := Lib.hid h
  have HS := Lib.hid hs
  have HMX := Lib.hid hm
  clear h hs hm
  have e0 : Ext w (w.alloc (.cells #[.int .i64 id, .slice A ts.length c] 24)) := (Ext.refl _).alloc _
  have k0 : (w.alloc (.cells #[.int .i64 id, .slice A ts.length c] 24)).cell? ⟨w.heap.size, 0, none⟩ = some (.int .i64 id) := by simp [go_sem]
  have k1 : (w.alloc (.cells #[.int .i64 id, .slice A ts.length c] 24)).cell? ⟨w.heap.size, 1, none⟩ = some (.slice A ts.length c) := by simp [go_sem]
  obtain ⟨ms, hms⟩ : ∃ ms, Tk.parM id ts s = ms := ⟨_, rfl⟩
  obtain ⟨x, hx⟩ : ∃ x, Tk.parE id ts s = x := ⟨_, rfl⟩
  have HMS := Lib.hid hms
  have HX := Lib.hid hx
  clear hms hx
  go_enter Tryd.func3, Tryd.ntmps3
  go_wp2_with fail
  generalize (w.alloc (.cells #[.int .i64 id, .slice A ts.length c] 24)) = W at *
  refine (parseA_to HMS.out HX.out A c m _ (H.out.ext e0) HS.out (e0.keep HMX.out)).mono ?_
  rintro e w1 ⟨X, xc, rfl, hX, hb1⟩
  have HIX := Lib.hid hX
  have q0 := hb1.keep k0
  have q1 := hb1.keep k1
  have x1 := e0.trans hb1
  clear k0 k1 hX
  go_wp2_with fail
  refine (parseB_to HMS.out HX.out A c _ (H.out.ext x1) HS.out).mono ?_
  rintro e w2 ⟨Y, yc, rfl, hY, hb2⟩
  have HIY := Lib.hid hY
  clear hY
  go_wp2_with fail
  refine (ints_eq X xc ms Y yc _ (HIX.out.1.ext hb2) HIY.out.1 (Nat.le_trans HIX.out.2.1 HIX.out.2.2.1)).mono ?_
  rintro e w3 ⟨rfl, hb3⟩
  go_wp2
  go_ret
  exact ⟨rfl, x1.trans (hb2.trans hb3)⟩

theorem upto_string {H : Type} {d : DataW H} {bytes : List UInt8} (hk : Rows.uptoSmall H [d, .lit (.string bytes)] = true) : bytes.length ≤ 1048576 := by
  have h := of_decide_eq_true hk
  simp only [Rows.uptoBulkAll, Rows.uptoBulk] at h
  omega
def cellsLaid : DataW Unit → Array Value
  | .agg l => (l.map fun | .lit (.int k n) => Value.int k n | _ => undef).toArray
  | _ => #[]
/-- A world for the witness: the door's own, the pinned table too. -/
noncomputable def laidW (os : Os) : World :=
  { World.doorLaid Tryd.prog 400 os with heap := (World.doorLaid Tryd.prog 400 os).heap.modify 2 fun
      | .cells _ t frozen => .cells (cellsLaid Rows.laid_unicode_utf8_first) t frozen
      | o => o }
theorem rubricTexts_laid (os : Os) : laidMet Tryd.prog Rows.rubricTextsUptoRow.laid ((laidW os).forCall (fun _ _ => 0) ⟨#[], #[.agg #[.int .i64 0, .slice none 0 0], .string ByteArray.empty], []⟩).memory :=
  laidMet_of_run' 8 (by kernel_rfl) (by kernel_rfl)
theorem rubricTexts_reads (os : Os) {H : Type} (enc : TypeId × Value → H) : ∃ places, DataW.whole enc Tryd.prog ((laidW os).forCall (fun _ _ => 0) ⟨#[], #[.agg #[.int .i64 0, .slice none 0 0], .string ByteArray.empty], []⟩).memory Tryd.f3.params.toList Rows.rubricTextsSpec.vars false (#[.agg #[.int .i64 0, .slice none 0 0], .string ByteArray.empty] : Array Value).toList 8 = some ([.agg [.lit (.int .i64 0), .nil], .lit (.string [])], [], places) :=
  ⟨[], by kernel_rfl⟩
set_option maxRecDepth 100000 in
theorem rubricTexts_lifted (os : Os) (started : os.Started) (H : Type) (enc : TypeId × Value → H) (F : Stop.Interp) :
    ReturnsInHanded {} Tryd.checked os 3 .any ((Rows.OpenSpec.upto Rows.rubricTextsSpec).preRow enc Tryd.prog Tryd.f3 Rows.rubricTextsUptoRow.domain false Rows.rubricTextsUptoRow.laid) (((Rows.OpenSpec.upto Rows.rubricTextsSpec).at F).post enc Tryd.prog Tryd.f3 false true false false) := by
  obtain ⟨places, hx⟩ := rubricTexts_reads os enc
  refine returnsInHanded_of_row (C := Tryd.checked) (s := (Rows.OpenSpec.upto Rows.rubricTextsSpec)) Tryd.own started (by kernel_rfl) Tryd.func3
    (witness_row_at (enc := enc) (C := Tryd.checked) false (laidW os) #[.agg #[.int .i64 0, .slice none 0 0], .string ByteArray.empty] rfl (by kernel_rfl) (by kernel_rfl) (by kernel_rfl)
      (OpenSpec.preRow_of_cond 8 hx (by kernel_rfl) (fun k hk => by cases hk; kernel_rfl) (by kernel_rfl) (rubricTexts_laid os))) ?_
  intro W base args ds gs before hval0 hW _ hcond hsz0 hL hsh _
  have hval : ∀ (j : Nat) t v, Tryd.f3.params[j]? = some t → args[j]? = some v → Value.okWide Tryd.prog W .any base t v := hval0
  have hW' : DataW.Whole enc Tryd.prog Tryd.f3.params.toList Rows.rubricTextsSpec.vars false W args.toList ds gs before := hW
  have hW2 := hW'
  obtain ⟨p, q, hA0, hV, rfl, hfz, hnd⟩ := hW2
  have hA : DataW.TrodAll enc Tryd.prog W 0 (fun _ => true) true Tryd.f3.params.toList args.toList ds p := hA0
  rw [Tryd.params3] at hA hval
  obtain ⟨v0, vs0, d0, ds0, p0, q0, hargs, rfl, rfl, h0, r0⟩ := trodAll_cons hA
  obtain ⟨v1, vs1, d1, ds1, p1, q1, rfl, rfl, rfl, h1, r1⟩ := trodAll_cons r0
  obtain ⟨rfl, rfl, rfl⟩ := trodAll_nil r1
  obtain rfl : args = #[v0, v1] := by cases args; simp_all
  obtain ⟨rfl, rfl⟩ := trodVars_none hV
  obtain ⟨id, A, c, ts, rfl, hR⟩ := rub_open (hval 0 24 v0 rfl rfl) h0
  obtain ⟨s, rfl, rfl, rfl, hs⟩ := open_string Tryd.underlying9 (hval 1 9 v1 rfl rfl) h1
  obtain ⟨mx, hmx⟩ := Go.Proofs.cell_of_shapedOpen_int (g := 0) (zero := #[.int .i64 0]) (t := 3) hsh (by decide +kernel) (by kernel_rfl) (by decide) (by kernel_rfl) (by kernel_rfl) Tryd.underlying3
  have hlen : s.data.toList.length ≤ 1048576 := upto_string (hcond _ rfl)
  have hsz2 : s.size < 4294967281 := by have e : s.data.toList.length = s.size := rfl; omega
  refine (rubricTexts_walk id A c ts s mx W hR hsz2 hmx).mono fun e W' ⟨he, hw⟩ => ?_
  subst he
  exact ⟨_, rfl, law_post (s := Rows.rubricTextsSpec) hW' Tryd.laidOut (by kernel_rfl) rfl (by rfl) rfl Tryd.underlying4 hw⟩

theorem rubricTexts_holds : Rows.RubricTextsUptoSaid :=
  OpenClaim.holds_of_cond 3 Tryd.f3 rfl rfl rfl rfl rfl rfl rfl ⟨rfl, rfl, rfl, rfl, rfl⟩ rfl rfl rfl rfl rfl (by kernel_rfl) Tryd.func3 (by kernel_rfl)
    (of_decide_eq_true (by kernel_rfl)) (by unfold Func.isWrapper; first | (rw [if_pos (by decide +kernel)]; kernel_rfl) | (rw [if_neg (by decide +kernel)]; exact ⟨rfl, rfl⟩))
    (fun os started H enc _ F => by rw [OpenClaim.pre_eq_preRow]; exact rubricTexts_lifted os started H enc F)
theorem rubricTexts_card : Rows.RubricTextsUptoCardSaid :=
  Claim7.holds_tied_plain_at .later [] _ _ _ _
    rubricTexts_holds (fun _ h => by cases h) (by kernel_rfl) (fun _ h => by cases h) rubricTextsUpto_row_tie rfl ⟨rfl, rfl⟩ (by kernel_rfl) rfl
    (fun f fn hf hfn => by
      obtain rfl : f = 3 := Option.some.inj ((show Tryd.prog.funcNamed Rows.rubricTextsUptoRow.func = some 3 by kernel_rfl).symm.trans hf) |>.symm
      obtain rfl : fn = Tryd.f3 := (Option.some.inj (Tryd.func3.symm.trans hfn)).symm
      exact ⟨by kernel_rfl, fun j t ht => by
        rw [Tryd.params3] at ht
        have hm : t ∈ [24, 9] := by simpa using Array.mem_of_getElem? ht
        have hall : ([24, 9].all fun u => !Tryd.prog.wantsStandIn u) = true := by kernel_rfl
        exact (show Tryd.prog.wantsStandIn t = false by simpa using List.all_eq_true.1 hall t hm)⟩)
    (by kernel_rfl)
#print axioms rubricTexts_card
end Go.Proofs.YthjledbomonfpaaDoor
