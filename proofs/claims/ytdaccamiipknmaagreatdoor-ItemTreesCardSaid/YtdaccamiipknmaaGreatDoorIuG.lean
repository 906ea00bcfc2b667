/- The law's sample and same: contracts. Conditions: those of each theorem. -/
import Derived.Test.YtdaccamiipknmaaGreatDoorIuF
import Derived.Test.YtdaccamiipknmaaGreatDoorIuB
namespace Go.Proofs.YtdaccamiipknmaaGreatDoor
open Go.RowKit Go.Shelf

namespace It
/-- The chapter's example. -/
def smp : Item := { id := 7, ver := 1, kind := 1, stem := ⟨#[50, 32, 43, 32, 50, 63]⟩, opts := [⟨#[51]⟩, ⟨#[52]⟩], chs := [1], value := 0, tol := 0, texts := [], pts := 1, cont := ⟨#[77, 65, 84, 72, 46, 65, 76, 71]⟩, fam := 0, set_ := 0, wrd := 4, sec := 30, assets := [], rub := 0 }
def sameI (a b : Item) : Bool := decide (diff a b = [])
end It
theorem results_cell_one {P : Program} {fn : Func} {p : Tmp} {ty : TypeId} (h : fn.results = #[.cell p ty]) (tmps : Array Value) (w : World) (g : Nat) (t : TypeId) (cs : Array Value) (fr : Nat × Nat) (d : TypeDesc)
    (hp : tmps.getD p undef = .pointer (some ⟨g, 0, none⟩)) (hg : w.heap[g]? = some (.cells cs t fr))
    (hu : P.underlying ty = some d) (hd : (match d with | .struct _ | .array _ _ => true | _ => false) = true) (hi : (P.info? ty).map (·.size) = some cs.size) :
    (results fn tmps).run P w = .ok (.agg cs) w := results_cell_row h tmps w g t cs fr d hp hg hu hd hi
theorem smp_ok : It.Ok It.smp := by
  refine ⟨?_, ?_, ?_, ?_, ?_, ?_, ?_, ?_, ?_, ?_, ?_, ?_, ?_, ?_, ?_, ?_, ?_, ?_, ?_, ?_, ?_⟩
  all_goals first | (unfold In64; decide) | decide | (intro x hx; simp [It.smp] at hx; (try rcases hx with rfl | rfl) <;> (try subst hx) <;> first | decide | (unfold In64; decide))
set_option maxRecDepth 100000 in
set_option maxHeartbeats 6400000 in
theorem sample_any (w : World) : Calls Tryz.prog 31 #[] w fun e w' => (∃ L, e = .returned (It.agg It.smp L) ∧ It.In w' It.smp L) ∧ Ext w w' := by
  go_enter Tryz.func31, Tryz.ntmps31
  have h0 : (((w.alloc (.cells #[.int .i64 0, .int .i64 0, .int .i64 0, .string ⟨#[]⟩, .slice none 0 0, .slice none 0 0, .int .i64 0, .int .i64 0, .slice none 0 0, .int .i64 0, .string ⟨#[]⟩, .int .i64 0, .int .i64 0, .int .i64 0, .int .i64 0, .slice none 0 0, .int .i64 0] 25)).alloc (.cells #[.string ⟨#[51]⟩, .string ⟨#[52]⟩] 9)).alloc (.cells #[.int .i64 1] 3)).heap[w.heap.size]? = some (.cells #[.int .i64 0, .int .i64 0, .int .i64 0, .string ⟨#[]⟩, .slice none 0 0, .slice none 0 0, .int .i64 0, .int .i64 0, .slice none 0 0, .int .i64 0, .string ⟨#[]⟩, .int .i64 0, .int .i64 0, .int .i64 0, .int .i64 0, .slice none 0 0, .int .i64 0] 25 (0, 0)) :=
    (((Ext.refl _).alloc _).alloc _).blockAt (heap_alloc_new w _)
  have H0 := Lib.hid h0
  clear h0
  go_wp2_with (refine wpList_store_row rfl _ _ _ rfl w.heap.size #[.int .i64 7, .int .i64 1, .int .i64 1, .string ⟨#[50, 32, 43, 32, 50, 63]⟩, .slice (some ⟨w.heap.size + 1, 0, none⟩) 2 2, .slice (some ⟨w.heap.size + 1 + 1, 0, none⟩) 1 1, .int .i64 0, .int .i64 0, .slice none 0 0, .int .i64 1, .string ⟨#[77, 65, 84, 72, 46, 65, 76, 71]⟩, .int .i64 0, .int .i64 0, .int .i64 4, .int .i64 30, .slice none 0 0, .int .i64 0] rfl rfl _ #[.int .i64 0, .int .i64 0, .int .i64 0, .string ⟨#[]⟩, .slice none 0 0, .slice none 0 0, .int .i64 0, .int .i64 0, .slice none 0 0, .int .i64 0, .string ⟨#[]⟩, .int .i64 0, .int .i64 0, .int .i64 0, .int .i64 0, .slice none 0 0, .int .i64 0] H0.out (by kernel_rfl) rfl (by simp [Value.oneCell']) ?_)
  have HRS := setRow_at (cs' := #[.int .i64 7, .int .i64 1, .int .i64 1, .string ⟨#[50, 32, 43, 32, 50, 63]⟩, .slice (some ⟨w.heap.size + 1, 0, none⟩) 2 2, .slice (some ⟨w.heap.size + 1 + 1, 0, none⟩) 1 1, .int .i64 0, .int .i64 0, .slice none 0 0, .int .i64 1, .string ⟨#[77, 65, 84, 72, 46, 65, 76, 71]⟩, .int .i64 0, .int .i64 0, .int .i64 4, .int .i64 30, .slice none 0 0, .int .i64 0]) H0.out
  refine bodyPost_ret (v := .agg #[.int .i64 7, .int .i64 1, .int .i64 1, .string ⟨#[50, 32, 43, 32, 50, 63]⟩, .slice (some ⟨w.heap.size + 1, 0, none⟩) 2 2, .slice (some ⟨w.heap.size + 1 + 1, 0, none⟩) 1 1, .int .i64 0, .int .i64 0, .slice none 0 0, .int .i64 1, .string ⟨#[77, 65, 84, 72, 46, 65, 76, 71]⟩, .int .i64 0, .int .i64 0, .int .i64 4, .int .i64 30, .slice none 0 0, .int .i64 0]) (results_cell_row Tryz.results31 _ _ w.heap.size _ _ _ _ rfl HRS Tryz.underlying25 rfl (by kernel_rfl)) rfl ?_
  refine ⟨⟨⟨some ⟨w.heap.size + 1, 0, none⟩, 2, some ⟨w.heap.size + 1 + 1, 0, none⟩, 1, none, 0, none, 0⟩, rfl, smp_ok, ?_, ?_, SlS.nil _ _, SlI.nil _ _, ⟨Nat.le_refl 2, (by decide : 2 ≤ maxLen)⟩, ⟨Nat.le_refl 1, (by decide : 1 ≤ maxLen)⟩, ⟨Nat.le_refl 0, (by decide : 0 ≤ maxLen)⟩, ⟨Nat.le_refl 0, (by decide : 0 ≤ maxLen)⟩⟩, ?_⟩
  · refine Sl.setRow (Sl.ext (w := (w.alloc (.cells #[.int .i64 0, .int .i64 0, .int .i64 0, .string ⟨#[]⟩, .slice none 0 0, .slice none 0 0, .int .i64 0, .int .i64 0, .slice none 0 0, .int .i64 0, .string ⟨#[]⟩, .int .i64 0, .int .i64 0, .int .i64 0, .int .i64 0, .slice none 0 0, .int .i64 0] 25)).alloc (.cells #[.string ⟨#[51]⟩, .string ⟨#[52]⟩] 9)) ?_ ((Ext.refl _).alloc _)) (by rintro a ha; cases ha; simp) _
    exact Sl.new_at (w.alloc (.cells #[.int .i64 0, .int .i64 0, .int .i64 0, .string ⟨#[]⟩, .slice none 0 0, .slice none 0 0, .int .i64 0, .int .i64 0, .slice none 0 0, .int .i64 0, .string ⟨#[]⟩, .int .i64 0, .int .i64 0, .int .i64 0, .int .i64 0, .slice none 0 0, .int .i64 0] 25)) [.string ⟨#[51]⟩, .string ⟨#[52]⟩] 9 _ (by simp)
  · refine Sl.setRow ?_ (by rintro a ha; cases ha; simp; omega) _
    exact Sl.new_at ((w.alloc (.cells #[.int .i64 0, .int .i64 0, .int .i64 0, .string ⟨#[]⟩, .slice none 0 0, .slice none 0 0, .int .i64 0, .int .i64 0, .slice none 0 0, .int .i64 0, .string ⟨#[]⟩, .int .i64 0, .int .i64 0, .int .i64 0, .int .i64 0, .slice none 0 0, .int .i64 0] 25)).alloc (.cells #[.string ⟨#[51]⟩, .string ⟨#[52]⟩] 9)) [.int .i64 1] 3 _ (by simp)
  · exact ((((Ext.refl _).alloc _).alloc _).alloc _).setRow (Nat.le_refl _) _
set_option maxRecDepth 100000 in
set_option maxHeartbeats 6400000 in
theorem same_any (a b : It.Item) (La Lb : It.Loc) (w : World) (ha : It.In w a La) (hb : It.In w b Lb) :
    Calls Tryz.prog 19 #[It.agg a La, It.agg b Lb] w fun e w' => e = .returned (.bool (It.sameI a b)) ∧ Ext w w' := by
  obtain ⟨CA, hca, hna, -, -⟩ := It.packed a La
  obtain ⟨CB, hcb, hnb, -, -⟩ := It.packed b Lb
  have HD := Lib.hid (rdiff_any a b La Lb)
  rw [hca, hcb] at HD ⊢
  have HA := Lib.hid ha
  have HB := Lib.hid hb
  have IA := Lib.hid (infoItem hna)
  have IB := Lib.hid (infoItem hnb)
  clear ha hb hca hcb hna hnb
  obtain ⟨v, hv⟩ : ∃ v, It.sameI a b = v := ⟨_, rfl⟩
  have HV := Lib.hid hv
  rw [hv]
  clear hv
  go_enter Tryz.func19, Tryz.ntmps19
  go_wp2_with (first | refine wpList_load_row rfl _ _ rfl w.heap.size rfl _ CA _ _ (heap_two_fst _ _ _) Tryz.underlying25 rfl IA.out ?_ | refine wpList_load_row rfl _ _ rfl (w.heap.size + 1) rfl _ CB _ _ (heap_two_snd _ _ _) Tryz.underlying25 rfl IB.out ?_)
  have X0 : Ext w ((w.alloc (.cells CA 25)).alloc (.cells CB 25)) := ((Ext.refl _).alloc _).alloc _
  with_reducible refine (HD.out _ (HA.out.ext X0) (HB.out.ext X0)).mono ?_
  rintro e w1 ⟨⟨A, c, rfl, hs, h1, h2⟩, hb1⟩
  have X1 := Lib.hid (X0.trans hb1)
  obtain ⟨n, hn⟩ : ∃ n, (It.diff a b).length = n := ⟨_, rfl⟩
  have HM : Hid (decide (n = 0) = v) := Lib.hid (by rw [← HV.out, ← hn]; unfold It.sameI; simp [List.length_eq_zero_iff])
  rw [hn]
  clear hs hb1 X0 HD HA HB IA IB HV h2 h1 hn
  by_cases h0 : n = 0
  · have HF : Hid (v = true) := Lib.hid (by rw [← HM.out]; exact decide_eq_true h0)
    subst h0
    go_wp2
    go_ret
    exact ⟨ret_bool HF.out.symm, X1.out⟩
  · have HF : Hid (v = false) := Lib.hid (by rw [← HM.out]; exact decide_eq_false h0)
    have t0 : ((n : Int) == 0) = false := by rw [beq_eq_false_iff_ne]; omega
    clear h0
    go_wp2
    go_ret
    exact ⟨ret_bool HF.out.symm, X1.out⟩
end Go.Proofs.YtdaccamiipknmaaGreatDoor
