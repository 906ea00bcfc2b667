/- strings.SplitN at a blank and 8, incident.number: contracts. Conditions: those of each theorem. -/
import Derived.Test.YtcpapnnghclbmaaDoorInI
import Derived.Test.YtcpapnnghclbmaaDoorIL
import Derived.Deep.LoopGhost
import Derived.Lib.Split
namespace Go.Proofs.YtcpapnnghclbmaaDoor
open Go.RowKit Go.Lib

theorem index_to (s sep : ByteArray) (hsep : sep = ⟨#[32]⟩) (w : World) : Calls Tryd.prog 71 #[.string s, .string sep] w fun e w' => e = .returned (.int .i64 (Lib.indexB s sep)) ∧ w' = w := by
  subst hsep
  refine (Tryd.strings_Index_one s 32 w).mono ?_
  rintro e w' ⟨rfl, rfl⟩
  exact ⟨ret_int (by rw [Lib.one s _ rfl]; rfl), rfl⟩
theorem sep_len {sep : ByteArray} (hsep : sep = ⟨#[32]⟩) : sep.size = 1 ∧ sep.toList.isEmpty = false ∧ ¬ sep.toList = [] := by
  subst hsep
  exact ⟨rfl, (str_some (s := ⟨#[32]⟩) (by decide)).1, (str_some (s := ⟨#[32]⟩) (by decide)).2⟩
theorem Tryd.infoStr : (Tryd.prog.info? 9).map (fun i => (i.zero, i.size, i.bytes)) = some (some (.string ByteArray.empty), 1, 16) := by kernel_rfl

set_option maxHeartbeats 4000000 in
set_option maxRecDepth 1000000 in
theorem genSplit_to (s sep : ByteArray) (hsep : sep = ⟨#[32]⟩) (w : World) (hs : s.size ≤ 140737488355328) (N : Nat) (hN : min 8 ((s.size : Int) + 1) = (N : Int)) :
    Calls Tryd.prog 54 #[.string s, .string sep, .int .i64 0, .int .i64 8] w fun e w' =>
      e = .returned (.slice (some ⟨w.heap.size, 0, none⟩) (Lib.splitB sep 0 (N - 1) s).length N) ∧ w' = w.alloc (.cells (Lib.cellsOf (Lib.splitB sep 0 (N - 1) s) N) 9) := by
  obtain ⟨hsz, hse, hse'⟩ := sep_len hsep
  have hNs : (N : Int) ≤ (s.size : Int) + 1 := by omega
  have hN8 : (N : Int) ≤ 8 := by omega
  have hN1 : (1 : Int) ≤ (N : Int) := by omega
  have HSP := Lib.hid hsep
  have HSZ := Lib.hid hsz
  have hs1 : sep.size ≤ 1 := by omega
  have hs2 : 1 ≤ sep.size := by omega
  clear hsep hsz
  have hmk := run_make_row' (P := Tryd.prog) 56 9 (.string ByteArray.empty) 16 Tryd.underlying56 Tryd.infoStr rfl .i64 .i64 N (by omega) (by omega)
  go_enter Tryd.func54, Tryd.ntmps54
  go_wp2_with fail
  clear hmk hN
  go_loopg [0, 10] (N - 1) (fun g s0 s10 wr => ∃ (done : List ByteArray) (rest : ByteArray), s0 = .string rest ∧ s10 = .int .i64 done.length ∧ done.length ≤ N - 1 ∧ g = N - 1 - done.length ∧ rest.size ≤ s.size ∧
    wr = w.alloc (.cells (Lib.cellsOf done N) 9) ∧ done ++ Lib.splitB sep 0 (N - 1 - done.length) rest = Lib.splitB sep 0 (N - 1) s)
  case atStart => exact ⟨[], s, rfl, rfl, Nat.zero_le _, rfl, Nat.le_refl _, by rw [Lib.cellsOf_nil], rfl⟩
  case round =>
    obtain ⟨done, rest, rfl, rfl, hd, rfl, hrs, rfl, hsp⟩ := hrel
    have hnext : (Lib.cellsOf done N)[done.length]? = some (.string ByteArray.empty) := Lib.cellsOf_next (by omega)
    have HS := Lib.hid hsp
    clear hsp
    have fin : Lib.splitB sep 0 (N - 1 - done.length) rest = [rest] → (Lib.splitB sep 0 (N - 1) s).length = done.length + 1 ∧ (Lib.cellsOf done N).setIfInBounds done.length (.string rest) = Lib.cellsOf (Lib.splitB sep 0 (N - 1) s) N := fun h => by
      have e := HS.out
      rw [h] at e
      rw [← e]
      exact ⟨by simp, Lib.cellsOf_set (by omega) rest⟩
    have FIN := Lib.hid fin
    clear fin
    by_cases hlt : done.length < N - 1
    · have hltz : ((done.length : Nat) : Int) < (N : Int) - 1 := by omega
      rcases Lib.indexB_cases rest sep with hix | ⟨i, hix, hroom⟩
      · have HIX := Lib.hid hix
        clear hix
        go_wp2_with (first | (go_at_call 71; refine (index_to rest sep HSP.out _).mono ?_; rintro e w' ⟨rfl, hw⟩; rw [hw, HIX.out]))
        go_ret
        obtain ⟨f1, f2⟩ := FIN.out (Lib.splitB_miss sep 0 _ rest HIX.out)
        rw [f1, ← f2]
        exact ⟨by first | rfl | (congr 2 <;> omega), rfl⟩
      · have HIX := Lib.hid hix
        clear hix
        have c0 : ¬ ((i : Int) < 0) := by omega
        have c1 : (0 : Int) ≤ ↑i := by omega
        have c2 : (↑i : Int) ≤ ↑rest.size := by omega
        have c3 : (0 : Int) ≤ ↑i + ↑sep.size := by omega
        have c4 : (↑i + ↑sep.size : Int) ≤ ↑rest.size := by omega
        go_wp2_with (first | (go_at_call 71; refine (index_to rest sep HSP.out _).mono ?_; rintro e w' ⟨rfl, hw⟩; rw [hw, HIX.out]))
        go_roundg (N - 1 - (done.length + 1))
        case measure => omega
        case rel =>
          refine ⟨done ++ [rest.extract 0 i], rest.extract (i + sep.size) rest.size, rfl, by simp, by simp; omega, by simp, by rw [ByteArray.size_extract]; omega, by rw [← Lib.cellsOf_set (by omega)], ?_⟩
          rw [← HS.out, show N - 1 - done.length = (N - 1 - (done.length + 1)) + 1 by omega, Lib.splitB_hit sep 0 _ rest i HIX.out]
          simp
    · have hltz : ¬ (((done.length : Nat) : Int) < (N : Int) - 1) := by omega
      go_wp2
      go_ret
      obtain ⟨f1, f2⟩ := FIN.out (by rw [show N - 1 - done.length = 0 by omega]; rfl)
      rw [f1, ← f2]
      exact ⟨by first | rfl | (congr 2 <;> omega), rfl⟩
end Go.Proofs.YtcpapnnghclbmaaDoor
