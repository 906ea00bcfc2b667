/- slices.Sorted(slices.Values(l)) at a slice of integers: a contract (the shelf's proofs of AppendSeq, Collect and Sorted turned, and the iterator of slices.Values walked). Conditions: those of each theorem. The key of an item: the reference's permutation and key, the package's onlyKey and validKey: contracts. Conditions: those of each theorem. -/
import Derived.Test.YtgaepmddbjdhfaaGreatDoorP14
import Derived.Shelf.SlIterI.Sorted
import Derived.Shelf.SortM.Plain
import Derived.Shelf.SortM.SortNone
import Derived.RangeFuncBox
import Derived.RangeFuncLeaves
import Derived.Shelf.Abstract
import Derived.OwnWalkIn
import Derived.TacticsInMore
import Derived.LoopNIn
import Derived.LoopIn
namespace Go.Proofs.YtgaepmddbjdhfaaGreatDoor
open Go.RowKit Go.Maps Go.Sort Go.Shelf

section
variable {P : Program} {ρ : Ren}
/-- An iterator that reads memory: it gives S if the rounds leave what lay before as it was. -/
def SeqGivesB {α : Type} (F : Fence) (n : Nat) (P : Program) (g : Nat) (lb : Array Value) (enc : α → Value) (S : List α → Prop) (N : Nat) (w : World) : Prop :=
  ∀ (l : Nat) (J : List α → World → Prop) (W : World), Below w.heap.size w W → AbidesFrom W.heap.size J → (∀ pre W1, J pre W1 → Below w.heap.size w W1) →
    (∀ pre x W1, J pre W1 → pre.length < N → YieldAt F (n - 1) P l #[enc x] W1 fun e W' => e = .returned (.bool true) ∧ J (pre ++ [x]) W' ∧ KeepsWalks W1 W') →
    J [] W →
    CallsIn F n P g (#[.func (.yield l) #[] #[]] ++ lb) W fun e W' => (∃ v, e = .returned v) ∧ ∃ xs, S xs ∧ J xs W'
set_option maxRecDepth 100000 in
set_option maxHeartbeats 2000000 in
theorem it_appendSeq_in (L : SlLaysZI.n11 P ρ) (F : Fence) (n : Nat) (h11 : F.fn (ρ.f 11)) (hro : F.round = none) (hn : 2 ≤ n) (g : Nat) (lb : Array Value) (hFg : F.fn g) (eg : ∀ args w, (callFunc g args).run P w = .ok (.enter g args) w)
    (S : List Int → Prop) (N : Nat) (hN : N ≤ maxLen) (hNb : N * 8 ≤ 140737488355328) (w : World) (hseq : SeqGivesB F (n - 1) P g lb encZ S N w) :
    CallsIn F n P (ρ.f 11) #[.slice none 0 0, .func (.func g) #[] lb] w fun e w' => ∃ (v : Value) (ss : List Int), e = .returned v ∧ S ss ∧ w'.ownsRow w.heap.size (ρ.t 26) 1 v ss.length (ss.map encZ) ∧ (v = .slice none 0 0 ↔ ss = []) ∧ Below w.heap.size w w' := by
  have h1 : 1 ≤ n := by omega
  have mixed := L.mixed; have t0 := L.t0; have a0 := L.a0; have z0 := L.z0; have v0 := L.v0; have t24 := L.t24; have a24 := L.a24; have z24 := L.z24; have v24 := L.v24; have t26 := L.t26; have a26 := L.a26; have z26 := L.z26; have v26 := L.v26; have t28 := L.t28; have a28 := L.a28; have z28 := L.z28; have v28 := L.v28
  have hne : ρ.t 24 ≠ ρ.t 26 := fun e => by have h := L.t24; rw [e, L.t26] at h; cases h
  have u0 := run_underlying L.t0; have u24 := run_underlying L.t24; have u26 := run_underlying L.t26; have u28 := run_underlying L.t28
  obtain ⟨_, _, FG⟩ := L.f11
  refine callsIn_of_wp_marks FG rfl h11 ?_ hro
  simp only [SlBodyZ.n11_ntmps ρ, List.size_toArray, List.length_cons, List.length_nil, Nat.reduceAdd, Nat.reduceSub, Array.replicate_succ, Array.replicate_zero, List.push_toArray, List.append_toArray, List.nil_append, List.cons_append]
  gi_wp2
  refine wpIn_rangeFunc ?_
  intro fn hfn
  rw [hro]
  obtain ⟨W0, hW0⟩ : ∃ W0, w.alloc (.cells #[.slice none 0 0] (ρ.t 24)) = W0 := ⟨_, rfl⟩
  have hs0 : W0.heap.size = w.heap.size + 1 := by rw [← hW0]; simp
  have hv0 : W0.heap[w.heap.size]? = some (.cells #[.slice none 0 0] (ρ.t 24) (0, 0)) := by rw [← hW0]; exact World.alloc_heap_new w _
  have hb0 : Below w.heap.size w W0 := by rw [← hW0]; exact (Below.refl _ w).alloc (Nat.le_refl _) _
  rw [hW0]
  obtain ⟨W1, hW1⟩ : ∃ W1, (W0.alloc (.deferred (some []))).alloc (.loop (AnyZI.apRec ρ fn (.func (.func g) #[] lb) w.heap.size W0.heap.size .ready none)) = W1 := ⟨_, rfl⟩
  have hold : ∀ k, k < W0.heap.size → W1.heap[k]? = W0.heap[k]? := fun k hk => by
    rw [← hW1]; exact (Below.heap_alloc _ _ k (by simp; omega)).trans (Below.heap_alloc _ _ k hk)
  have hb1 : Below w.heap.size w W1 := by rw [← hW1]; exact (hb0.alloc hb0.size _).alloc (by have := hb0.size; simp; omega) _
  have hs1 : W1.heap.size = W0.heap.size + 2 := by rw [← hW1]; simp
  have hM : AnyZI.ApAt ρ w fn (.func (.func g) #[] lb) w.heap.size (W0.heap.size + 1) W0.heap.size [] W1 :=
    ⟨⟨_, (hold w.heap.size (by omega)).trans hv0, ⟨rfl, .inl ⟨rfl, rfl⟩⟩, by simp⟩,
     by rw [← hW1]; have := World.alloc_heap_new (W0.alloc (.deferred (some []))) (.loop (AnyZI.apRec ρ fn (.func (.func g) #[] lb) w.heap.size W0.heap.size .ready none)); rwa [World.size_alloc] at this,
     by rw [← hW1]; exact (Below.heap_alloc _ _ _ (by simp)).trans (World.alloc_heap_new W0 _), hb1⟩
  refine ⟨W0.heap.size + 1, [{ target := .collected W0.heap.size, args := #[] }], W1, { target := .fn (.func g) lb, args := #[.func (.yield (W0.heap.size + 1)) #[] #[]] }, W1, g,
    #[.func (.yield (W0.heap.size + 1)) #[] #[]] ++ lb, W1, ?_, ?_, ?_, ?_, fun _ => h1, ?_⟩
  · rw [← hW1]; exact run_enterLoop_outer _ _ _ _ _
  · simp [resolve, go_sem]
  · intro f' hf'; simp [Target.leads] at hf'; subst hf'; exact hFg
  · simp [invoke, go_sem, eg]
  · refine (hseq (W0.heap.size + 1) (AnyZI.ApAt ρ w fn (.func (.func g) #[] lb) w.heap.size (W0.heap.size + 1) W0.heap.size) W1 hb1 (AnyZI.ap_abides ρ _ _ _ _ _ _ _ hb1.size) (fun pre W h => h.below)
      (fun pre x W hJ hl => AnyZI.apYield { L with } F (n - 1 - 1) w fn hfn _ w.heap.size (W0.heap.size + 1) W0.heap.size (by omega) (by omega) (by omega) (Nat.le_refl _) (by omega) N hN hNb pre x W hJ hl) hM).mono ?_
    rintro e W2 ⟨⟨v0, rfl⟩, ss, hS, h2⟩
    obtain ⟨v, hv, hrow, hnil⟩ := h2.box
    have hend := run_endLoop (P := P) h2.L (by simp [AnyZI.apRec])
    obtain ⟨W3, hW3⟩ : ∃ W3, W2.putObj (W0.heap.size + 1) (.loop { AnyZI.apRec ρ fn (.func (.func g) #[] lb) w.heap.size W0.heap.size .ready none with state := .exhausted }) = W3 := ⟨_, rfl⟩
    rw [hW3] at hend
    have hg3 : W2.grownBy W3 (some (W0.heap.size + 1)) := by rw [← hW3]; exact grownBy_putObj_a _ _ _
    have hv3 : W3.heap[w.heap.size]? = some (.cells #[v] (ρ.t 24) (0, 0)) := by rw [← hW3]; exact (World.putObj_heap_other (by omega)).trans hv
    have hK3 : W3.heap[W0.heap.size]? = some (.deferred (some [])) := by rw [← hW3]; exact (World.putObj_heap_other (by omega)).trans h2.K
    have hrow3 := hrow.kept hg3 (ownsRow_ne_a hrow h2.L (fun cur e => by first | cases e | exact hne (Obj.cells.inj e).2.1))
    have hb3 : Below w.heap.size w W3 := h2.below.grown hg3 h2.below.size (fun k e => by cases e; omega)
    obtain ⟨hc3, hf3⟩ := cell_of_box_a hv3
    clear hW3
    refine ⟨none, W3, hend, ?_⟩
    gi_wp2
    rw [← hs0]
    refine ⟨by simp, .inl ⟨_, _, rfl, run_takeDeferred hK3, ?_⟩⟩
    exact ⟨_, results_tmp rfl _ _ _, v, ss, rfl, hS, hrow3.kept (grownBy_putObj_a _ _ _) (ownsRow_ne_a hrow3 hK3 (fun cur e => by first | cases e | exact hne (Obj.cells.inj e).2.1)), hnil, hb3.grown (grownBy_putObj_a _ _ _) hb3.size (fun k e => by cases e; omega)⟩
set_option maxHeartbeats 1000000 in
theorem it_collect_in (L : SlLaysZI.n8 P ρ) (F : Fence) (n : Nat) (h8 : F.fn (ρ.f 8)) (h11 : F.fn (ρ.f 11)) (hro : F.round = none) (hn : 3 ≤ n) (g : Nat) (lb : Array Value) (hFg : F.fn g) (eg : ∀ args w, (callFunc g args).run P w = .ok (.enter g args) w)
    (S : List Int → Prop) (N : Nat) (hN : N ≤ maxLen) (hNb : N * 8 ≤ 140737488355328) (w : World) (hseq : SeqGivesB F (n - 1 - 1) P g lb encZ S N w) :
    CallsIn F n P (ρ.f 8) #[.func (.func g) #[] lb] w fun e w' => ∃ (v : Value) (ss : List Int), e = .returned v ∧ S ss ∧ w'.ownsRow w.heap.size (ρ.t 26) 1 v ss.length (ss.map encZ) ∧ (v = .slice none 0 0 ↔ ss = []) ∧ Below w.heap.size w w' := by
  have h1 : 1 ≤ n := by omega
  have e11 : ∀ args w, (callFunc (ρ.f 11) args).run P w = .ok (.enter (ρ.f 11) args) w := L.f11.enters rfl
  have mixed := L.mixed; have t0 := L.t0; have a0 := L.a0; have z0 := L.z0; have v0 := L.v0; have t24 := L.t24; have a24 := L.a24; have z24 := L.z24; have v24 := L.v24; have t26 := L.t26; have a26 := L.a26; have z26 := L.z26; have v26 := L.v26; have t28 := L.t28; have a28 := L.a28; have z28 := L.z28; have v28 := L.v28
  have u0 := run_underlying L.t0; have u24 := run_underlying L.t24; have u26 := run_underlying L.t26; have u28 := run_underlying L.t28
  obtain ⟨_, _, FG⟩ := L.f8
  refine callsIn_of_wp FG rfl h8 ?_ hro
  simp only [SlBodyZ.n8_ntmps ρ, List.size_toArray, List.length_cons, List.length_nil, Nat.reduceAdd, Nat.reduceSub, Array.replicate_succ, Array.replicate_zero, List.push_toArray, List.append_toArray, List.nil_append, List.cons_append]
  gi_wp2_with (gi_at_fn (ρ.f 11); refine (it_appendSeq_in { L with } F (n - 1) h11 hro (by omega) g lb hFg eg S N hN hNb _ hseq).mono ?_; rintro e w' ⟨v, ss, rfl, hS, hrow, hnil, hb⟩)
  go_ret
  exact ⟨v, ss, rfl, hS, hrow, hnil, hb⟩
set_option maxRecDepth 100000 in
set_option maxHeartbeats 2000000 in
theorem it_sorted_in (L : SlLaysZI.n6 P ρ) (F : Fence) (n : Nat) (h6 : F.fn (ρ.f 6)) (h8 : F.fn (ρ.f 8)) (h9 : F.fn (ρ.f 9)) (h11 : F.fn (ρ.f 11)) (hro : F.round = none) (hn : 4 ≤ n) (hsort : AnyZI.SortsIn P ρ F (n - 1)) (e9 : ∀ args w, (callFunc (ρ.f 9) args).run P w = .ok (.enter (ρ.f 9) args) w) (g : Nat) (lb : Array Value) (hFg : F.fn g) (eg : ∀ args w, (callFunc g args).run P w = .ok (.enter g args) w)
    (S : List Int → Prop) (N : Nat) (hSN : ∀ ss, S ss → ss.length ≤ N) (hN : N ≤ maxLen) (hNb : N * 8 ≤ 140737488355328) (w : World) (hseq : SeqGivesB F (n - 1 - 1 - 1) P g lb encZ S N w) :
    CallsIn F n P (ρ.f 6) #[.func (.func g) #[] lb] w fun e w' => ∃ (v : Value) (ss : List Int), e = .returned v ∧ S ss ∧
      w'.ownsRow w.heap.size (ρ.t 26) 1 v ss.length ((ss.mergeSort (fun x y => decide (x ≤ y))).map encZ) ∧ (v = .slice none 0 0 ↔ ss = []) ∧ Below w.heap.size w w' := by
  have h1 : 1 ≤ n := by omega
  have e8 : ∀ args w, (callFunc (ρ.f 8) args).run P w = .ok (.enter (ρ.f 8) args) w := L.f8.enters rfl
  have mixed := L.mixed; have t0 := L.t0; have a0 := L.a0; have z0 := L.z0; have v0 := L.v0; have t24 := L.t24; have a24 := L.a24; have z24 := L.z24; have v24 := L.v24; have t26 := L.t26; have a26 := L.a26; have z26 := L.z26; have v26 := L.v26; have t28 := L.t28; have a28 := L.a28; have z28 := L.z28; have v28 := L.v28
  have u0 := run_underlying L.t0; have u24 := run_underlying L.t24; have u26 := run_underlying L.t26; have u28 := run_underlying L.t28
  obtain ⟨_, _, FG⟩ := L.f6
  refine callsIn_of_wp FG rfl h6 ?_ hro
  simp only [SlBodyZ.n6_ntmps ρ, List.size_toArray, List.length_cons, List.length_nil, Nat.reduceAdd, Nat.reduceSub, Array.replicate_succ, Array.replicate_zero, List.push_toArray, List.append_toArray, List.nil_append, List.cons_append]
  gi_wp2_with (gi_at_fn (ρ.f 8); refine (it_collect_in { L with } F (n - 1) h8 h11 hro (by omega) g lb hFg eg _ N hN hNb _ hseq).mono ?_; rintro e W ⟨v, ss, rfl, hS, hrow, hnil, hb⟩)
  rcases hrow.2 with ⟨rfl, hz⟩ | ⟨gb, cap, cur, rfl, hbase, hgb, r1, r2, r3, r4⟩
  · -- nothing came: the nil slice is sorted and handed back
    have hss : ss = [] := List.eq_nil_of_length_eq_zero hz
    subst hss
    gi_wp2_with (gi_at_fn (ρ.f 9); refine (hsort.2 none 0 W).mono ?_; rintro e w' ⟨rfl, rfl⟩)
    go_ret
    exact ⟨.slice none 0 0, [], rfl, hS, by simpa using hrow, by simp, hb⟩
  · have hH : Holds encZ W gb 0 ss.toArray := holds_of_block_i hgb (by simpa using r4)
    have hgl : gb < W.heap.size := (Array.getElem?_eq_some_iff.1 hgb).1
    have hlen := hSN ss hS
    have hsz : ss.length < 4611686018427387904 := by omega
    have cS := hsort.1 gb 0 cap ss W hH hgl hsz
    gi_wp2_with (gi_at_fn (ρ.f 9); refine cS.mono ?_; rintro e w' ⟨rfl, nn, os, rfl⟩)
    go_ret
    exact ⟨_, ss, rfl, hS, ownsRow_sorted_i (by simp) hbase hgb r1 r2 r3, hnil, hb.grown (grownBy_sorted_i _) hb.size (fun j hj => by cases hj; exact hbase)⟩
end

section
attribute [local go_sem] Oper.semAt_some
set_option maxRecDepth 100000 in
set_option maxHeartbeats 2000000 in
theorem values1_in (F : Fence) (n : Nat) (h7 : F.fn 124) (hro : F.round = none) (hn : 1 ≤ n) (l Bs b off cap : Nat) (zs : List Int) (hreach : zs.length * 8 ≤ 140737488351232) (w : World) (hBl : Bs < w.heap.size) (hb : b < w.heap.size)
    (hBs : w.cell? ⟨Bs, 0, none⟩ = some (.slice (some ⟨b, off, none⟩) zs.length cap)) (hc : ∀ j x, zs[j]? = some x → w.cell? ⟨b, off + j, none⟩ = some (.int .i64 x)) (J : List Int → World → Prop) (hJB : ∀ pre W1, J pre W1 → Below w.heap.size w W1)
    (hY : ∀ pre x W1, J pre W1 → pre.length < zs.length → YieldAt F (n - 1) Tryz.prog l #[encZ x] W1 fun e W' => e = .returned (.bool true) ∧ J (pre ++ [x]) W' ∧ KeepsWalks W1 W')
    (W : World) (h0 : J [] W) :
    CallsIn F n Tryz.prog 124 #[.func (.yield l) #[] #[], .pointer (some ⟨Bs, 0, none⟩)] W fun e W' => (∃ v, e = .returned v) ∧ ∃ xs, xs = zs ∧ J xs W' := by
  have hBW : W.cell? ⟨Bs, 0, none⟩ = some (.slice (some ⟨b, off, none⟩) zs.length cap) := ((hJB _ _ h0).cell (p := ⟨Bs, 0, none⟩) hBl).trans hBs
  have hsm : zs.length ≤ 17592186043904 := by omega
  have HC := Lib.hid hc
  clear hc hBs
  refine callsIn_of_wp Tryz.func124 rfl h7 ?_ hro
  simp only [Tryz.ntmps124, List.size_toArray, List.length_cons, List.length_nil, Nat.reduceAdd, Nat.reduceSub, Array.replicate_succ, Array.replicate_zero, List.push_toArray, List.append_toArray, List.nil_append, List.cons_append]
  gi_wp2
  gi_loopw [7] (fun i wr => ∃ k : Nat, k ≤ zs.length ∧ i = .int .i64 k ∧ J (zs.take k) wr) (fun i _ => zs.length - (intOf i).toNat)
  case atStart => exact ⟨0, Nat.zero_le _, rfl, h0⟩
  case round =>
    obtain ⟨k, hk, rfl, hJs⟩ := hrel
    by_cases hlt : k < zs.length
    · obtain ⟨x, hx⟩ : ∃ x, zs[k]? = some x := ⟨zs[k], List.getElem?_eq_getElem hlt⟩
      have hcx : wr.cell? ⟨b, off + k, none⟩ = some (.int .i64 x) := ((hJB _ _ hJs).cell (p := ⟨b, off + k, none⟩) hb).trans (HC.out k x hx)
      obtain ⟨fn, tmps, assign, body, hy, hR⟩ := hY _ x wr hJs (by rw [List.length_take]; omega)
      have hts : Hid (zs.take (k + 1) = zs.take k ++ [x]) := Lib.hid (by rw [List.take_add_one, hx]; rfl)
      clear hx
      unfold encZ at hy
      gi_wp2
      refine hR.mono ?_
      rintro e W3 ⟨rfl, hJ3, hk3⟩
      gi_wp2
      go_roundw
      case rel => exact ⟨k + 1, by omega, by simp, by rw [hts.out]; exact hJ3⟩
      case measure => simp [intOf]; omega
    · obtain rfl : k = zs.length := by omega
      gi_wp2
      go_end0
      exact ⟨⟨_, rfl⟩, zs, rfl, by rw [List.take_length] at hJs; exact hJs⟩
end
set_option maxHeartbeats 1000000 in
theorem values_any (A : Option Addr) (n c : Nat) (w : World) : Calls Tryz.prog 112 #[.slice A n c] w fun e w' => e = .returned (.func (.func 124) #[] #[.pointer (some ⟨w.heap.size, 0, none⟩)]) ∧ w' = w.alloc (.cells #[.slice A n c] 29) := by
  go_enter Tryz.func112, Tryz.ntmps112
  go_wp2
  go_ret
  exact ⟨rfl, rfl⟩
/-- slices.Sort's two contracts at this translation. -/
theorem sortsIn (m : Nat) : AnyZI.SortsIn Tryz.prog Tryz.sortedA_ren Fence.wide m :=
  ⟨fun blk off cap ss W hH hblk hsz => callsIn_wide.2 (AnyM.slices_Sort_int Tryz.sortA blk off cap ss W hH hblk hsz),
   fun p cap W => callsIn_wide.2 (AnyM.slices_Sort_int_none Tryz.sortA p cap W)⟩
set_option maxHeartbeats 1000000 in
theorem sorted_any (A : Option Addr) (c Bs : Nat) (zs : List Int) (w : World) (hz : zs ≠ []) (hl : zs.length ≤ 1000000) (hbox : w.cell? ⟨Bs, 0, none⟩ = some (.slice A zs.length c)) (h : SlI w A zs) :
    Calls Tryz.prog 111 #[.func (.func 124) #[] #[.pointer (some ⟨Bs, 0, none⟩)]] w fun e w' => (∃ (R : Option Addr) (rc : Nat), e = .returned (.slice R (It.sorted zs).length rc) ∧ SlI w' R (It.sorted zs)) ∧ Ext w w' := by
  refine (callsIn_wide (n := 6)).1 ?_
  rcases h with h | ⟨b, off, rfl, hb, hc⟩
  · simp at h; exact absurd h hz
  have hBl : Bs < w.heap.size := World.block_lt_of_cell? w ⟨Bs, 0, none⟩ hbox
  have hseq : SeqGivesB Fence.wide 3 Tryz.prog 124 #[.pointer (some ⟨Bs, 0, none⟩)] encZ (fun ss => ss = zs) zs.length w := fun l J W hW hJ hJB hY h0 =>
    values1_in Fence.wide 3 trivial rfl (by omega) l Bs b off c zs (by omega) w hBl hb hbox (fun j x hx => by
      have := hc j [.int .i64 x] (by rw [List.getElem?_map, hx]; rfl) 0 _ rfl
      simpa using this) J hJB hY W h0
  have cS := it_sorted_in (ρ := Tryz.sortedA_ren) Tryz.sortedA Fence.wide 6 trivial trivial trivial trivial rfl (by omega) (sortsIn _) (enters_of Tryz.func115 (by kernel_rfl) rfl) 124 #[.pointer (some ⟨Bs, 0, none⟩)] trivial (enters_of Tryz.func124 (by kernel_rfl) rfl) _ zs.length (fun ss e => by rw [e]; exact Nat.le_refl _) (by unfold maxLen; omega) (by omega) w hseq
  refine CallsIn.mono cS ?_
  rintro e w' ⟨v, ss, rfl, rfl, hrow, hnil, hb'⟩
  have hlen : (It.sorted ss).length = ss.length := (It.sorted_perm ss).length_eq
  have hrow' : w'.ownsRow w.heap.size 3 1 v ss.length ((It.sorted ss).map (Value.int .i64)) := hrow
  obtain ⟨R, rc, hv, r1, r2, r3⟩ := SlI.of_own hrow'
  exact ⟨⟨R, rc, by rw [hv], r3⟩, hb'⟩
theorem sorted_to (A : Option Addr) (c Bs n : Nat) (zs : List Int) (hn : zs.length = n) (w : World) (hz : 0 < n) (hl : n ≤ 1000000) (hbox : w.cell? ⟨Bs, 0, none⟩ = some (.slice A n c)) (h : SlI w A zs) :
    Calls Tryz.prog 111 #[.func (.func 124) #[] #[.pointer (some ⟨Bs, 0, none⟩)]] w fun e w' => (∃ (R : Option Addr) (rc : Nat), e = .returned (.slice R n rc) ∧ SlI w' R (It.sorted zs)) ∧ Ext w w' := by
  subst hn
  have := sorted_any A c Bs zs w (List.length_pos_iff.1 hz) hl hbox h
  rwa [(It.sorted_perm zs).length_eq] at this
end Go.Proofs.YtgaepmddbjdhfaaGreatDoor
namespace Go.Proofs.YtgaepmddbjdhfaaGreatDoor
open Go.RowKit

namespace It
def noOpt (it : Item) : Bool := decide (it.opts.length = 0) && decide (it.chs.length = 0)
def noNum (it : Item) : Bool := decide (it.value = 0) && decide (it.tol = 0)
def noTxt (it : Item) : Bool := decide (it.texts.length = 0)
def noEss (it : Item) : Bool := decide (it.rub = 0)
/-- a is at most b. -/
def sle (a b : ByteArray) : Bool := Op.bytesLess a.toList b.toList || a.toList == b.toList
/-- The i-th accepted text is normalized and stands behind the one before. -/
def txA (f : ByteArray → Bool) (l : List ByteArray) (i : Nat) : Bool := f (l.getD i ⟨#[]⟩) && (decide (i = 0) || !sle (l.getD i ⟨#[]⟩) (l.getD (i - 1) ⟨#[]⟩))
def txs (f : ByteArray → Bool) (l : List ByteArray) : Bool := allN (txA f l) l.length
def key1 (it : Item) : Bool := noNum it && noTxt it && noEss it && decide (2 ≤ it.opts.length) && decide (it.chs.length = 1) && rising it.chs 0 ((it.opts.length : Int) - 1)
def key2 (it : Item) : Bool := noNum it && noTxt it && noEss it && decide (2 ≤ it.opts.length) && decide (1 ≤ it.chs.length) && rising it.chs 0 ((it.opts.length : Int) - 1)
def key3 (it : Item) : Bool := noNum it && noTxt it && noEss it && decide (2 ≤ it.opts.length) && perm it.chs it.opts.length
def key4 (it : Item) : Bool := noOpt it && noTxt it && noEss it && wi it.value (-9999999) 9999999 && wi it.tol 0 9999999
def key5 (f : ByteArray → Bool) (it : Item) : Bool := txs f it.texts && (noOpt it && noNum it && noEss it && decide (1 ≤ it.texts.length))
def key6 (it : Item) : Bool := noOpt it && noNum it && noTxt it && decide (1 ≤ it.rub)
/-- The key, as the reference asks it. -/
def key (it : Item) : Bool := if it.kind = 1 then key1 it else if it.kind = 2 then key2 it else if it.kind = 3 then key3 it else if it.kind = 4 then key4 it else if it.kind = 5 then key5 nrm it else key6 it
theorem count_take {l : List Int} {k : Nat} {x y : Int} (h : l[k]? = some x) : (l.take (k + 1)).count y = (l.take k).count y + if x = y then 1 else 0 := by
  rw [List.take_add_one, h, List.count_append]
  simp [List.count_cons]
end It

set_option maxRecDepth 100000 in
set_option maxHeartbeats 1600000 in
theorem permutation_any (A : Option Addr) (c : Nat) (l : List Int) (n : Nat) (w : World) (h : SlI w A l) (hl : l.length ≤ 9223372036854775807) (hn : n ≤ 9223372036854775807) :
    Calls Tryz.prog 117 #[.slice A l.length c, .int .i64 n] w fun e w' => e = .returned (.bool (It.perm l n)) ∧ w = w' := by
  have H := Lib.hid h
  clear h
  obtain ⟨v, hv⟩ : ∃ v, It.perm l n = v := ⟨_, rfl⟩
  rw [hv]
  by_cases hln : l.length = n
  case neg =>
    have HF : Hid (v = false) := Lib.hid (by rw [← hv]; unfold It.perm; rw [decide_eq_false hln]; rfl)
    have e1 : ((l.length : Int) != (n : Int)) = true := by rw [bne_iff_ne]; omega
    clear hln hv
    go_enter Tryz.func117, Tryz.ntmps117
    go_wp2
    go_ret
    exact ⟨ret_bool HF.out.symm, rfl⟩
  have HV : Hid (It.allN (fun k => decide (It.times l k = 1)) n = v) := Lib.hid (by rw [← hv]; unfold It.perm; rw [decide_eq_true hln, Bool.true_and])
  have e1 : ((l.length : Int) != (n : Int)) = false := by rw [bne_eq_false_iff_eq]; omega
  clear hln hv
  go_enter Tryz.func117, Tryz.ntmps117
  go_wp2
  go_loop [5] (fun i => ∃ k : Nat, k ≤ n ∧ i = .int .i64 k ∧ Hid (It.allN (fun k => decide (It.times l k = 1)) k = true)) (fun i => n - (intOf i).toNat)
  case atStart => exact ⟨0, by omega, rfl, Lib.hid rfl⟩
  case round =>
    obtain ⟨k, hk, rfl, HA⟩ := hrel
    by_cases hlt : k < n
    · go_wp2
      go_loop [6, 20] (fun t j => ∃ m c : Nat, m ≤ l.length ∧ j = .int .i64 m ∧ t = .int .i64 c ∧ c ≤ m ∧ Hid ((l.take m).count (k : Int) = c)) (fun _ j => l.length - (intOf j).toNat)
      case atStart => exact ⟨0, 0, by omega, rfl, rfl, by omega, Lib.hid rfl⟩
      case round =>
        obtain ⟨m, c, hm, rfl, rfl, hcm, HC⟩ := hrel
        by_cases hlm : m < l.length
        · obtain ⟨b, off, x, rfl, hb, hx, hc⟩ := H.out.at_ hlm
          have HT := Lib.hid (It.count_take (y := (k : Int)) hx)
          clear hx
          by_cases hxk : x = (k : Int)
          · have e2 : (x == (k : Int)) = true := by rw [beq_iff_eq]; exact hxk
            have HN : Hid ((l.take (m + 1)).count (k : Int) = c + 1) := Lib.hid (by rw [HT.out, HC.out, if_pos hxk])
            clear hxk
            go_wp2
            go_round
            case rel => exact ⟨m + 1, c + 1, by omega, by go_num, by go_num, by omega, HN⟩
            case measure => simp [intOf]; omega
          · have e2 : (x == (k : Int)) = false := by rw [beq_eq_false_iff_ne]; exact hxk
            have HN : Hid ((l.take (m + 1)).count (k : Int) = c) := Lib.hid (by rw [HT.out, HC.out, if_neg hxk]; rfl)
            clear hxk
            go_wp2
            go_round
            case rel => exact ⟨m + 1, c, by omega, by go_num, by go_num, by omega, HN⟩
            case measure => simp [intOf]; omega
        · obtain rfl : m = l.length := by omega
          have HT : Hid (It.times l (k : Int) = c) := Lib.hid (by have := HC.out; rwa [List.take_length] at this)
          by_cases h1 : c = 1
          · have e3 : ((c : Int) != 1) = false := by rw [h1]; rfl
            have HN := Lib.hid (It.allN_next HA.out (show decide (It.times l (k : Int) = 1) = true from decide_eq_true (by rw [HT.out, h1])))
            clear h1
            go_wp2
            go_round
            case rel => exact ⟨k + 1, by omega, by go_num, HN⟩
            case measure => simp [intOf]; omega
          · have e3 : ((c : Int) != 1) = true := by rw [bne_iff_ne]; omega
            have HF : Hid (v = false) := Lib.hid (by rw [← HV.out]; exact It.allN_no hlt (show decide (It.times l (k : Int) = 1) = false from decide_eq_false (by rw [HT.out]; exact h1)))
            clear h1
            go_wp2
            go_ret
            exact ⟨ret_bool HF.out.symm, rfl⟩
    · obtain rfl : k = n := by omega
      have HF : Hid (v = true) := Lib.hid (by rw [← HV.out]; exact HA.out)
      go_wp2
      go_ret
      exact ⟨ret_bool HF.out.symm, rfl⟩


set_option maxRecDepth 100000 in
set_option maxHeartbeats 6400000 in
theorem rkey_1 (it : It.Item) (L : It.Loc) (w : World) (h : It.In w it L) (hk : it.kind = 1) :
    Calls Tryz.prog 93 #[It.agg it L] w fun e w' => e = .returned (.bool (It.key1 it)) ∧ Ext w w' := by
  have H := Lib.hid h
  have hl1 : it.opts.length ≤ 140737488351232 := h.ok.ol
  have hl2 : it.chs.length ≤ 140737488351232 := h.ok.cl
  have hl3 : it.texts.length ≤ 140737488351232 := h.ok.tl
  have hvl : -9223372036854775808 ≤ it.value ∧ it.value ≤ 9223372036854775807 := h.ok.value
  have htl : -9223372036854775808 ≤ it.tol ∧ it.tol ≤ 9223372036854775807 := h.ok.tol
  clear h
  unfold It.agg
  rw [hk]
  clear hk
  go_enter Tryz.func93, Tryz.ntmps93

  go_wp2_with (go_at_call 94; refine (rrising_any L.cA L.cc it.chs 0 _ _ (H.out.c.ext ((Ext.refl _).alloc _)) (by omega)).mono ?_; rintro e w' ⟨rfl, rfl⟩)
  all_goals first
    | (go_ret; exact ⟨ret_bool (by unfold It.key1 It.noNum It.noTxt It.noEss; first | (simp [*]; done) | (simp_all; done) | (simp; intros; first | contradiction | omega | (simp_all; done) | (simp_all; omega)) | (simp_all; omega)), (Ext.refl _).alloc _⟩)


set_option maxRecDepth 100000 in
set_option maxHeartbeats 6400000 in
theorem rkey_2 (it : It.Item) (L : It.Loc) (w : World) (h : It.In w it L) (hk : it.kind = 2) :
    Calls Tryz.prog 93 #[It.agg it L] w fun e w' => e = .returned (.bool (It.key2 it)) ∧ Ext w w' := by
  have H := Lib.hid h
  have hl1 : it.opts.length ≤ 140737488351232 := h.ok.ol
  have hl2 : it.chs.length ≤ 140737488351232 := h.ok.cl
  have hl3 : it.texts.length ≤ 140737488351232 := h.ok.tl
  have hvl : -9223372036854775808 ≤ it.value ∧ it.value ≤ 9223372036854775807 := h.ok.value
  have htl : -9223372036854775808 ≤ it.tol ∧ it.tol ≤ 9223372036854775807 := h.ok.tol
  clear h
  unfold It.agg
  rw [hk]
  clear hk
  go_enter Tryz.func93, Tryz.ntmps93

  go_wp2_with (go_at_call 94; refine (rrising_any L.cA L.cc it.chs 0 _ _ (H.out.c.ext ((Ext.refl _).alloc _)) (by omega)).mono ?_; rintro e w' ⟨rfl, rfl⟩)
  all_goals first
    | (go_ret; exact ⟨ret_bool (by unfold It.key2 It.noNum It.noTxt It.noEss; first | (simp [*]; done) | (simp_all; done) | (simp; intros; first | contradiction | omega | (simp_all; done) | (simp_all; omega)) | (simp_all; omega)), (Ext.refl _).alloc _⟩)


set_option maxRecDepth 100000 in
set_option maxHeartbeats 6400000 in
theorem rkey_3 (it : It.Item) (L : It.Loc) (w : World) (h : It.In w it L) (hk : it.kind = 3) :
    Calls Tryz.prog 93 #[It.agg it L] w fun e w' => e = .returned (.bool (It.key3 it)) ∧ Ext w w' := by
  have H := Lib.hid h
  have hl1 : it.opts.length ≤ 140737488351232 := h.ok.ol
  have hl2 : it.chs.length ≤ 140737488351232 := h.ok.cl
  have hl3 : it.texts.length ≤ 140737488351232 := h.ok.tl
  have hvl : -9223372036854775808 ≤ it.value ∧ it.value ≤ 9223372036854775807 := h.ok.value
  have htl : -9223372036854775808 ≤ it.tol ∧ it.tol ≤ 9223372036854775807 := h.ok.tol
  clear h
  unfold It.agg
  rw [hk]
  clear hk
  go_enter Tryz.func93, Tryz.ntmps93

  go_wp2_with (go_at_call 117; refine (permutation_any L.cA L.cc it.chs it.opts.length _ (H.out.c.ext ((Ext.refl _).alloc _)) (by omega) (by omega)).mono ?_; rintro e w' ⟨rfl, rfl⟩)
  all_goals first
    | (go_ret; exact ⟨ret_bool (by unfold It.key3 It.noNum It.noTxt It.noEss; first | (simp [*]; done) | (simp_all; done) | (simp; intros; first | contradiction | omega | (simp_all; done) | (simp_all; omega)) | (simp_all; omega)), (Ext.refl _).alloc _⟩)


set_option maxRecDepth 100000 in
set_option maxHeartbeats 6400000 in
theorem rkey_4 (it : It.Item) (L : It.Loc) (w : World) (h : It.In w it L) (hk : it.kind = 4) :
    Calls Tryz.prog 93 #[It.agg it L] w fun e w' => e = .returned (.bool (It.key4 it)) ∧ Ext w w' := by
  have H := Lib.hid h
  have hl1 : it.opts.length ≤ 140737488351232 := h.ok.ol
  have hl2 : it.chs.length ≤ 140737488351232 := h.ok.cl
  have hl3 : it.texts.length ≤ 140737488351232 := h.ok.tl
  have hvl : -9223372036854775808 ≤ it.value ∧ it.value ≤ 9223372036854775807 := h.ok.value
  have htl : -9223372036854775808 ≤ it.tol ∧ it.tol ≤ 9223372036854775807 := h.ok.tol
  clear h
  unfold It.agg
  rw [hk]
  clear hk
  go_enter Tryz.func93, Tryz.ntmps93

  go_wp2_with (go_at_call 91; refine (rwithin_any _ _ _ _).mono ?_; rintro e w' ⟨rfl, rfl⟩)
  all_goals first
    | (go_ret; exact ⟨ret_bool (by unfold It.key4 It.noOpt It.noTxt It.noEss; first | (simp [*]; done) | (simp_all; done) | (simp; intros; first | contradiction | omega | (simp_all; done) | (simp_all; omega)) | (simp_all; omega)), (Ext.refl _).alloc _⟩)


set_option maxRecDepth 100000 in
set_option maxHeartbeats 6400000 in
theorem rkey_6 (it : It.Item) (L : It.Loc) (w : World) (h : It.In w it L) (hk : it.kind = 6) :
    Calls Tryz.prog 93 #[It.agg it L] w fun e w' => e = .returned (.bool (It.key6 it)) ∧ Ext w w' := by
  have H := Lib.hid h
  have hl1 : it.opts.length ≤ 140737488351232 := h.ok.ol
  have hl2 : it.chs.length ≤ 140737488351232 := h.ok.cl
  have hl3 : it.texts.length ≤ 140737488351232 := h.ok.tl
  have hvl : -9223372036854775808 ≤ it.value ∧ it.value ≤ 9223372036854775807 := h.ok.value
  have htl : -9223372036854775808 ≤ it.tol ∧ it.tol ≤ 9223372036854775807 := h.ok.tol
  clear h
  unfold It.agg
  rw [hk]
  clear hk
  go_enter Tryz.func93, Tryz.ntmps93

  go_wp2
  all_goals first
    | (go_ret; exact ⟨ret_bool (by unfold It.key6 It.noOpt It.noNum It.noTxt; first | (simp [*]; done) | (simp_all; done) | (simp; intros; first | contradiction | omega | (simp_all; done) | (simp_all; omega)) | (simp_all; omega)), (Ext.refl _).alloc _⟩)

end Go.Proofs.YtgaepmddbjdhfaaGreatDoor
