/- incident.Merge: its contract. Conditions: those of each theorem. -/
import Derived.Test.YtcpapnnghclbmaaDoorInD
namespace Go.Proofs.YtcpapnnghclbmaaDoor
open Go.RowKit

namespace In
/-- All incidents of two lists, each once, in order. -/
def mrg (a b : List Inc) : List Inc := dd (srt (a ++ b))
def merE (a b : List Inc) : Int := if chk a ≠ 0 then chk a else if chk b ≠ 0 then chk b else if 300 < (mrg a b).length then 5 else 0
def merL (a b : List Inc) : List Inc := if merE a b = 0 then mrg a b else []
theorem mrg_len (a b : List Inc) : (mrg a b).length ≤ a.length + b.length := by
  unfold mrg
  refine Nat.le_trans (dd_len _) ?_
  rw [srt_len, List.length_append]; exact Nat.le_refl _
theorem foldl_ddS_mem (l : List Inc) : ∀ (out : List Inc) (p : Inc), p ∈ l.foldl ddS out ↔ p ∈ out ∨ p ∈ l := by
  induction l with
  | nil => intro out p; simp
  | cons q l ih =>
    intro out p
    rw [List.foldl_cons, ih]
    have : p ∈ ddS out q ↔ p ∈ out ∨ p = q := by
      unfold ddS
      split
      · rename_i h
        constructor
        · intro e; exact Or.inl e
        · rintro (e | rfl)
          · exact e
          · exact List.mem_of_getLast? h
      · simp
    rw [this, List.mem_cons, or_assoc]
theorem dd_mem {l : List Inc} {p : Inc} : p ∈ dd l ↔ p ∈ l := by unfold dd; rw [foldl_ddS_mem]; simp
theorem mrg_mem {a b : List Inc} {p : Inc} : p ∈ mrg a b ↔ p ∈ a ∨ p ∈ b := by unfold mrg; rw [dd_mem, srt_mem, List.mem_append]
end In
/-- A slice of incidents with where it lies. -/
structure NL where
  A : Option Addr
  c : Nat
  xs : List In.Inc
def NL.In (w : World) (h : NL) : Prop := SlN w h.A h.xs ∧ h.xs.length ≤ h.c ∧ h.c ≤ maxLen ∧ ∀ p ∈ h.xs, In.ok64 p
theorem NL.In.ext {w w' : World} {h : NL} (hi : h.In w) (he : Ext w w') : h.In w' := ⟨hi.1.ext he, hi.2⟩
theorem NL.nil (w : World) : (⟨none, 0, []⟩ : NL).In w := ⟨SlN.nil _ _, Nat.le_refl _, Nat.zero_le _, fun p hp => by simp at hp⟩
theorem ret_sl2 {X : Option Addr} {n m c : Nat} {a b : Int} (h : n = m) (g : a = b) : Ending.returned (.tuple #[.slice X n c, .int .i64 a]) = .returned (.tuple #[.slice X m c, .int .i64 b]) := by rw [h, g]
theorem clone_to (A : Option Addr) (c n : Nat) (ps : List In.Inc) (hn : ps.length = n) (w : World) (h : SlN w A ps) (hb : n ≤ 1000) :
    Calls Tryd.prog 32 #[.slice A n c] w fun e w' => ∃ (A' : Option Addr) (c' : Nat), e = .returned (.slice A' n c') ∧ w'.ownsRow w.heap.size 23 4 (.slice A' n c') n (ps.map In.cells).flatten ∧ Ext w w' := by
  subst hn
  exact clone_any A c ps w h hb
theorem own_cap {w : World} {base : Nat} {e : TypeId} {size : Nat} {A : Option Addr} {n c : Nat} {xs : List Value} (h : w.ownsRow base e size (.slice A n c) n xs) : n ≤ c ∧ c ≤ maxLen := by
  rcases h.2 with ⟨e, e2⟩ | ⟨g, cap, cur, e, -, -, h4, h5, -⟩
  · injection e with _ _ e; subst e; exact ⟨by omega, Nat.zero_le _⟩
  · injection e with _ _ e; subst e; exact ⟨h4, h5⟩
theorem compact_to {W : World} (A : Option Addr) (c n : Nat) (ys : List In.Inc) (hn : ys.length = n) {m : Nat} (hm : (In.dd ys).length = m) (w : World) (hW : Ext W w) (h : OwnN W w A ys) (hb : n ≤ 1000) (hnc : n ≤ c) (hc : c ≤ maxLen) :
    Calls Tryd.prog 35 #[.slice A n c] w fun e w' => e = .returned (.slice A m c) ∧ OwnN W w' A (In.dd ys) ∧ Ext W w' := by
  subst hm
  exact compact_any A c n ys hn w hW h hb hnc hc

/-- The post of a function that returns incidents and an error. -/
def RetN (ps : List In.Inc) (er : Int) (w : World) (e : Ending) (w' : World) : Prop :=
  ∃ (X : Option Addr) (xc : Nat), e = .returned (.tuple #[.slice X ps.length xc, .int .i64 er]) ∧ (⟨X, xc, ps⟩ : NL).In w' ∧ Ext w w'

set_option maxRecDepth 100000 in
set_option maxHeartbeats 3200000 in
theorem merge_any (A : Option Addr) (c : Nat) (a : List In.Inc) (B : Option Addr) (d : Nat) (b : List In.Inc) (w : World) (h : (⟨A, c, a⟩ : NL).In w) (h2 : (⟨B, d, b⟩ : NL).In w) :
    Calls Tryd.prog 10 #[.slice A a.length c, .slice B b.length d] w (RetN (In.merL a b) (In.merE a b) w) := by
  have hla : a.length ≤ maxLen := Nat.le_trans h.2.1 h.2.2.1
  have hlb : b.length ≤ maxLen := Nat.le_trans h2.2.1 h2.2.2.1
  have HA := Lib.hid h
  have HB := Lib.hid h2
  clear h h2
  obtain ⟨n, hn⟩ : ∃ n, a.length = n := ⟨_, rfl⟩
  obtain ⟨m, hm⟩ : ∃ m, b.length = m := ⟨_, rfl⟩
  rw [hn] at hla ⊢
  rw [hm] at hlb ⊢
  have HN := Lib.hid hn
  have HM := Lib.hid hm
  clear hn hm
  obtain ⟨ea, hea⟩ : ∃ v, In.chk a = v := ⟨_, rfl⟩
  obtain ⟨eb, heb⟩ : ∃ v, In.chk b = v := ⟨_, rfl⟩
  have HEA := Lib.hid hea
  have HEB := Lib.hid heb
  clear hea heb
  by_cases za : ea = 0
  · have za' : (ea != 0) = false := by rw [za]; rfl
    have HCA : Hid (In.chk a = 0) := Lib.hid (by rw [HEA.out, za])
    clear za
    by_cases zb : eb = 0
    · have zb' : (eb != 0) = false := by rw [zb]; rfl
      have HCB : Hid (In.chk b = 0) := Lib.hid (by rw [HEB.out, zb])
      clear zb
      have hn3 : n ≤ 300 := by rw [← HN.out]; exact (In.chk_zero.1 HCA.out).1
      have hm3 : m ≤ 300 := by rw [← HM.out]; exact (In.chk_zero.1 HCB.out).1
      have HOK : Hid (∀ p ∈ In.mrg a b, In.ok64 p) := Lib.hid (fun p hp => by
        rcases In.mrg_mem.1 hp with g | g
        · exact In.ok_of_vld ((In.chk_zero.1 HCA.out).2 p g)
        · exact In.ok_of_vld ((In.chk_zero.1 HCB.out).2 p g))
      obtain ⟨r, hr⟩ : ∃ r, (In.mrg a b).length = r := ⟨_, rfl⟩
      have hr6 : r ≤ 600 := by rw [← hr]; have := In.mrg_len a b; have := HN.out; have := HM.out; omega
      have HRL := Lib.hid hr
      clear hr
      obtain ⟨i0, hi0, hz0, hz1, hz2⟩ := info_parts Tryd.infoInc
      go_enter Tryd.func10, Tryd.ntmps10
      go_wp2_with fail
      refine (check_to A c a HN.out HEA.out _ HA.out.1 hla).mono ?_
      rintro e w1 ⟨rfl, hb1⟩
      go_wp2_with fail
      refine (check_to B d b HM.out HEB.out _ (HB.out.1.ext hb1) hlb).mono ?_
      rintro e w2 ⟨rfl, hb2⟩
      have hb12 := hb1.trans hb2
      go_wp2_with fail
      refine (clone_to A c n a HN.out _ (HA.out.1.ext hb12) (by omega)).mono ?_
      rintro e w3 ⟨X, xc, rfl, hown, hb3⟩
      have HOWN := Lib.hid hown
      clear hown
      go_wp2_with (at_builtin; refine wpList_append_sl rfl _ _ 24 rfl w2.heap.size 23 i0 (.agg #[.int .i64 0, .int .i64 0, .int .i64 0, .int .i64 0]) 4 32 Tryd.underlying24 hi0 hz0 hz1 hz2 rfl (by decide) (.slice X n xc) n _ rfl HOWN.out B d m (b.map In.cells) (by rw [List.length_map]; exact HM.out) rfl (HB.out.1.ext (hb12.trans hb3)) (inc_cells b).1 (inc_cells b).2 (by unfold maxLen; omega) (by omega) hb3.size ?_; intro Y yc w4 hown4 hgr4)
      have hb4 : Ext w2 w4 := hb3.grown hgr4 (fun k hk => own_ge HOWN.out k hk)
      have HOW4 : Hid (w4.ownsRow w2.heap.size 23 4 (.slice Y (n + m) yc) (n + m) ((a ++ b).map In.cells).flatten) := Lib.hid (by rw [List.map_append, List.flatten_append]; exact hown4)
      clear hown4 hgr4
      have HNM : Hid ((a ++ b).length = n + m) := Lib.hid (by rw [List.length_append, HN.out, HM.out])
      have HSL : Hid ((In.srt (a ++ b)).length = n + m) := Lib.hid (by rw [In.srt_len]; exact HNM.out)
      obtain ⟨hyc1, hyc2⟩ := own_cap HOW4.out
      obtain ⟨s, hs⟩ : ∃ s, n + m = s := ⟨_, rfl⟩
      rw [hs] at HOW4 HNM HSL hyc1
      have hs6 : s ≤ 600 := by omega
      try rw [hs]
      clear hs
      go_wp2_with fail
      refine (sort_any Y yc s (a ++ b) HNM.out _ hb4 HOW4.out (by omega)).mono ?_
      rintro e w5 ⟨rfl, hO5, hb5⟩
      have HO5 := Lib.hid hO5
      clear hO5
      go_wp2_with fail
      refine (compact_to Y yc s (In.srt (a ++ b)) HSL.out HRL.out _ hb5 HO5.out (by omega) hyc1 hyc2).mono ?_
      rintro e w6 ⟨rfl, hO6, hb6⟩
      have HO6 := Lib.hid hO6
      clear hO6
      have hyc3 : (r : Int) ≤ 600 := by omega
      have HYC : Hid (r ≤ yc ∧ yc ≤ maxLen) := Lib.hid ⟨by
        have := In.dd_len (In.srt (a ++ b))
        have e1 := HRL.out
        unfold In.mrg at e1
        have e2 := HSL.out
        omega, hyc2⟩
      by_cases hbig : 300 < r
      · have hbig' : (300 : Int) < (r : Int) := by omega
        have HE : Hid (In.merE a b = 5) := Lib.hid (by unfold In.merE; rw [if_neg (by rw [HCA.out]; simp), if_neg (by rw [HCB.out]; simp), if_pos (by rw [HRL.out]; exact hbig)])
        have HL : Hid (In.merL a b = []) := Lib.hid (by unfold In.merL; rw [HE.out]; rfl)
        go_wp2
        go_ret2
        rw [HE.out, HL.out]
        exact ⟨none, 0, rfl, NL.nil _, hb12.trans hb6⟩
      · have hbig' : ¬ (300 : Int) < (r : Int) := by omega
        have HE : Hid (In.merE a b = 0) := Lib.hid (by unfold In.merE; rw [if_neg (by rw [HCA.out]; simp), if_neg (by rw [HCB.out]; simp), if_neg (by rw [HRL.out]; exact hbig)])
        have HL : Hid (In.merL a b = In.mrg a b) := Lib.hid (by unfold In.merL; rw [HE.out]; rfl)
        go_wp2
        go_ret2
        rw [HE.out, HL.out]
        refine ⟨Y, yc, ret_sl2 HRL.out.symm rfl, ⟨HO6.out.sl, ?_, HYC.out.2, HOK.out⟩, hb12.trans hb6⟩
        rw [HRL.out]; exact HYC.out.1
    · have zb' : (eb != 0) = true := by rw [bne_iff_ne]; exact zb
      have HE : Hid (In.merE a b = eb) := Lib.hid (by unfold In.merE; rw [if_neg (by rw [HCA.out]; simp), HEB.out, if_pos zb])
      have HL : Hid (In.merL a b = []) := Lib.hid (by unfold In.merL; rw [HE.out, if_neg zb])
      clear zb
      go_enter Tryd.func10, Tryd.ntmps10
      go_wp2_with fail
      refine (check_to A c a HN.out HEA.out _ HA.out.1 hla).mono ?_
      rintro e w1 ⟨rfl, hb1⟩
      go_wp2_with fail
      refine (check_to B d b HM.out HEB.out _ (HB.out.1.ext hb1) hlb).mono ?_
      rintro e w2 ⟨rfl, hb2⟩
      go_wp2
      go_ret2
      rw [HE.out, HL.out]
      exact ⟨none, 0, rfl, NL.nil _, hb1.trans hb2⟩
  · have za' : (ea != 0) = true := by rw [bne_iff_ne]; exact za
    have HE : Hid (In.merE a b = ea) := Lib.hid (by unfold In.merE; rw [HEA.out, if_pos za])
    have HL : Hid (In.merL a b = []) := Lib.hid (by unfold In.merL; rw [HE.out, if_neg za])
    clear za
    go_enter Tryd.func10, Tryd.ntmps10
    go_wp2_with fail
    refine (check_to A c a HN.out HEA.out _ HA.out.1 hla).mono ?_
    rintro e w1 ⟨rfl, hb1⟩
    go_wp2
    go_ret2
    rw [HE.out, HL.out]
    exact ⟨none, 0, rfl, NL.nil _, hb1⟩
end Go.Proofs.YtcpapnnghclbmaaDoor
