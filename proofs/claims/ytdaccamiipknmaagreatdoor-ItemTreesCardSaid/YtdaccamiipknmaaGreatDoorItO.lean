/- The form of a node: the package's isNode, the reference's formed: contracts. Conditions: those of each theorem. -/
import Derived.Test.YtdaccamiipknmaaGreatDoorItK
import Derived.Test.YtdaccamiipknmaaGreatDoorItE
namespace Go.Proofs.YtdaccamiipknmaaGreatDoor
open Go.RowKit

/-- A node has this tag and this kind, and nothing that the kind does not use. -/
def isNd (x : Nd) (tag kind : Int) : Bool := decide (x.tag = tag) && decide (x.kind = kind) && (decide (kind = 1) || decide (x.n = 0)) && (decide (kind = 2) || decide (x.s.size = 0)) && (decide (kind = 3) || decide (x.kids.length = 0))


set_option maxRecDepth 100000 in
set_option maxHeartbeats 6400000 in
theorem isNode_1 (x : Nd) (M : Option Addr × Nat) (tag : Int) (w : World) (hs : x.s.size ≤ 9223372036854775807) (hl : x.kids.length ≤ 9223372036854775807) :
    Calls Tryz.prog 66 #[nda x M, .int .i64 tag, .int .i64 1] w fun e w' => e = .returned (.bool (isNd x tag 1)) ∧ Ext w w' := by
  obtain ⟨t, k, n, s, ks⟩ := x
  obtain ⟨v, hv⟩ : ∃ v, isNd (.mk t k n s ks) tag 1 = v := ⟨_, rfl⟩
  rw [hv]
  have HV : Hid (isNd (.mk t k n s ks) tag 1 = v) := Lib.hid hv
  clear hv
  simp only [nda, Nd.tag, Nd.kind, Nd.n, Nd.s, Nd.kids] at hs hl ⊢
  by_cases hq : t = tag
  · have q_tag := Lib.hid hq
    have e1 : (t == tag) = true := by rw [hq]; simp
    have e2 : (t != tag) = false := by rw [hq]; simp
    clear hq
    by_cases hq : k = 1
    · have q_kind := Lib.hid hq
      have e3 : (k == 1) = true := by rw [hq]; rfl
      have e4 : (k != 1) = false := by rw [hq]; rfl
      clear hq
      by_cases hq : s.size = 0
      · have q_s := Lib.hid hq
        have e6 : s.toList = [] := str_empty hq
        have e7 : s.toList.isEmpty = true := by rw [e6]; rfl
        have e8 : (s.toList == (⟨#[]⟩ : ByteArray).toList) = true := by rw [e6]; simp [ByteArray.toList_eq]
        clear hq
        by_cases hq : ks.length = 0
        · have q_kids := Lib.hid hq
          have e9 : ((ks.length : Int) == 0) = true := by rw [hq]; rfl
          have e10 : ks = [] := List.eq_nil_of_length_eq_zero hq
          clear hq
          have HF : Hid (v = true) := Lib.hid (by rw [← HV.out]; unfold isNd; simp only [Nd.tag, Nd.kind, Nd.n, Nd.s, Nd.kids]; simp [q_tag.out, q_kind.out, q_s.out, q_kids.out])
          clear HV q_tag q_kind q_s q_kids
          go_enter Tryz.func66, Tryz.ntmps66
          go_wp2
          all_goals
            go_ret
            exact ⟨ret_bool HF.out.symm, (Ext.refl _).alloc _⟩
        · have HF : Hid (v = false) := Lib.hid (by rw [← HV.out]; unfold isNd; simp only [Nd.tag, Nd.kind, Nd.n, Nd.s, Nd.kids]; simp [hq])
          have e9 : ((ks.length : Int) == 0) = false := by rw [beq_eq_false_iff_ne]; omega
          have e10 : ¬ ks = [] := fun e => hq (by rw [e]; rfl)
          clear hq HV q_tag q_kind q_s
          go_enter Tryz.func66, Tryz.ntmps66
          go_wp2
          all_goals
            go_ret
            exact ⟨ret_bool HF.out.symm, (Ext.refl _).alloc _⟩
      · have HF : Hid (v = false) := Lib.hid (by rw [← HV.out]; unfold isNd; simp only [Nd.tag, Nd.kind, Nd.n, Nd.s, Nd.kids]; simp [hq])
        have e6 : s.toList.isEmpty = false := (str_some (by omega)).1
        have e7 : ¬ s.toList = [] := (str_some (by omega)).2
        have e8 : (s.toList == (⟨#[]⟩ : ByteArray).toList) = false := hbeq_of s ⟨#[]⟩ (fun e => hq (by rw [e]; rfl))
        clear hq HV q_tag q_kind
        go_enter Tryz.func66, Tryz.ntmps66
        go_wp2
        all_goals
          go_ret
          exact ⟨ret_bool HF.out.symm, (Ext.refl _).alloc _⟩
    · have HF : Hid (v = false) := Lib.hid (by rw [← HV.out]; unfold isNd; simp only [Nd.tag, Nd.kind, Nd.n, Nd.s, Nd.kids]; simp [hq])
      have e3 : (k == 1) = false := by rw [beq_eq_false_iff_ne]; exact hq
      have e4 : (k != 1) = true := by rw [bne_iff_ne]; exact hq
      clear hq HV q_tag
      go_enter Tryz.func66, Tryz.ntmps66
      go_wp2
      all_goals
        go_ret
        exact ⟨ret_bool HF.out.symm, (Ext.refl _).alloc _⟩
  · have HF : Hid (v = false) := Lib.hid (by rw [← HV.out]; unfold isNd; simp only [Nd.tag, Nd.kind, Nd.n, Nd.s, Nd.kids]; simp [hq])
    have e1 : (t == tag) = false := by rw [beq_eq_false_iff_ne]; exact hq
    have e2 : (t != tag) = true := by rw [bne_iff_ne]; exact hq
    clear hq HV 
    go_enter Tryz.func66, Tryz.ntmps66
    go_wp2
    all_goals
      go_ret
      exact ⟨ret_bool HF.out.symm, (Ext.refl _).alloc _⟩


set_option maxRecDepth 100000 in
set_option maxHeartbeats 6400000 in
theorem isNode_2 (x : Nd) (M : Option Addr × Nat) (tag : Int) (w : World) (hs : x.s.size ≤ 9223372036854775807) (hl : x.kids.length ≤ 9223372036854775807) :
    Calls Tryz.prog 66 #[nda x M, .int .i64 tag, .int .i64 2] w fun e w' => e = .returned (.bool (isNd x tag 2)) ∧ Ext w w' := by
  obtain ⟨t, k, n, s, ks⟩ := x
  obtain ⟨v, hv⟩ : ∃ v, isNd (.mk t k n s ks) tag 2 = v := ⟨_, rfl⟩
  rw [hv]
  have HV : Hid (isNd (.mk t k n s ks) tag 2 = v) := Lib.hid hv
  clear hv
  simp only [nda, Nd.tag, Nd.kind, Nd.n, Nd.s, Nd.kids] at hs hl ⊢
  by_cases hq : t = tag
  · have q_tag := Lib.hid hq
    have e1 : (t == tag) = true := by rw [hq]; simp
    have e2 : (t != tag) = false := by rw [hq]; simp
    clear hq
    by_cases hq : k = 2
    · have q_kind := Lib.hid hq
      have e3 : (k == 2) = true := by rw [hq]; rfl
      have e4 : (k != 2) = false := by rw [hq]; rfl
      clear hq
      by_cases hq : n = 0
      · have q_n := Lib.hid hq
        have e5 : (n == 0) = true := by rw [hq]; rfl
        clear hq
        by_cases hq : ks.length = 0
        · have q_kids := Lib.hid hq
          have e9 : ((ks.length : Int) == 0) = true := by rw [hq]; rfl
          have e10 : ks = [] := List.eq_nil_of_length_eq_zero hq
          clear hq
          have HF : Hid (v = true) := Lib.hid (by rw [← HV.out]; unfold isNd; simp only [Nd.tag, Nd.kind, Nd.n, Nd.s, Nd.kids]; simp [q_tag.out, q_kind.out, q_n.out, q_kids.out])
          clear HV q_tag q_kind q_n q_kids
          go_enter Tryz.func66, Tryz.ntmps66
          go_wp2
          all_goals
            go_ret
            exact ⟨ret_bool HF.out.symm, (Ext.refl _).alloc _⟩
        · have HF : Hid (v = false) := Lib.hid (by rw [← HV.out]; unfold isNd; simp only [Nd.tag, Nd.kind, Nd.n, Nd.s, Nd.kids]; simp [hq])
          have e9 : ((ks.length : Int) == 0) = false := by rw [beq_eq_false_iff_ne]; omega
          have e10 : ¬ ks = [] := fun e => hq (by rw [e]; rfl)
          clear hq HV q_tag q_kind q_n
          go_enter Tryz.func66, Tryz.ntmps66
          go_wp2
          all_goals
            go_ret
            exact ⟨ret_bool HF.out.symm, (Ext.refl _).alloc _⟩
      · have HF : Hid (v = false) := Lib.hid (by rw [← HV.out]; unfold isNd; simp only [Nd.tag, Nd.kind, Nd.n, Nd.s, Nd.kids]; simp [hq])
        have e5 : (n == 0) = false := by rw [beq_eq_false_iff_ne]; exact hq
        clear hq HV q_tag q_kind
        go_enter Tryz.func66, Tryz.ntmps66
        go_wp2
        all_goals
          go_ret
          exact ⟨ret_bool HF.out.symm, (Ext.refl _).alloc _⟩
    · have HF : Hid (v = false) := Lib.hid (by rw [← HV.out]; unfold isNd; simp only [Nd.tag, Nd.kind, Nd.n, Nd.s, Nd.kids]; simp [hq])
      have e3 : (k == 2) = false := by rw [beq_eq_false_iff_ne]; exact hq
      have e4 : (k != 2) = true := by rw [bne_iff_ne]; exact hq
      clear hq HV q_tag
      go_enter Tryz.func66, Tryz.ntmps66
      go_wp2
      all_goals
        go_ret
        exact ⟨ret_bool HF.out.symm, (Ext.refl _).alloc _⟩
  · have HF : Hid (v = false) := Lib.hid (by rw [← HV.out]; unfold isNd; simp only [Nd.tag, Nd.kind, Nd.n, Nd.s, Nd.kids]; simp [hq])
    have e1 : (t == tag) = false := by rw [beq_eq_false_iff_ne]; exact hq
    have e2 : (t != tag) = true := by rw [bne_iff_ne]; exact hq
    clear hq HV 
    go_enter Tryz.func66, Tryz.ntmps66
    go_wp2
    all_goals
      go_ret
      exact ⟨ret_bool HF.out.symm, (Ext.refl _).alloc _⟩


set_option maxRecDepth 100000 in
set_option maxHeartbeats 6400000 in
theorem isNode_3 (x : Nd) (M : Option Addr × Nat) (tag : Int) (w : World) (hs : x.s.size ≤ 9223372036854775807) (hl : x.kids.length ≤ 9223372036854775807) :
    Calls Tryz.prog 66 #[nda x M, .int .i64 tag, .int .i64 3] w fun e w' => e = .returned (.bool (isNd x tag 3)) ∧ Ext w w' := by
  obtain ⟨t, k, n, s, ks⟩ := x
  obtain ⟨v, hv⟩ : ∃ v, isNd (.mk t k n s ks) tag 3 = v := ⟨_, rfl⟩
  rw [hv]
  have HV : Hid (isNd (.mk t k n s ks) tag 3 = v) := Lib.hid hv
  clear hv
  simp only [nda, Nd.tag, Nd.kind, Nd.n, Nd.s, Nd.kids] at hs hl ⊢
  by_cases hq : t = tag
  · have q_tag := Lib.hid hq
    have e1 : (t == tag) = true := by rw [hq]; simp
    have e2 : (t != tag) = false := by rw [hq]; simp
    clear hq
    by_cases hq : k = 3
    · have q_kind := Lib.hid hq
      have e3 : (k == 3) = true := by rw [hq]; rfl
      have e4 : (k != 3) = false := by rw [hq]; rfl
      clear hq
      by_cases hq : n = 0
      · have q_n := Lib.hid hq
        have e5 : (n == 0) = true := by rw [hq]; rfl
        clear hq
        by_cases hq : s.size = 0
        · have q_s := Lib.hid hq
          have e6 : s.toList = [] := str_empty hq
          have e7 : s.toList.isEmpty = true := by rw [e6]; rfl
          have e8 : (s.toList == (⟨#[]⟩ : ByteArray).toList) = true := by rw [e6]; simp [ByteArray.toList_eq]
          clear hq
          have HF : Hid (v = true) := Lib.hid (by rw [← HV.out]; unfold isNd; simp only [Nd.tag, Nd.kind, Nd.n, Nd.s, Nd.kids]; simp [q_tag.out, q_kind.out, q_n.out, q_s.out])
          clear HV q_tag q_kind q_n q_s
          go_enter Tryz.func66, Tryz.ntmps66
          go_wp2
          all_goals
            go_ret
            exact ⟨ret_bool HF.out.symm, (Ext.refl _).alloc _⟩
        · have HF : Hid (v = false) := Lib.hid (by rw [← HV.out]; unfold isNd; simp only [Nd.tag, Nd.kind, Nd.n, Nd.s, Nd.kids]; simp [hq])
          have e6 : s.toList.isEmpty = false := (str_some (by omega)).1
          have e7 : ¬ s.toList = [] := (str_some (by omega)).2
          have e8 : (s.toList == (⟨#[]⟩ : ByteArray).toList) = false := hbeq_of s ⟨#[]⟩ (fun e => hq (by rw [e]; rfl))
          clear hq HV q_tag q_kind q_n
          go_enter Tryz.func66, Tryz.ntmps66
          go_wp2
          all_goals
            go_ret
            exact ⟨ret_bool HF.out.symm, (Ext.refl _).alloc _⟩
      · have HF : Hid (v = false) := Lib.hid (by rw [← HV.out]; unfold isNd; simp only [Nd.tag, Nd.kind, Nd.n, Nd.s, Nd.kids]; simp [hq])
        have e5 : (n == 0) = false := by rw [beq_eq_false_iff_ne]; exact hq
        clear hq HV q_tag q_kind
        go_enter Tryz.func66, Tryz.ntmps66
        go_wp2
        all_goals
          go_ret
          exact ⟨ret_bool HF.out.symm, (Ext.refl _).alloc _⟩
    · have HF : Hid (v = false) := Lib.hid (by rw [← HV.out]; unfold isNd; simp only [Nd.tag, Nd.kind, Nd.n, Nd.s, Nd.kids]; simp [hq])
      have e3 : (k == 3) = false := by rw [beq_eq_false_iff_ne]; exact hq
      have e4 : (k != 3) = true := by rw [bne_iff_ne]; exact hq
      clear hq HV q_tag
      go_enter Tryz.func66, Tryz.ntmps66
      go_wp2
      all_goals
        go_ret
        exact ⟨ret_bool HF.out.symm, (Ext.refl _).alloc _⟩
  · have HF : Hid (v = false) := Lib.hid (by rw [← HV.out]; unfold isNd; simp only [Nd.tag, Nd.kind, Nd.n, Nd.s, Nd.kids]; simp [hq])
    have e1 : (t == tag) = false := by rw [beq_eq_false_iff_ne]; exact hq
    have e2 : (t != tag) = true := by rw [bne_iff_ne]; exact hq
    clear hq HV 
    go_enter Tryz.func66, Tryz.ntmps66
    go_wp2
    all_goals
      go_ret
      exact ⟨ret_bool HF.out.symm, (Ext.refl _).alloc _⟩


set_option maxRecDepth 100000 in
set_option maxHeartbeats 6400000 in
theorem formed_1 (x : Nd) (M : Option Addr × Nat) (tag : Int) (w : World) (hs : x.s.size ≤ 9223372036854775807) (hl : x.kids.length ≤ 9223372036854775807) :
    Calls Tryz.prog 45 #[nda x M, .int .i64 tag, .int .i64 1] w fun e w' => e = .returned (.bool (isNd x tag 1)) ∧ Ext w w' := by
  obtain ⟨t, k, n, s, ks⟩ := x
  obtain ⟨v, hv⟩ : ∃ v, isNd (.mk t k n s ks) tag 1 = v := ⟨_, rfl⟩
  rw [hv]
  have HV : Hid (isNd (.mk t k n s ks) tag 1 = v) := Lib.hid hv
  clear hv
  simp only [nda, Nd.tag, Nd.kind, Nd.n, Nd.s, Nd.kids] at hs hl ⊢
  by_cases hq : t = tag
  · have q_tag := Lib.hid hq
    have e1 : (t == tag) = true := by rw [hq]; simp
    have e2 : (t != tag) = false := by rw [hq]; simp
    clear hq
    by_cases hq : k = 1
    · have q_kind := Lib.hid hq
      have e3 : (k == 1) = true := by rw [hq]; rfl
      have e4 : (k != 1) = false := by rw [hq]; rfl
      clear hq
      by_cases hq : s.size = 0
      · have q_s := Lib.hid hq
        have e6 : s.toList = [] := str_empty hq
        have e7 : s.toList.isEmpty = true := by rw [e6]; rfl
        have e8 : (s.toList == (⟨#[]⟩ : ByteArray).toList) = true := by rw [e6]; simp [ByteArray.toList_eq]
        clear hq
        by_cases hq : ks.length = 0
        · have q_kids := Lib.hid hq
          have e9 : ((ks.length : Int) == 0) = true := by rw [hq]; rfl
          have e10 : ks = [] := List.eq_nil_of_length_eq_zero hq
          clear hq
          have HF : Hid (v = true) := Lib.hid (by rw [← HV.out]; unfold isNd; simp only [Nd.tag, Nd.kind, Nd.n, Nd.s, Nd.kids]; simp [q_tag.out, q_kind.out, q_s.out, q_kids.out])
          clear HV q_tag q_kind q_s q_kids
          go_enter Tryz.func45, Tryz.ntmps45
          go_wp2
          all_goals
            go_ret
            exact ⟨ret_bool HF.out.symm, (Ext.refl _).alloc _⟩
        · have HF : Hid (v = false) := Lib.hid (by rw [← HV.out]; unfold isNd; simp only [Nd.tag, Nd.kind, Nd.n, Nd.s, Nd.kids]; simp [hq])
          have e9 : ((ks.length : Int) == 0) = false := by rw [beq_eq_false_iff_ne]; omega
          have e10 : ¬ ks = [] := fun e => hq (by rw [e]; rfl)
          clear hq HV q_tag q_kind q_s
          go_enter Tryz.func45, Tryz.ntmps45
          go_wp2
          all_goals
            go_ret
            exact ⟨ret_bool HF.out.symm, (Ext.refl _).alloc _⟩
      · have HF : Hid (v = false) := Lib.hid (by rw [← HV.out]; unfold isNd; simp only [Nd.tag, Nd.kind, Nd.n, Nd.s, Nd.kids]; simp [hq])
        have e6 : s.toList.isEmpty = false := (str_some (by omega)).1
        have e7 : ¬ s.toList = [] := (str_some (by omega)).2
        have e8 : (s.toList == (⟨#[]⟩ : ByteArray).toList) = false := hbeq_of s ⟨#[]⟩ (fun e => hq (by rw [e]; rfl))
        clear hq HV q_tag q_kind
        go_enter Tryz.func45, Tryz.ntmps45
        go_wp2
        all_goals
          go_ret
          exact ⟨ret_bool HF.out.symm, (Ext.refl _).alloc _⟩
    · have HF : Hid (v = false) := Lib.hid (by rw [← HV.out]; unfold isNd; simp only [Nd.tag, Nd.kind, Nd.n, Nd.s, Nd.kids]; simp [hq])
      have e3 : (k == 1) = false := by rw [beq_eq_false_iff_ne]; exact hq
      have e4 : (k != 1) = true := by rw [bne_iff_ne]; exact hq
      clear hq HV q_tag
      go_enter Tryz.func45, Tryz.ntmps45
      go_wp2
      all_goals
        go_ret
        exact ⟨ret_bool HF.out.symm, (Ext.refl _).alloc _⟩
  · have HF : Hid (v = false) := Lib.hid (by rw [← HV.out]; unfold isNd; simp only [Nd.tag, Nd.kind, Nd.n, Nd.s, Nd.kids]; simp [hq])
    have e1 : (t == tag) = false := by rw [beq_eq_false_iff_ne]; exact hq
    have e2 : (t != tag) = true := by rw [bne_iff_ne]; exact hq
    clear hq HV 
    go_enter Tryz.func45, Tryz.ntmps45
    go_wp2
    all_goals
      go_ret
      exact ⟨ret_bool HF.out.symm, (Ext.refl _).alloc _⟩


set_option maxRecDepth 100000 in
set_option maxHeartbeats 6400000 in
theorem formed_2 (x : Nd) (M : Option Addr × Nat) (tag : Int) (w : World) (hs : x.s.size ≤ 9223372036854775807) (hl : x.kids.length ≤ 9223372036854775807) :
    Calls Tryz.prog 45 #[nda x M, .int .i64 tag, .int .i64 2] w fun e w' => e = .returned (.bool (isNd x tag 2)) ∧ Ext w w' := by
  obtain ⟨t, k, n, s, ks⟩ := x
  obtain ⟨v, hv⟩ : ∃ v, isNd (.mk t k n s ks) tag 2 = v := ⟨_, rfl⟩
  rw [hv]
  have HV : Hid (isNd (.mk t k n s ks) tag 2 = v) := Lib.hid hv
  clear hv
  simp only [nda, Nd.tag, Nd.kind, Nd.n, Nd.s, Nd.kids] at hs hl ⊢
  by_cases hq : t = tag
  · have q_tag := Lib.hid hq
    have e1 : (t == tag) = true := by rw [hq]; simp
    have e2 : (t != tag) = false := by rw [hq]; simp
    clear hq
    by_cases hq : k = 2
    · have q_kind := Lib.hid hq
      have e3 : (k == 2) = true := by rw [hq]; rfl
      have e4 : (k != 2) = false := by rw [hq]; rfl
      clear hq
      by_cases hq : n = 0
      · have q_n := Lib.hid hq
        have e5 : (n == 0) = true := by rw [hq]; rfl
        clear hq
        by_cases hq : ks.length = 0
        · have q_kids := Lib.hid hq
          have e9 : ((ks.length : Int) == 0) = true := by rw [hq]; rfl
          have e10 : ks = [] := List.eq_nil_of_length_eq_zero hq
          clear hq
          have HF : Hid (v = true) := Lib.hid (by rw [← HV.out]; unfold isNd; simp only [Nd.tag, Nd.kind, Nd.n, Nd.s, Nd.kids]; simp [q_tag.out, q_kind.out, q_n.out, q_kids.out])
          clear HV q_tag q_kind q_n q_kids
          go_enter Tryz.func45, Tryz.ntmps45
          go_wp2
          all_goals
            go_ret
            exact ⟨ret_bool HF.out.symm, (Ext.refl _).alloc _⟩
        · have HF : Hid (v = false) := Lib.hid (by rw [← HV.out]; unfold isNd; simp only [Nd.tag, Nd.kind, Nd.n, Nd.s, Nd.kids]; simp [hq])
          have e9 : ((ks.length : Int) == 0) = false := by rw [beq_eq_false_iff_ne]; omega
          have e10 : ¬ ks = [] := fun e => hq (by rw [e]; rfl)
          clear hq HV q_tag q_kind q_n
          go_enter Tryz.func45, Tryz.ntmps45
          go_wp2
          all_goals
            go_ret
            exact ⟨ret_bool HF.out.symm, (Ext.refl _).alloc _⟩
      · have HF : Hid (v = false) := Lib.hid (by rw [← HV.out]; unfold isNd; simp only [Nd.tag, Nd.kind, Nd.n, Nd.s, Nd.kids]; simp [hq])
        have e5 : (n == 0) = false := by rw [beq_eq_false_iff_ne]; exact hq
        clear hq HV q_tag q_kind
        go_enter Tryz.func45, Tryz.ntmps45
        go_wp2
        all_goals
          go_ret
          exact ⟨ret_bool HF.out.symm, (Ext.refl _).alloc _⟩
    · have HF : Hid (v = false) := Lib.hid (by rw [← HV.out]; unfold isNd; simp only [Nd.tag, Nd.kind, Nd.n, Nd.s, Nd.kids]; simp [hq])
      have e3 : (k == 2) = false := by rw [beq_eq_false_iff_ne]; exact hq
      have e4 : (k != 2) = true := by rw [bne_iff_ne]; exact hq
      clear hq HV q_tag
      go_enter Tryz.func45, Tryz.ntmps45
      go_wp2
      all_goals
        go_ret
        exact ⟨ret_bool HF.out.symm, (Ext.refl _).alloc _⟩
  · have HF : Hid (v = false) := Lib.hid (by rw [← HV.out]; unfold isNd; simp only [Nd.tag, Nd.kind, Nd.n, Nd.s, Nd.kids]; simp [hq])
    have e1 : (t == tag) = false := by rw [beq_eq_false_iff_ne]; exact hq
    have e2 : (t != tag) = true := by rw [bne_iff_ne]; exact hq
    clear hq HV 
    go_enter Tryz.func45, Tryz.ntmps45
    go_wp2
    all_goals
      go_ret
      exact ⟨ret_bool HF.out.symm, (Ext.refl _).alloc _⟩


set_option maxRecDepth 100000 in
set_option maxHeartbeats 6400000 in
theorem formed_3 (x : Nd) (M : Option Addr × Nat) (tag : Int) (w : World) (hs : x.s.size ≤ 9223372036854775807) (hl : x.kids.length ≤ 9223372036854775807) :
    Calls Tryz.prog 45 #[nda x M, .int .i64 tag, .int .i64 3] w fun e w' => e = .returned (.bool (isNd x tag 3)) ∧ Ext w w' := by
  obtain ⟨t, k, n, s, ks⟩ := x
  obtain ⟨v, hv⟩ : ∃ v, isNd (.mk t k n s ks) tag 3 = v := ⟨_, rfl⟩
  rw [hv]
  have HV : Hid (isNd (.mk t k n s ks) tag 3 = v) := Lib.hid hv
  clear hv
  simp only [nda, Nd.tag, Nd.kind, Nd.n, Nd.s, Nd.kids] at hs hl ⊢
  by_cases hq : t = tag
  · have q_tag := Lib.hid hq
    have e1 : (t == tag) = true := by rw [hq]; simp
    have e2 : (t != tag) = false := by rw [hq]; simp
    clear hq
    by_cases hq : k = 3
    · have q_kind := Lib.hid hq
      have e3 : (k == 3) = true := by rw [hq]; rfl
      have e4 : (k != 3) = false := by rw [hq]; rfl
      clear hq
      by_cases hq : n = 0
      · have q_n := Lib.hid hq
        have e5 : (n == 0) = true := by rw [hq]; rfl
        clear hq
        by_cases hq : s.size = 0
        · have q_s := Lib.hid hq
          have e6 : s.toList = [] := str_empty hq
          have e7 : s.toList.isEmpty = true := by rw [e6]; rfl
          have e8 : (s.toList == (⟨#[]⟩ : ByteArray).toList) = true := by rw [e6]; simp [ByteArray.toList_eq]
          clear hq
          have HF : Hid (v = true) := Lib.hid (by rw [← HV.out]; unfold isNd; simp only [Nd.tag, Nd.kind, Nd.n, Nd.s, Nd.kids]; simp [q_tag.out, q_kind.out, q_n.out, q_s.out])
          clear HV q_tag q_kind q_n q_s
          go_enter Tryz.func45, Tryz.ntmps45
          go_wp2
          all_goals
            go_ret
            exact ⟨ret_bool HF.out.symm, (Ext.refl _).alloc _⟩
        · have HF : Hid (v = false) := Lib.hid (by rw [← HV.out]; unfold isNd; simp only [Nd.tag, Nd.kind, Nd.n, Nd.s, Nd.kids]; simp [hq])
          have e6 : s.toList.isEmpty = false := (str_some (by omega)).1
          have e7 : ¬ s.toList = [] := (str_some (by omega)).2
          have e8 : (s.toList == (⟨#[]⟩ : ByteArray).toList) = false := hbeq_of s ⟨#[]⟩ (fun e => hq (by rw [e]; rfl))
          clear hq HV q_tag q_kind q_n
          go_enter Tryz.func45, Tryz.ntmps45
          go_wp2
          all_goals
            go_ret
            exact ⟨ret_bool HF.out.symm, (Ext.refl _).alloc _⟩
      · have HF : Hid (v = false) := Lib.hid (by rw [← HV.out]; unfold isNd; simp only [Nd.tag, Nd.kind, Nd.n, Nd.s, Nd.kids]; simp [hq])
        have e5 : (n == 0) = false := by rw [beq_eq_false_iff_ne]; exact hq
        clear hq HV q_tag q_kind
        go_enter Tryz.func45, Tryz.ntmps45
        go_wp2
        all_goals
          go_ret
          exact ⟨ret_bool HF.out.symm, (Ext.refl _).alloc _⟩
    · have HF : Hid (v = false) := Lib.hid (by rw [← HV.out]; unfold isNd; simp only [Nd.tag, Nd.kind, Nd.n, Nd.s, Nd.kids]; simp [hq])
      have e3 : (k == 3) = false := by rw [beq_eq_false_iff_ne]; exact hq
      have e4 : (k != 3) = true := by rw [bne_iff_ne]; exact hq
      clear hq HV q_tag
      go_enter Tryz.func45, Tryz.ntmps45
      go_wp2
      all_goals
        go_ret
        exact ⟨ret_bool HF.out.symm, (Ext.refl _).alloc _⟩
  · have HF : Hid (v = false) := Lib.hid (by rw [← HV.out]; unfold isNd; simp only [Nd.tag, Nd.kind, Nd.n, Nd.s, Nd.kids]; simp [hq])
    have e1 : (t == tag) = false := by rw [beq_eq_false_iff_ne]; exact hq
    have e2 : (t != tag) = true := by rw [bne_iff_ne]; exact hq
    clear hq HV 
    go_enter Tryz.func45, Tryz.ntmps45
    go_wp2
    all_goals
      go_ret
      exact ⟨ret_bool HF.out.symm, (Ext.refl _).alloc _⟩

end Go.Proofs.YtdaccamiipknmaaGreatDoor
